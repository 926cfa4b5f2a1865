/- Lean functions with the same answers as the Go functions that one law reaches, and for each a proof that its call comes to just these answers. No condition. Written by pr.py, a program of this session. -/
import Derived.Test.YtafkbhkikdndnaaCutFnExactFirstOpen
import Derived.Test.YtafkbhkikdndnaaPFnExactFirstOpenx0
import Derived.Test.YtafkbhkikdndnaaPFnExactFirstOpenx3
namespace Go.Proofs.Ytafkbhkikdndnaa.PFnExactFirstOpen
open Go.RowKit Go.Proofs.YtafkbhkikdndnaaW.PrintWords Go.Proofs.YtafkbhkikdndnaaW.PrintLast Go.Proofs.YtafkbhkikdndnaaW.PrintMore Go.Proofs.Ytafkbhkikdndnaa.Sq
attribute [local go_sem] max2_int min2_int max_two min_two max_three min_three max_four min_four   -- for this text's walks alone
set_option linter.unusedVariables false
set_option linter.unusedSimpArgs false

/-! ### spec_GoodWindow: function 56 -/
mutual
def spec_GoodWindow.j0 : Nat → Int → Bool → List ByteArray → Int → List Bool → List (S128) → List ByteArray → List Bool → Int → Option (Bool)
  | 0, _, _, _, _, _, _, _, _, _ => none
  | k + 1, x3, x55, x169000, x169001, x169002, x169003, x169004, x169005, x169006 => if x55 = true then (some false) else (spec_GoodWindow.l0 k x3 x169000 (x169000.length : Int) 0 x169000 x169001 x169002 x169003 x169004 x169005 x169006)
def spec_GoodWindow.l0 : Nat → Int → List ByteArray → Int → Int → List ByteArray → Int → List Bool → List (S128) → List ByteArray → List Bool → Int → Option (Bool)
  | 0, _, _, _, _, _, _, _, _, _, _, _ => none
  | k + 1, x3, x57, x58, x59, x169000, x169001, x169002, x169003, x169004, x169005, x169006 => if x59 < x58 then (if 0 ≤ x59 then (if x59 < (x57.length : Int) then (if x59 < (x169005.length : Int) then (if rdOf false x169005 x59 = true then (if x59 < (x169004.length : Int) then (if (rdOf ByteArray.empty x169004 x59).toList = (rdOf ByteArray.empty x57 x59).toList then (spec_GoodWindow.l0 k x3 x57 x58 (wrap64 (x59 + 1)) x169000 x169001 x169002 x169003 x169004 x169005 x169006) else (some false)) else (none)) else (if x59 < (x169004.length : Int) then (if (rdOf ByteArray.empty x169004 x59).toList = ([] : List UInt8) then (if x59 < (x169002.length : Int) then (if rdOf false x169002 x59 = true then (some false) else (spec_GoodWindow.l0 k x3 x57 x58 (wrap64 (x59 + 1)) x169000 x169001 x169002 x169003 x169004 x169005 x169006)) else (none)) else (some false)) else (none))) else (none)) else (none)) else (none)) else (spec_GoodWindow.l1 k x3 x169003 (x169003.length : Int) 0 x169000 x169001 x169002 x169003 x169004 x169005 x169006)
def spec_GoodWindow.l1 : Nat → Int → List (S128) → Int → Int → List ByteArray → Int → List Bool → List (S128) → List ByteArray → List Bool → Int → Option (Bool)
  | 0, _, _, _, _, _, _, _, _, _, _, _ => none
  | k + 1, x3, x103, x104, x105, x169000, x169001, x169002, x169003, x169004, x169005, x169006 => if x105 < x104 then (if 0 ≤ x105 then (if x105 < (x103.length : Int) then (if ((rd_T128 x103 x105).f1) < 0 then (some false) else (if ((rd_T128 x103 x105).f1) ≥ x3 then (some false) else (if (rd_T128 x103 x105).f0 = true then (if ((rd_T128 x103 x105).f2).toList = ([] : List UInt8) then (if 0 ≤ ((rd_T128 x103 x105).f1) then (if ((rd_T128 x103 x105).f1) < (x169005.length : Int) then (if (rdOf false x169005 ((rd_T128 x103 x105).f1) = true) then (if ((rd_T128 x103 x105).f0 = true) then (spec_GoodWindow.l1 k x3 x103 x104 (wrap64 (x105 + 1)) x169000 x169001 x169002 x169003 x169004 x169005 x169006) else (if ((rd_T128 x103 x105).f1) < (x169000.length : Int) then (if ((rd_T128 x103 x105).f2).toList = (rdOf ByteArray.empty x169000 ((rd_T128 x103 x105).f1)).toList then (spec_GoodWindow.l1 k x3 x103 x104 (wrap64 (x105 + 1)) x169000 x169001 x169002 x169003 x169004 x169005 x169006) else (some false)) else (none))) else (some false)) else (none)) else (none)) else (some false)) else (if ((rd_T128 x103 x105).f0 = true) then (spec_GoodWindow.l1 k x3 x103 x104 (wrap64 (x105 + 1)) x169000 x169001 x169002 x169003 x169004 x169005 x169006) else (if 0 ≤ ((rd_T128 x103 x105).f1) then (if ((rd_T128 x103 x105).f1) < (x169000.length : Int) then (if ((rd_T128 x103 x105).f2).toList = (rdOf ByteArray.empty x169000 ((rd_T128 x103 x105).f1)).toList then (spec_GoodWindow.l1 k x3 x103 x104 (wrap64 (x105 + 1)) x169000 x169001 x169002 x169003 x169004 x169005 x169006) else (some false)) else (none)) else (none)))))) else (none)) else (none)) else (some true)
end
def spec_GoodWindow.f (k : Nat) (l0_0 : List ByteArray) (a0_1 : Int) (l0_2 : List Bool) (l0_3 : List (S128)) (l0_4 : List ByteArray) (l0_5 : List Bool) (a0_6 : Int) : Option (Bool) := (spec_l9Pieces.f k l0_0).bind fun t169 => (if t169 = true then ((spec_l1In.f a0_1 1 12).bind fun t170 => (if t170 = true then (if (l0_2.length : Int) = (l0_0.length : Int) then (if (l0_4.length : Int) = (l0_0.length : Int) then (if (l0_5.length : Int) = (l0_0.length : Int) then ((spec_l9Told.f k l0_5).bind fun t171 => (if a0_6 = t171 then (spec_GoodWindow.j0 k (l0_0.length : Int) (decide ((l0_3.length : Int) > 30)) l0_0 a0_1 l0_2 l0_3 l0_4 l0_5 a0_6) else (spec_GoodWindow.j0 k (l0_0.length : Int) true l0_0 a0_1 l0_2 l0_3 l0_4 l0_5 a0_6))) else (spec_GoodWindow.j0 k (l0_0.length : Int) true l0_0 a0_1 l0_2 l0_3 l0_4 l0_5 a0_6)) else (spec_GoodWindow.j0 k (l0_0.length : Int) true l0_0 a0_1 l0_2 l0_3 l0_4 l0_5 a0_6)) else (spec_GoodWindow.j0 k (l0_0.length : Int) true l0_0 a0_1 l0_2 l0_3 l0_4 l0_5 a0_6)) else (spec_GoodWindow.j0 k (l0_0.length : Int) true l0_0 a0_1 l0_2 l0_3 l0_4 l0_5 a0_6))) else (spec_GoodWindow.j0 k (l0_0.length : Int) true l0_0 a0_1 l0_2 l0_3 l0_4 l0_5 a0_6))
theorem spec_GoodWindow.mono_l : ∀ k, (∀ y0 y1 y2 y3 y4 y5 y6 y7 y8, LeO (spec_GoodWindow.j0 k y0 y1 y2 y3 y4 y5 y6 y7 y8) (spec_GoodWindow.j0 (k + 1) y0 y1 y2 y3 y4 y5 y6 y7 y8)) ∧ (∀ y0 y1 y2 y3 y4 y5 y6 y7 y8 y9 y10, LeO (spec_GoodWindow.l0 k y0 y1 y2 y3 y4 y5 y6 y7 y8 y9 y10) (spec_GoodWindow.l0 (k + 1) y0 y1 y2 y3 y4 y5 y6 y7 y8 y9 y10)) ∧ (∀ y0 y1 y2 y3 y4 y5 y6 y7 y8 y9 y10, LeO (spec_GoodWindow.l1 k y0 y1 y2 y3 y4 y5 y6 y7 y8 y9 y10) (spec_GoodWindow.l1 (k + 1) y0 y1 y2 y3 y4 y5 y6 y7 y8 y9 y10))
  | 0 => ⟨fun _ _ _ _ _ _ _ _ _ r h => by simp [spec_GoodWindow.j0] at h, fun _ _ _ _ _ _ _ _ _ _ _ r h => by simp [spec_GoodWindow.l0] at h, fun _ _ _ _ _ _ _ _ _ _ _ r h => by simp [spec_GoodWindow.l1] at h⟩
  | k + 1 => by
    obtain ⟨ih0, ih1, ih2⟩ := spec_GoodWindow.mono_l k
    refine ⟨?_, ?_, ?_⟩
    · intro y0 y1 y2 y3 y4 y5 y6 y7 y8
      unfold spec_GoodWindow.j0
      repeat' first
      | (with_reducible exact ih0 _ _ _ _ _ _ _ _ _)
      | (with_reducible exact ih1 _ _ _ _ _ _ _ _ _ _ _)
      | (with_reducible exact ih2 _ _ _ _ _ _ _ _ _ _ _)
      | (with_reducible exact spec_l9Pieces.mono _ _)
      | (with_reducible exact spec_l9Told.mono _ _)
      | (with_reducible exact LeO.refl _)
      | (with_reducible exact LeO.none _)
      | (with_reducible refine LeO.ite ?_ ?_)
      | (with_reducible refine LeO.bind ?_ (fun _ => ?_))
      | exact ih0 _ _ _ _ _ _ _ _ _
      | exact ih1 _ _ _ _ _ _ _ _ _ _ _
      | exact ih2 _ _ _ _ _ _ _ _ _ _ _
      | exact spec_l9Pieces.mono _ _
      | exact spec_l9Told.mono _ _
      | exact LeO.none _
      | refine LeO.ite ?_ ?_
      | refine LeO.bind ?_ (fun _ => ?_)
    · intro y0 y1 y2 y3 y4 y5 y6 y7 y8 y9 y10
      unfold spec_GoodWindow.l0
      repeat' first
      | (with_reducible exact ih0 _ _ _ _ _ _ _ _ _)
      | (with_reducible exact ih1 _ _ _ _ _ _ _ _ _ _ _)
      | (with_reducible exact ih2 _ _ _ _ _ _ _ _ _ _ _)
      | (with_reducible exact spec_l9Pieces.mono _ _)
      | (with_reducible exact spec_l9Told.mono _ _)
      | (with_reducible exact LeO.refl _)
      | (with_reducible exact LeO.none _)
      | (with_reducible refine LeO.ite ?_ ?_)
      | (with_reducible refine LeO.bind ?_ (fun _ => ?_))
      | exact ih0 _ _ _ _ _ _ _ _ _
      | exact ih1 _ _ _ _ _ _ _ _ _ _ _
      | exact ih2 _ _ _ _ _ _ _ _ _ _ _
      | exact spec_l9Pieces.mono _ _
      | exact spec_l9Told.mono _ _
      | exact LeO.none _
      | refine LeO.ite ?_ ?_
      | refine LeO.bind ?_ (fun _ => ?_)
    · intro y0 y1 y2 y3 y4 y5 y6 y7 y8 y9 y10
      unfold spec_GoodWindow.l1
      repeat' first
      | (with_reducible exact ih0 _ _ _ _ _ _ _ _ _)
      | (with_reducible exact ih1 _ _ _ _ _ _ _ _ _ _ _)
      | (with_reducible exact ih2 _ _ _ _ _ _ _ _ _ _ _)
      | (with_reducible exact spec_l9Pieces.mono _ _)
      | (with_reducible exact spec_l9Told.mono _ _)
      | (with_reducible exact LeO.refl _)
      | (with_reducible exact LeO.none _)
      | (with_reducible refine LeO.ite ?_ ?_)
      | (with_reducible refine LeO.bind ?_ (fun _ => ?_))
      | exact ih0 _ _ _ _ _ _ _ _ _
      | exact ih1 _ _ _ _ _ _ _ _ _ _ _
      | exact ih2 _ _ _ _ _ _ _ _ _ _ _
      | exact spec_l9Pieces.mono _ _
      | exact spec_l9Told.mono _ _
      | exact LeO.none _
      | refine LeO.ite ?_ ?_
      | refine LeO.bind ?_ (fun _ => ?_)
theorem spec_GoodWindow.mono : ∀ a0 a1 a2 a3 a4 a5 a6 k, LeO (spec_GoodWindow.f k a0 a1 a2 a3 a4 a5 a6) (spec_GoodWindow.f (k + 1) a0 a1 a2 a3 a4 a5 a6) := by
  intro a0 a1 a2 a3 a4 a5 a6 k
  obtain ⟨ih0, ih1, ih2⟩ := spec_GoodWindow.mono_l k
  unfold spec_GoodWindow.f
  repeat' first
      | (with_reducible exact ih0 _ _ _ _ _ _ _ _ _)
      | (with_reducible exact ih1 _ _ _ _ _ _ _ _ _ _ _)
      | (with_reducible exact ih2 _ _ _ _ _ _ _ _ _ _ _)
      | (with_reducible exact spec_l9Pieces.mono _ _)
      | (with_reducible exact spec_l9Told.mono _ _)
      | (with_reducible exact LeO.refl _)
      | (with_reducible exact LeO.none _)
      | (with_reducible refine LeO.ite ?_ ?_)
      | (with_reducible refine LeO.bind ?_ (fun _ => ?_))
      | exact ih0 _ _ _ _ _ _ _ _ _
      | exact ih1 _ _ _ _ _ _ _ _ _ _ _
      | exact ih2 _ _ _ _ _ _ _ _ _ _ _
      | exact spec_l9Pieces.mono _ _
      | exact spec_l9Told.mono _ _
      | exact LeO.none _
      | refine LeO.ite ?_ ?_
      | refine LeO.bind ?_ (fun _ => ?_)
def spec_GoodWindow.T2 : Bool × List (List Nat × List Nat) := (true, [([], []), ([0], [0]), ([1], [1]), ([2], [2]), ([3, 2], [3]), ([4], [4]), ([5, 4], [4, 5]), ([6, 4, 4], [4, 6]), ([7, 4], [4, 7]), ([4, 8], [4, 8]), ([9, 7], [9]), ([10], [10]), ([11, 10], [10, 11]), ([12, 10], [10, 12]), ([10], [10]), ([13, 14, 10], [10, 13, 14]), ([10, 15], [10, 15]), ([16, 10], [16]), ([17], [17]), ([18, 17], [17, 18]), ([19, 17], [17, 19]), ([17], [17]), ([20, 21, 17], [17, 20, 21]), ([17, 22], [17, 22]), ([23, 17], [23]), ([24], [24]), ([25, 24], [24, 25]), ([26, 24], [24, 26]), ([24], [24]), ([27, 28, 24], [24, 27, 28]), ([24, 29], [24, 29]), ([30, 24], [30]), ([31], [31]), ([32, 31], [31, 32]), ([31], [31]), ([34, 31], [31, 34]), ([35, 31, 31], [31, 35]), ([33, 36, 31], [31, 33, 36]), ([31, 37], [31, 37]), ([38, 36], [38]), ([39], [39]), ([40, 39], [39, 40]), ([41, 39], [39, 41]), ([42, 39], [39, 42]), ([39, 43], [39, 43])])
def spec_GoodWindow.B2 : List Nat := [0, 1, 3, 7, 15, 31, 63, 127, 255, 511, 1023, 2047, 4095, 8191, 2047, 32767, 65535, 131071, 262143, 524287, 1048575, 262143, 4194303, 8388607, 16777215, 33554431, 67108863, 134217727, 33554431, 536870911, 1073741823, 2147483647, 4294967295, 8589934591, 4294967295, 21474836479, 55834574847, 137438953471, 274877906943, 549755813887, 1099511627775, 2199023255551, 4398046511103, 8796093022207, 17592186044415]
theorem spec_GoodWindow.tab2 : rtab .any (opsOf Try.f56 2) = spec_GoodWindow.T2 := by kernel_rfl
theorem spec_GoodWindow.bits2 : waitsOk spec_GoodWindow.T2.2 spec_GoodWindow.B2 = true := by kernel_rfl
def spec_GoodWindow.T13 : Bool × List (List Nat × List Nat) := (true, [([], []), ([0], [0]), ([1], [1]), ([2], [2]), ([3], [3]), ([4, 3], [3, 4]), ([3], [3]), ([5, 6, 3], [3, 5, 6]), ([3, 7], [3, 7]), ([8, 3], [8]), ([9], [9]), ([10, 9], [9, 10]), ([11, 9, 9], [9, 11]), ([12], [12]), ([13, 12], [12, 13]), ([14, 12], [12, 14]), ([15, 12, 12], [12, 15]), ([16], [16]), ([17, 16], [16, 17]), ([16], [16]), ([19, 16], [16, 19]), ([18, 20, 16], [16, 18, 20]), ([21, 16], [16, 21]), ([22, 16], [16, 22]), ([16, 23, 12], [12, 16, 23]), ([12, 24, 9], [9, 12, 24]), ([9, 25], [9, 25]), ([26, 16], [26]), ([27], [27]), ([28, 27], [27, 28]), ([29, 27], [27, 29]), ([30, 27, 27], [27, 30]), ([31], [31]), ([32, 31], [31, 32]), ([31], [31]), ([34, 31], [31, 34]), ([31], [31]), ([36, 31], [31, 36]), ([35, 37, 31], [31, 35, 37]), ([38, 31], [31, 38]), ([33, 39, 31], [31, 33, 39]), ([31, 40, 27], [27, 31, 40]), ([27, 41], [27, 41])])
def spec_GoodWindow.B13 : List Nat := [0, 1, 3, 7, 15, 31, 15, 127, 255, 511, 1023, 2047, 4095, 8191, 16383, 32767, 65535, 131071, 262143, 131071, 655359, 2097151, 4194303, 8388607, 16777215, 33554431, 67108863, 134217727, 268435455, 536870911, 1073741823, 2147483647, 4294967295, 8589934591, 4294967295, 21474836479, 4294967295, 73014444031, 261993005055, 536870911999, 1099511627775, 2199023255551, 4398046511103]
theorem spec_GoodWindow.tab13 : rtab .any (opsOf Try.f56 13) = spec_GoodWindow.T13 := by kernel_rfl
theorem spec_GoodWindow.bits13 : waitsOk spec_GoodWindow.T13.2 spec_GoodWindow.B13 = true := by kernel_rfl
set_option maxHeartbeats 8000000 in
set_option maxRecDepth 100000 in
theorem spec_GoodWindow.calls (k : Nat) (A0_0 : Option Addr) (c0_0 : Nat) (l0_0 : List ByteArray) (a0_1 : Int) (A0_2 : Option Addr) (c0_2 : Nat) (l0_2 : List Bool) (A0_3 : Option Addr) (c0_3 : Nat) (l0_3 : List (S128)) (A0_4 : Option Addr) (c0_4 : Nat) (l0_4 : List ByteArray) (A0_5 : Option Addr) (c0_5 : Nat) (l0_5 : List Bool) (a0_6 : Int) (r : Bool) (w : World) (hr0_0 : Kd.C Kd.string w A0_0 l0_0.length l0_0) (hc0_0 : l0_0.length ≤ c0_0) (hr0_2 : Kd.C Kd.bool w A0_2 l0_2.length l0_2) (hc0_2 : l0_2.length ≤ c0_2) (hr0_3 : Kd.C k128 w A0_3 l0_3.length l0_3) (hc0_3 : l0_3.length ≤ c0_3) (hr0_4 : Kd.C Kd.string w A0_4 l0_4.length l0_4) (hc0_4 : l0_4.length ≤ c0_4) (hr0_5 : Kd.C Kd.bool w A0_5 l0_5.length l0_5) (hc0_5 : l0_5.length ≤ c0_5) (h : spec_GoodWindow.f k l0_0 a0_1 l0_2 l0_3 l0_4 l0_5 a0_6 = some r) :
    Calls Try.prog 56 #[.agg #[.slice A0_0 l0_0.length c0_0, .int .i64 a0_1, .slice A0_2 l0_2.length c0_2, .slice A0_3 l0_3.length c0_3, .slice A0_4 l0_4.length c0_4, .slice A0_5 l0_5.length c0_5, .int .i64 a0_6]] w fun e w' => e = .returned (.bool r) ∧ Below w.heap.size w w' := by
 have hu66 := Try.underlying66
 have hu128 := Try.underlying128
 have HR0_0 := Aside0.mk hr0_0
 have HC0_0 := Aside0.mk hc0_0
 clear hr0_0 hc0_0
 have HR0_2 := Aside0.mk hr0_2
 have HC0_2 := Aside0.mk hc0_2
 clear hr0_2 hc0_2
 have HR0_3 := Aside0.mk hr0_3
 have HC0_3 := Aside0.mk hc0_3
 clear hr0_3 hc0_3
 have HR0_4 := Aside0.mk hr0_4
 have HC0_4 := Aside0.mk hc0_4
 clear hr0_4 hc0_4
 have HR0_5 := Aside0.mk hr0_5
 have HC0_5 := Aside0.mk hc0_5
 clear hr0_5 hc0_5
 have HB := Aside0.mk (Below.refl w.heap.size w)
 have H : ((spec_l9Pieces.f k l0_0).bind fun t169 => (if t169 = true then ((spec_l1In.f a0_1 1 12).bind fun t170 => (if t170 = true then (if (l0_2.length : Int) = (l0_0.length : Int) then (if (l0_4.length : Int) = (l0_0.length : Int) then (if (l0_5.length : Int) = (l0_0.length : Int) then ((spec_l9Told.f k l0_5).bind fun t171 => (if a0_6 = t171 then (spec_GoodWindow.j0 k (l0_0.length : Int) (decide ((l0_3.length : Int) > 30)) l0_0 a0_1 l0_2 l0_3 l0_4 l0_5 a0_6) else (spec_GoodWindow.j0 k (l0_0.length : Int) true l0_0 a0_1 l0_2 l0_3 l0_4 l0_5 a0_6))) else (spec_GoodWindow.j0 k (l0_0.length : Int) true l0_0 a0_1 l0_2 l0_3 l0_4 l0_5 a0_6)) else (spec_GoodWindow.j0 k (l0_0.length : Int) true l0_0 a0_1 l0_2 l0_3 l0_4 l0_5 a0_6)) else (spec_GoodWindow.j0 k (l0_0.length : Int) true l0_0 a0_1 l0_2 l0_3 l0_4 l0_5 a0_6)) else (spec_GoodWindow.j0 k (l0_0.length : Int) true l0_0 a0_1 l0_2 l0_3 l0_4 l0_5 a0_6))) else (spec_GoodWindow.j0 k (l0_0.length : Int) true l0_0 a0_1 l0_2 l0_3 l0_4 l0_5 a0_6))) = some r := h
 clear h
 have HC2 := Aside0.mk H
 clear H
 go_enter Try.func56, Try.ntmps56
 go_upto_region 2 with (first | ((with_reducible refine gate_dst (N := 1) rfl ?_); (try (refine gate_guard (by rfl) ?_; dsimp only)); refine box_event ?hg (N := 1) ?hd (cs := #[.slice A0_0 l0_0.length c0_0, .int .i64 a0_1, .slice A0_2 l0_2.length c0_2, .slice A0_3 l0_3.length c0_3, .slice A0_4 l0_4.length c0_4, .slice A0_5 l0_5.length c0_5, .int .i64 a0_6]) (t := 66) ?hr ?_; (case hd => rfl); (case hg => rfl); (case hr => first | (go_simp; done) | (go_simp; rfl)); intro gb168 hg w3 hbox hb; have n0_ := Aside0.mk (below_step (by repeat (first | (with_reducible first | exact HB.out | apply below_alloc | apply pw_below_drewN | apply below_drew1) | exact HB.out)) hb); have n1_ := Aside0.mk (hbox); have n2_ := Aside0.mk ((by rw [hg]; exact (below_size (by repeat (first | (with_reducible first | exact HB.out | apply below_alloc | apply pw_below_drewN | apply below_drew1) | exact HB.out))) : w.heap.size ≤ gb168)); have n3_ := Aside0.mk ((by rw [hg]; exact (below_size (by repeat (first | (with_reducible first | exact HB.out | apply below_alloc | apply pw_below_drewN | apply below_drew1) | exact HB.out))) : w.heap.size ≤ gb168)); clear HB; have HB := n0_; have BK168 := n1_; have GW168 := n2_; have GE168 := n3_; clear n0_ n1_ n2_ n3_; clear hb hbox hg; have hcz4_0 : w3.cell? ⟨gb168, 0, none⟩ = some (.slice A0_0 l0_0.length c0_0) := (blk_cell BK168.out 0).trans rfl; have hcz4_1 : w3.cell? ⟨gb168, 1, none⟩ = some (.int .i64 a0_1) := (blk_cell BK168.out 1).trans rfl; have hcz4_2 : w3.cell? ⟨gb168, 2, none⟩ = some (.slice A0_2 l0_2.length c0_2) := (blk_cell BK168.out 2).trans rfl; have hcz4_3 : w3.cell? ⟨gb168, 3, none⟩ = some (.slice A0_3 l0_3.length c0_3) := (blk_cell BK168.out 3).trans rfl; have hcz4_4 : w3.cell? ⟨gb168, 4, none⟩ = some (.slice A0_4 l0_4.length c0_4) := (blk_cell BK168.out 4).trans rfl; have hcz4_5 : w3.cell? ⟨gb168, 5, none⟩ = some (.slice A0_5 l0_5.length c0_5) := (blk_cell BK168.out 5).trans rfl; have hcz4_6 : w3.cell? ⟨gb168, 6, none⟩ = some (.int .i64 a0_6) := (blk_cell BK168.out 6).trans rfl; have hfz4_0 := blk_frozen BK168.out 0; have hfz4_1 := blk_frozen BK168.out 1; have hfz4_2 := blk_frozen BK168.out 2; have hfz4_3 := blk_frozen BK168.out 3; have hfz4_4 := blk_frozen BK168.out 4; have hfz4_5 := blk_frozen BK168.out 5; have hfz4_6 := blk_frozen BK168.out 6))
 (try simp only [Act.put, List.setIfInBounds_toArray, List.set_cons_zero, List.set_cons_succ])
 go_cut [55] (fun v55 wc => ∃ (kq : Nat) (x55_1 : Bool), v55 = .bool x55_1 ∧ Aside0 (spec_GoodWindow.j0 kq (l0_0.length : Int) x55_1 l0_0 a0_1 l0_2 l0_3 l0_4 l0_5 a0_6 = some r) ∧ Aside0 (kq ≤ k) ∧ Aside0 (wc.heap[gb168]? = some (.cells #[(.slice A0_0 l0_0.length c0_0), .int .i64 a0_1, (.slice A0_2 l0_2.length c0_2), (.slice A0_3 l0_3.length c0_3), (.slice A0_4 l0_4.length c0_4), (.slice A0_5 l0_5.length c0_5), .int .i64 a0_6] 66 (0, 0))) ∧ Aside0 (Below w.heap.size w wc))
 case first =>
  have H := HC2.out
  clear HC2
  replace H := Option.bind_eq_some_iff.mp H
  obtain ⟨t169, A50, H⟩ := H
  replace H : (if t169 = true then ((spec_l1In.f a0_1 1 12).bind fun t170 => (if t170 = true then (if (l0_2.length : Int) = (l0_0.length : Int) then (if (l0_4.length : Int) = (l0_0.length : Int) then (if (l0_5.length : Int) = (l0_0.length : Int) then ((spec_l9Told.f k l0_5).bind fun t171 => (if a0_6 = t171 then (spec_GoodWindow.j0 k (l0_0.length : Int) (decide ((l0_3.length : Int) > 30)) l0_0 a0_1 l0_2 l0_3 l0_4 l0_5 a0_6) else (spec_GoodWindow.j0 k (l0_0.length : Int) true l0_0 a0_1 l0_2 l0_3 l0_4 l0_5 a0_6))) else (spec_GoodWindow.j0 k (l0_0.length : Int) true l0_0 a0_1 l0_2 l0_3 l0_4 l0_5 a0_6)) else (spec_GoodWindow.j0 k (l0_0.length : Int) true l0_0 a0_1 l0_2 l0_3 l0_4 l0_5 a0_6)) else (spec_GoodWindow.j0 k (l0_0.length : Int) true l0_0 a0_1 l0_2 l0_3 l0_4 l0_5 a0_6)) else (spec_GoodWindow.j0 k (l0_0.length : Int) true l0_0 a0_1 l0_2 l0_3 l0_4 l0_5 a0_6))) else (spec_GoodWindow.j0 k (l0_0.length : Int) true l0_0 a0_1 l0_2 l0_3 l0_4 l0_5 a0_6)) = some r := H
  have A5 := Aside0.mk A50
  clear A50
  by_cases c6 : t169 = true
  ·subst c6
   have H1 : ((spec_l1In.f a0_1 1 12).bind fun t170 => (if t170 = true then (if (l0_2.length : Int) = (l0_0.length : Int) then (if (l0_4.length : Int) = (l0_0.length : Int) then (if (l0_5.length : Int) = (l0_0.length : Int) then ((spec_l9Told.f k l0_5).bind fun t171 => (if a0_6 = t171 then (spec_GoodWindow.j0 k (l0_0.length : Int) (decide ((l0_3.length : Int) > 30)) l0_0 a0_1 l0_2 l0_3 l0_4 l0_5 a0_6) else (spec_GoodWindow.j0 k (l0_0.length : Int) true l0_0 a0_1 l0_2 l0_3 l0_4 l0_5 a0_6))) else (spec_GoodWindow.j0 k (l0_0.length : Int) true l0_0 a0_1 l0_2 l0_3 l0_4 l0_5 a0_6)) else (spec_GoodWindow.j0 k (l0_0.length : Int) true l0_0 a0_1 l0_2 l0_3 l0_4 l0_5 a0_6)) else (spec_GoodWindow.j0 k (l0_0.length : Int) true l0_0 a0_1 l0_2 l0_3 l0_4 l0_5 a0_6)) else (spec_GoodWindow.j0 k (l0_0.length : Int) true l0_0 a0_1 l0_2 l0_3 l0_4 l0_5 a0_6))) = some r := by rw [if_pos rfl] at H; exact H
   clear H
   have H := H1
   clear H1
   replace H := Option.bind_eq_some_iff.mp H
   obtain ⟨t170, A70, H⟩ := H
   replace H : (if t170 = true then (if (l0_2.length : Int) = (l0_0.length : Int) then (if (l0_4.length : Int) = (l0_0.length : Int) then (if (l0_5.length : Int) = (l0_0.length : Int) then ((spec_l9Told.f k l0_5).bind fun t171 => (if a0_6 = t171 then (spec_GoodWindow.j0 k (l0_0.length : Int) (decide ((l0_3.length : Int) > 30)) l0_0 a0_1 l0_2 l0_3 l0_4 l0_5 a0_6) else (spec_GoodWindow.j0 k (l0_0.length : Int) true l0_0 a0_1 l0_2 l0_3 l0_4 l0_5 a0_6))) else (spec_GoodWindow.j0 k (l0_0.length : Int) true l0_0 a0_1 l0_2 l0_3 l0_4 l0_5 a0_6)) else (spec_GoodWindow.j0 k (l0_0.length : Int) true l0_0 a0_1 l0_2 l0_3 l0_4 l0_5 a0_6)) else (spec_GoodWindow.j0 k (l0_0.length : Int) true l0_0 a0_1 l0_2 l0_3 l0_4 l0_5 a0_6)) else (spec_GoodWindow.j0 k (l0_0.length : Int) true l0_0 a0_1 l0_2 l0_3 l0_4 l0_5 a0_6)) = some r := H
   have A7 := Aside0.mk A70
   clear A70
   by_cases c8 : t170 = true
   ·subst c8
    have H1 : (if (l0_2.length : Int) = (l0_0.length : Int) then (if (l0_4.length : Int) = (l0_0.length : Int) then (if (l0_5.length : Int) = (l0_0.length : Int) then ((spec_l9Told.f k l0_5).bind fun t171 => (if a0_6 = t171 then (spec_GoodWindow.j0 k (l0_0.length : Int) (decide ((l0_3.length : Int) > 30)) l0_0 a0_1 l0_2 l0_3 l0_4 l0_5 a0_6) else (spec_GoodWindow.j0 k (l0_0.length : Int) true l0_0 a0_1 l0_2 l0_3 l0_4 l0_5 a0_6))) else (spec_GoodWindow.j0 k (l0_0.length : Int) true l0_0 a0_1 l0_2 l0_3 l0_4 l0_5 a0_6)) else (spec_GoodWindow.j0 k (l0_0.length : Int) true l0_0 a0_1 l0_2 l0_3 l0_4 l0_5 a0_6)) else (spec_GoodWindow.j0 k (l0_0.length : Int) true l0_0 a0_1 l0_2 l0_3 l0_4 l0_5 a0_6)) = some r := by rw [if_pos rfl] at H; exact H
    clear H
    have H := H1
    clear H1
    by_cases c9 : (l0_2.length : Int) = (l0_0.length : Int)
    ·rw [if_pos c9] at H
     have c9b0 : ((l0_2.length : Int) == (l0_0.length : Int)) = true := beq_iff_eq.mpr c9
     have c9b1 : ((l0_2.length : Int) != (l0_0.length : Int)) = false := bne_eq_false_iff_eq.mpr c9
     have c9b2 : (l0_2.length == l0_0.length) = true := by first | simpa using c9 | (simp at c9 ⊢; omega)
     clear c9
     (first | rw [c9b0] | (simp only [i64_w, i32_w]; rw [c9b0]) | skip)
     by_cases c10 : (l0_4.length : Int) = (l0_0.length : Int)
     ·rw [if_pos c10] at H
      have c10b0 : ((l0_4.length : Int) == (l0_0.length : Int)) = true := beq_iff_eq.mpr c10
      have c10b1 : ((l0_4.length : Int) != (l0_0.length : Int)) = false := bne_eq_false_iff_eq.mpr c10
      have c10b2 : (l0_4.length == l0_0.length) = true := by first | simpa using c10 | (simp at c10 ⊢; omega)
      clear c10
      by_cases c11 : (l0_5.length : Int) = (l0_0.length : Int)
      ·rw [if_pos c11] at H
       have c11b0 : ((l0_5.length : Int) == (l0_0.length : Int)) = true := beq_iff_eq.mpr c11
       have c11b1 : ((l0_5.length : Int) != (l0_0.length : Int)) = false := bne_eq_false_iff_eq.mpr c11
       have c11b2 : (l0_5.length == l0_0.length) = true := by first | simpa using c11 | (simp at c11 ⊢; omega)
       clear c11
       replace H := Option.bind_eq_some_iff.mp H
       obtain ⟨t171, A120, H⟩ := H
       replace H : (if a0_6 = t171 then (spec_GoodWindow.j0 k (l0_0.length : Int) (decide ((l0_3.length : Int) > 30)) l0_0 a0_1 l0_2 l0_3 l0_4 l0_5 a0_6) else (spec_GoodWindow.j0 k (l0_0.length : Int) true l0_0 a0_1 l0_2 l0_3 l0_4 l0_5 a0_6)) = some r := H
       have A12 := Aside0.mk A120
       clear A120
       by_cases c13 : a0_6 = t171
       ·rw [if_pos c13] at H
        have c13b0 : (a0_6 == t171) = true := beq_iff_eq.mpr c13
        have c13b1 : (a0_6 != t171) = false := bne_eq_false_iff_eq.mpr c13
        clear c13
        have H' := Aside0.mk H
        clear H
        try go_wp2
        have n0_ := Aside0.mk (blk_drew BK168.out)
        have n1_ := Aside0.mk (below_drew1 HB.out)
        clear BK168
        clear HB
        have BK168 := n0_
        have HB := n1_
        clear n0_ n1_
        refine start_ (n := 45) (S := fun w' => w'.cell? ⟨gb168, 0, none⟩ = some (.slice A0_0 l0_0.length c0_0) ∧ w'.cell? ⟨gb168, 1, none⟩ = some (.int .i64 a0_1) ∧ w'.cell? ⟨gb168, 2, none⟩ = some (.slice A0_2 l0_2.length c0_2) ∧ w'.cell? ⟨gb168, 3, none⟩ = some (.slice A0_3 l0_3.length c0_3) ∧ w'.cell? ⟨gb168, 4, none⟩ = some (.slice A0_4 l0_4.length c0_4) ∧ w'.cell? ⟨gb168, 5, none⟩ = some (.slice A0_5 l0_5.length c0_5) ∧ w'.cell? ⟨gb168, 6, none⟩ = some (.int .i64 a0_6)) (ds := []) (pz 45 0) (by kernel_rfl) rfl rfl ⟨(blk_cell BK168.out 0).trans rfl, (blk_cell BK168.out 1).trans rfl, (blk_cell BK168.out 2).trans rfl, (blk_cell BK168.out 3).trans rfl, (blk_cell BK168.out 4).trans rfl, (blk_cell BK168.out 5).trans rfl, (blk_cell BK168.out 6).trans rfl⟩ (fun hHeld => ?_); refine with_tabW spec_GoodWindow.tab2 spec_GoodWindow.bits2 (fun HT_ HW_ => ?_)
        generalize w3.drew = w14 at BK168 HB hHeld ⊢
        refine sR 0 11 (pz 45 1) HT_ ?_
        refine sT 1 12 (pz 45 2) rfl rfl HT_ HW_ hHeld (by rintro w' ⟨s0, s1, s2, s3, s4, s5, s6⟩; go_simp; with_reducible rfl) ?_
        refine one_ (i := 2) (N := some 13) (pz 45 3) rfl rfl (one_of HT_.out (by kernel_rfl)) (by decide) (fun K hK => ?_)
        refine goes_ Try.func100 (by kernel_rfl) rfl #[.slice A0_0 l0_0.length c0_0] (by rfl) rfl rfl (by (try simp only [List.map_toArray, List.map_cons, List.map_nil]); first | done | rfl | (simp only [List.length_drop, List.length_take]; rfl)) ?_
        with_reducible refine (spec_l9Pieces.calls k _ _ l0_0 true _ ?side1 ?side2 A5.out).mono ?_
        (case side1 => repeat (first | exact (Kd.C_below HR0_0.out HB.out) | (with_reducible refine Kd.C_alloc ?_ _) | (with_reducible refine Kd.C_drewN ?_ _) | (with_reducible refine Kd.C_drew ?_)))
        (case side2 => exact HC0_0.out)
        rintro e w' ⟨rfl, ⟨nd, rfl⟩⟩
        refine ⟨_, rfl, ?_⟩
        refine hK.out _ _ ⟨(blk_cell BK168.out 0).trans rfl, (blk_cell BK168.out 1).trans rfl, (blk_cell BK168.out 2).trans rfl, (blk_cell BK168.out 3).trans rfl, (blk_cell BK168.out 4).trans rfl, (blk_cell BK168.out 5).trans rfl, (blk_cell BK168.out 6).trans rfl⟩ (fun hHeld => ?_)
        clear hK K
        refine norm_ (a' := ?_) ?_ ?_
        rotate_left
        ·show Act.put _ (some 13) _ = _
         simp only [Act.put, List.setIfInBounds_toArray, List.set_cons_zero, List.set_cons_succ, i64_w, i32_w]
         rfl
        refine sR 3 14 (pz 45 4) HT_ ?_
        refine sR 4 15 (pz 45 5) HT_ ?_
        refine sR 5 16 (pz 45 6) HT_ ?_
        refine sT 6 17 (pz 45 7) rfl rfl HT_ HW_ hHeld (by rintro w' ⟨s0, s1, s2, s3, s4, s5, s6⟩; go_simp; with_reducible rfl) ?_
        refine one_ (i := 7) (N := some 18) (pz 45 8) rfl rfl (one_of HT_.out (by kernel_rfl)) (by decide) (fun K hK => ?_)
        refine goes_ Try.func66 (by kernel_rfl) rfl #[.int .i64 a0_1, .int .i64 1, .int .i64 12] (by rfl) rfl rfl (by (try simp only [List.map_toArray, List.map_cons, List.map_nil]); first | done | rfl | (simp only [List.length_drop, List.length_take]; rfl)) ?_
        with_reducible refine (spec_l1In.calls a0_1 1 12 true _ A7.out).mono ?_
        rintro e w' ⟨rfl, ⟨nd, rfl⟩⟩
        refine ⟨_, rfl, ?_⟩
        refine hK.out _ _ ⟨(blk_cell BK168.out 0).trans rfl, (blk_cell BK168.out 1).trans rfl, (blk_cell BK168.out 2).trans rfl, (blk_cell BK168.out 3).trans rfl, (blk_cell BK168.out 4).trans rfl, (blk_cell BK168.out 5).trans rfl, (blk_cell BK168.out 6).trans rfl⟩ (fun hHeld => ?_)
        clear hK K
        refine norm_ (a' := ?_) ?_ ?_
        rotate_left
        ·show Act.put _ (some 18) _ = _
         simp only [Act.put, List.setIfInBounds_toArray, List.set_cons_zero, List.set_cons_succ, i64_w, i32_w]
         rfl
        refine sR 8 19 (pz 45 9) HT_ ?_
        refine sR 9 20 (pz 45 10) HT_ ?_
        refine sR 10 21 (pz 45 11) HT_ ?_
        refine sR 11 22 (pz 45 12) HT_ ?_
        refine sR 14 25 #[true, true, true, true, true, true, true, true, true, true, true, true, false, false, true, false, false, false, false, false, false, false, false, false, false, false, false, false, false, false, false, false, false, false, false, false, false, false, false, false, false, false, false, false, false] HT_ ?_
        refine sT 12 23 #[true, true, true, true, true, true, true, true, true, true, true, true, true, false, true, false, false, false, false, false, false, false, false, false, false, false, false, false, false, false, false, false, false, false, false, false, false, false, false, false, false, false, false, false, false] rfl rfl HT_ HW_ hHeld (by rintro w' ⟨s0, s1, s2, s3, s4, s5, s6⟩; go_simp; with_reducible rfl) ?_
        refine sR 13 24 (pz 45 15) HT_ ?_
        refine sR 15 26 (pz 45 16) HT_ ?_
        refine sR 16 27 (pz 45 17) HT_ ?_
        refine sR 17 28 (pz 45 18) HT_ ?_
        refine sR 18 29 (pz 45 19) HT_ ?_
        refine sR 21 32 #[true, true, true, true, true, true, true, true, true, true, true, true, true, true, true, true, true, true, true, false, false, true, false, false, false, false, false, false, false, false, false, false, false, false, false, false, false, false, false, false, false, false, false, false, false] HT_ ?_
        refine sT 19 30 #[true, true, true, true, true, true, true, true, true, true, true, true, true, true, true, true, true, true, true, true, false, true, false, false, false, false, false, false, false, false, false, false, false, false, false, false, false, false, false, false, false, false, false, false, false] rfl rfl HT_ HW_ hHeld (by rintro w' ⟨s0, s1, s2, s3, s4, s5, s6⟩; go_simp; with_reducible rfl) ?_
        refine sR 20 31 (pz 45 22) HT_ ?_
        refine sR 22 33 (pz 45 23) HT_ ?_
        refine sR 23 34 (pz 45 24) HT_ ?_
        refine sR 24 35 (pz 45 25) HT_ ?_
        refine sR 25 36 (pz 45 26) HT_ ?_
        refine sR 28 39 #[true, true, true, true, true, true, true, true, true, true, true, true, true, true, true, true, true, true, true, true, true, true, true, true, true, true, false, false, true, false, false, false, false, false, false, false, false, false, false, false, false, false, false, false, false] HT_ ?_
        refine sT 26 37 #[true, true, true, true, true, true, true, true, true, true, true, true, true, true, true, true, true, true, true, true, true, true, true, true, true, true, true, false, true, false, false, false, false, false, false, false, false, false, false, false, false, false, false, false, false] rfl rfl HT_ HW_ hHeld (by rintro w' ⟨s0, s1, s2, s3, s4, s5, s6⟩; go_simp; with_reducible rfl) ?_
        refine sR 27 38 (pz 45 29) HT_ ?_
        refine sR 29 40 (pz 45 30) HT_ ?_
        refine sR 30 41 (pz 45 31) HT_ ?_
        refine sR 31 42 (pz 45 32) HT_ ?_
        refine sR 32 43 (pz 45 33) HT_ ?_
        refine sR 34 45 #[true, true, true, true, true, true, true, true, true, true, true, true, true, true, true, true, true, true, true, true, true, true, true, true, true, true, true, true, true, true, true, true, true, false, true, false, false, false, false, false, false, false, false, false, false] HT_ ?_
        refine sT 33 44 (pz 45 35) rfl rfl HT_ HW_ hHeld (by rintro w' ⟨s0, s1, s2, s3, s4, s5, s6⟩; go_simp; with_reducible rfl) ?_
        refine sT 35 46 (pz 45 36) rfl rfl HT_ HW_ hHeld (by rintro w' ⟨s0, s1, s2, s3, s4, s5, s6⟩; go_simp; with_reducible rfl) ?_
        refine one_ (i := 36) (N := some 47) (pz 45 37) rfl rfl (one_of HT_.out (by kernel_rfl)) (by decide) (fun K hK => ?_)
        refine goes_ Try.func112 (by kernel_rfl) rfl #[.slice A0_5 l0_5.length c0_5] (by rfl) rfl rfl (by (try simp only [List.map_toArray, List.map_cons, List.map_nil]); first | done | rfl | (simp only [List.length_drop, List.length_take]; rfl)) ?_
        with_reducible refine (spec_l9Told.calls k _ _ l0_5 t171 _ ?side1 ?side2 A12.out).mono ?_
        (case side1 => repeat (first | exact (Kd.C_below HR0_5.out (by repeat (first | (with_reducible first | exact HB.out | apply below_alloc | apply pw_below_drewN | apply below_drew1 | refine below_set ?_ GE168.out) | exact HB.out))) | (with_reducible refine Kd.C_alloc ?_ _) | (with_reducible refine Kd.C_drewN ?_ _) | (with_reducible refine Kd.C_drew ?_)))
        (case side2 => exact HC0_5.out)
        rintro e w' ⟨rfl, ⟨nd, rfl⟩⟩
        refine ⟨_, rfl, ?_⟩
        refine hK.out _ _ ⟨(blk_cell BK168.out 0).trans rfl, (blk_cell BK168.out 1).trans rfl, (blk_cell BK168.out 2).trans rfl, (blk_cell BK168.out 3).trans rfl, (blk_cell BK168.out 4).trans rfl, (blk_cell BK168.out 5).trans rfl, (blk_cell BK168.out 6).trans rfl⟩ (fun hHeld => ?_)
        clear hK K
        refine norm_ (a' := ?_) ?_ ?_
        rotate_left
        ·show Act.put _ (some 47) _ = _
         simp only [Act.put, List.setIfInBounds_toArray, List.set_cons_zero, List.set_cons_succ, i64_w, i32_w]
         rfl
        refine sR 37 48 (pz 45 38) HT_ ?_
        refine sR 38 49 (pz 45 39) HT_ ?_
        refine sR 39 50 (pz 45 40) HT_ ?_
        refine sR 40 51 (pz 45 41) HT_ ?_
        refine sT 41 52 (pz 45 42) rfl rfl HT_ HW_ hHeld (by rintro w' ⟨s0, s1, s2, s3, s4, s5, s6⟩; go_simp; with_reducible rfl) ?_
        refine sR 42 53 (pz 45 43) HT_ ?_
        refine sR 43 54 (pz 45 44) HT_ ?_
        refine sR 44 55 (pz 45 45) HT_ ?_
        refine done_ (done_of HT_.out (by kernel_rfl)) ?_
        try go_wp2
        go_meet
        case rel => exact ⟨_, (decide ((l0_3.length : Int) > 30)), (by first | rfl | (simp; done) | (simp [*]; done)), H', ⟨by first | omega | exact Nat.le_refl _⟩, ⟨by (with_reducible repeat (first | refine blk_drewN ?_ _ | refine blk_drew ?_ | refine blk_alloc ?_ _)); exact BK168.out⟩, ⟨by repeat (first | (with_reducible first | exact HB.out | apply below_alloc | apply pw_below_drewN | apply below_drew1 | refine below_set ?_ GE168.out) | exact HB.out)⟩⟩
       ·rw [if_neg c13] at H
        have c13b0 : (a0_6 == t171) = false := beq_eq_false_iff_ne.mpr c13
        have c13b1 : (a0_6 != t171) = true := bne_iff_ne.mpr c13
        have H' := Aside0.mk H
        clear H
        try go_wp2
        have n0_ := Aside0.mk (blk_drew BK168.out)
        have n1_ := Aside0.mk (below_drew1 HB.out)
        clear BK168
        clear HB
        have BK168 := n0_
        have HB := n1_
        clear n0_ n1_
        refine start_ (n := 45) (S := fun w' => w'.cell? ⟨gb168, 0, none⟩ = some (.slice A0_0 l0_0.length c0_0) ∧ w'.cell? ⟨gb168, 1, none⟩ = some (.int .i64 a0_1) ∧ w'.cell? ⟨gb168, 2, none⟩ = some (.slice A0_2 l0_2.length c0_2) ∧ w'.cell? ⟨gb168, 3, none⟩ = some (.slice A0_3 l0_3.length c0_3) ∧ w'.cell? ⟨gb168, 4, none⟩ = some (.slice A0_4 l0_4.length c0_4) ∧ w'.cell? ⟨gb168, 5, none⟩ = some (.slice A0_5 l0_5.length c0_5) ∧ w'.cell? ⟨gb168, 6, none⟩ = some (.int .i64 a0_6)) (ds := []) (pz 45 0) (by kernel_rfl) rfl rfl ⟨(blk_cell BK168.out 0).trans rfl, (blk_cell BK168.out 1).trans rfl, (blk_cell BK168.out 2).trans rfl, (blk_cell BK168.out 3).trans rfl, (blk_cell BK168.out 4).trans rfl, (blk_cell BK168.out 5).trans rfl, (blk_cell BK168.out 6).trans rfl⟩ (fun hHeld => ?_); refine with_tabW spec_GoodWindow.tab2 spec_GoodWindow.bits2 (fun HT_ HW_ => ?_)
        generalize w3.drew = w15 at BK168 HB hHeld ⊢
        refine sR 0 11 (pz 45 1) HT_ ?_
        refine sT 1 12 (pz 45 2) rfl rfl HT_ HW_ hHeld (by rintro w' ⟨s0, s1, s2, s3, s4, s5, s6⟩; go_simp; with_reducible rfl) ?_
        refine one_ (i := 2) (N := some 13) (pz 45 3) rfl rfl (one_of HT_.out (by kernel_rfl)) (by decide) (fun K hK => ?_)
        refine goes_ Try.func100 (by kernel_rfl) rfl #[.slice A0_0 l0_0.length c0_0] (by rfl) rfl rfl (by (try simp only [List.map_toArray, List.map_cons, List.map_nil]); first | done | rfl | (simp only [List.length_drop, List.length_take]; rfl)) ?_
        with_reducible refine (spec_l9Pieces.calls k _ _ l0_0 true _ ?side1 ?side2 A5.out).mono ?_
        (case side1 => repeat (first | exact (Kd.C_below HR0_0.out HB.out) | (with_reducible refine Kd.C_alloc ?_ _) | (with_reducible refine Kd.C_drewN ?_ _) | (with_reducible refine Kd.C_drew ?_)))
        (case side2 => exact HC0_0.out)
        rintro e w' ⟨rfl, ⟨nd, rfl⟩⟩
        refine ⟨_, rfl, ?_⟩
        refine hK.out _ _ ⟨(blk_cell BK168.out 0).trans rfl, (blk_cell BK168.out 1).trans rfl, (blk_cell BK168.out 2).trans rfl, (blk_cell BK168.out 3).trans rfl, (blk_cell BK168.out 4).trans rfl, (blk_cell BK168.out 5).trans rfl, (blk_cell BK168.out 6).trans rfl⟩ (fun hHeld => ?_)
        clear hK K
        refine norm_ (a' := ?_) ?_ ?_
        rotate_left
        ·show Act.put _ (some 13) _ = _
         simp only [Act.put, List.setIfInBounds_toArray, List.set_cons_zero, List.set_cons_succ, i64_w, i32_w]
         rfl
        refine sR 3 14 (pz 45 4) HT_ ?_
        refine sR 4 15 (pz 45 5) HT_ ?_
        refine sR 5 16 (pz 45 6) HT_ ?_
        refine sT 6 17 (pz 45 7) rfl rfl HT_ HW_ hHeld (by rintro w' ⟨s0, s1, s2, s3, s4, s5, s6⟩; go_simp; with_reducible rfl) ?_
        refine one_ (i := 7) (N := some 18) (pz 45 8) rfl rfl (one_of HT_.out (by kernel_rfl)) (by decide) (fun K hK => ?_)
        refine goes_ Try.func66 (by kernel_rfl) rfl #[.int .i64 a0_1, .int .i64 1, .int .i64 12] (by rfl) rfl rfl (by (try simp only [List.map_toArray, List.map_cons, List.map_nil]); first | done | rfl | (simp only [List.length_drop, List.length_take]; rfl)) ?_
        with_reducible refine (spec_l1In.calls a0_1 1 12 true _ A7.out).mono ?_
        rintro e w' ⟨rfl, ⟨nd, rfl⟩⟩
        refine ⟨_, rfl, ?_⟩
        refine hK.out _ _ ⟨(blk_cell BK168.out 0).trans rfl, (blk_cell BK168.out 1).trans rfl, (blk_cell BK168.out 2).trans rfl, (blk_cell BK168.out 3).trans rfl, (blk_cell BK168.out 4).trans rfl, (blk_cell BK168.out 5).trans rfl, (blk_cell BK168.out 6).trans rfl⟩ (fun hHeld => ?_)
        clear hK K
        refine norm_ (a' := ?_) ?_ ?_
        rotate_left
        ·show Act.put _ (some 18) _ = _
         simp only [Act.put, List.setIfInBounds_toArray, List.set_cons_zero, List.set_cons_succ, i64_w, i32_w]
         rfl
        refine sR 8 19 (pz 45 9) HT_ ?_
        refine sR 9 20 (pz 45 10) HT_ ?_
        refine sR 10 21 (pz 45 11) HT_ ?_
        refine sR 11 22 (pz 45 12) HT_ ?_
        refine sR 14 25 #[true, true, true, true, true, true, true, true, true, true, true, true, false, false, true, false, false, false, false, false, false, false, false, false, false, false, false, false, false, false, false, false, false, false, false, false, false, false, false, false, false, false, false, false, false] HT_ ?_
        refine sT 12 23 #[true, true, true, true, true, true, true, true, true, true, true, true, true, false, true, false, false, false, false, false, false, false, false, false, false, false, false, false, false, false, false, false, false, false, false, false, false, false, false, false, false, false, false, false, false] rfl rfl HT_ HW_ hHeld (by rintro w' ⟨s0, s1, s2, s3, s4, s5, s6⟩; go_simp; with_reducible rfl) ?_
        refine sR 13 24 (pz 45 15) HT_ ?_
        refine sR 15 26 (pz 45 16) HT_ ?_
        refine sR 16 27 (pz 45 17) HT_ ?_
        refine sR 17 28 (pz 45 18) HT_ ?_
        refine sR 18 29 (pz 45 19) HT_ ?_
        refine sR 21 32 #[true, true, true, true, true, true, true, true, true, true, true, true, true, true, true, true, true, true, true, false, false, true, false, false, false, false, false, false, false, false, false, false, false, false, false, false, false, false, false, false, false, false, false, false, false] HT_ ?_
        refine sT 19 30 #[true, true, true, true, true, true, true, true, true, true, true, true, true, true, true, true, true, true, true, true, false, true, false, false, false, false, false, false, false, false, false, false, false, false, false, false, false, false, false, false, false, false, false, false, false] rfl rfl HT_ HW_ hHeld (by rintro w' ⟨s0, s1, s2, s3, s4, s5, s6⟩; go_simp; with_reducible rfl) ?_
        refine sR 20 31 (pz 45 22) HT_ ?_
        refine sR 22 33 (pz 45 23) HT_ ?_
        refine sR 23 34 (pz 45 24) HT_ ?_
        refine sR 24 35 (pz 45 25) HT_ ?_
        refine sR 25 36 (pz 45 26) HT_ ?_
        refine sR 28 39 #[true, true, true, true, true, true, true, true, true, true, true, true, true, true, true, true, true, true, true, true, true, true, true, true, true, true, false, false, true, false, false, false, false, false, false, false, false, false, false, false, false, false, false, false, false] HT_ ?_
        refine sT 26 37 #[true, true, true, true, true, true, true, true, true, true, true, true, true, true, true, true, true, true, true, true, true, true, true, true, true, true, true, false, true, false, false, false, false, false, false, false, false, false, false, false, false, false, false, false, false] rfl rfl HT_ HW_ hHeld (by rintro w' ⟨s0, s1, s2, s3, s4, s5, s6⟩; go_simp; with_reducible rfl) ?_
        refine sR 27 38 (pz 45 29) HT_ ?_
        refine sR 29 40 (pz 45 30) HT_ ?_
        refine sR 30 41 (pz 45 31) HT_ ?_
        refine sR 31 42 (pz 45 32) HT_ ?_
        refine sR 32 43 (pz 45 33) HT_ ?_
        refine sR 34 45 #[true, true, true, true, true, true, true, true, true, true, true, true, true, true, true, true, true, true, true, true, true, true, true, true, true, true, true, true, true, true, true, true, true, false, true, false, false, false, false, false, false, false, false, false, false] HT_ ?_
        refine sT 33 44 (pz 45 35) rfl rfl HT_ HW_ hHeld (by rintro w' ⟨s0, s1, s2, s3, s4, s5, s6⟩; go_simp; with_reducible rfl) ?_
        refine sT 35 46 (pz 45 36) rfl rfl HT_ HW_ hHeld (by rintro w' ⟨s0, s1, s2, s3, s4, s5, s6⟩; go_simp; with_reducible rfl) ?_
        refine one_ (i := 36) (N := some 47) (pz 45 37) rfl rfl (one_of HT_.out (by kernel_rfl)) (by decide) (fun K hK => ?_)
        refine goes_ Try.func112 (by kernel_rfl) rfl #[.slice A0_5 l0_5.length c0_5] (by rfl) rfl rfl (by (try simp only [List.map_toArray, List.map_cons, List.map_nil]); first | done | rfl | (simp only [List.length_drop, List.length_take]; rfl)) ?_
        with_reducible refine (spec_l9Told.calls k _ _ l0_5 t171 _ ?side1 ?side2 A12.out).mono ?_
        (case side1 => repeat (first | exact (Kd.C_below HR0_5.out (by repeat (first | (with_reducible first | exact HB.out | apply below_alloc | apply pw_below_drewN | apply below_drew1 | refine below_set ?_ GE168.out) | exact HB.out))) | (with_reducible refine Kd.C_alloc ?_ _) | (with_reducible refine Kd.C_drewN ?_ _) | (with_reducible refine Kd.C_drew ?_)))
        (case side2 => exact HC0_5.out)
        rintro e w' ⟨rfl, ⟨nd, rfl⟩⟩
        refine ⟨_, rfl, ?_⟩
        refine hK.out _ _ ⟨(blk_cell BK168.out 0).trans rfl, (blk_cell BK168.out 1).trans rfl, (blk_cell BK168.out 2).trans rfl, (blk_cell BK168.out 3).trans rfl, (blk_cell BK168.out 4).trans rfl, (blk_cell BK168.out 5).trans rfl, (blk_cell BK168.out 6).trans rfl⟩ (fun hHeld => ?_)
        clear hK K
        refine norm_ (a' := ?_) ?_ ?_
        rotate_left
        ·show Act.put _ (some 47) _ = _
         simp only [Act.put, List.setIfInBounds_toArray, List.set_cons_zero, List.set_cons_succ, i64_w, i32_w]
         rfl
        refine sR 37 48 (pz 45 38) HT_ ?_
        refine sR 38 49 (pz 45 39) HT_ ?_
        refine sR 39 50 (pz 45 40) HT_ ?_
        refine sU 40 51 (pz 45 41) HT_ ?_
        refine sU 41 52 (pz 45 42) HT_ ?_
        refine sU 42 53 (pz 45 43) HT_ ?_
        refine sU 43 54 (pz 45 44) HT_ ?_
        refine sR 44 55 (pz 45 45) HT_ ?_
        refine done_ (done_of HT_.out (by kernel_rfl)) ?_
        try go_wp2
        go_meet
        case rel => exact ⟨_, (true), (by first | rfl | (simp; done) | (simp [*]; done)), H', ⟨by first | omega | exact Nat.le_refl _⟩, ⟨by (with_reducible repeat (first | refine blk_drewN ?_ _ | refine blk_drew ?_ | refine blk_alloc ?_ _)); exact BK168.out⟩, ⟨by repeat (first | (with_reducible first | exact HB.out | apply below_alloc | apply pw_below_drewN | apply below_drew1 | refine below_set ?_ GE168.out) | exact HB.out)⟩⟩
      ·rw [if_neg c11] at H
       have c11b0 : ((l0_5.length : Int) == (l0_0.length : Int)) = false := beq_eq_false_iff_ne.mpr c11
       have c11b1 : ((l0_5.length : Int) != (l0_0.length : Int)) = true := bne_iff_ne.mpr c11
       have c11b2 : (l0_5.length == l0_0.length) = false := by first | simpa using c11 | (simp at c11 ⊢; omega)
       have H' := Aside0.mk H
       clear H
       try go_wp2
       have n0_ := Aside0.mk (blk_drew BK168.out)
       have n1_ := Aside0.mk (below_drew1 HB.out)
       clear BK168
       clear HB
       have BK168 := n0_
       have HB := n1_
       clear n0_ n1_
       refine start_ (n := 45) (S := fun w' => w'.cell? ⟨gb168, 0, none⟩ = some (.slice A0_0 l0_0.length c0_0) ∧ w'.cell? ⟨gb168, 1, none⟩ = some (.int .i64 a0_1) ∧ w'.cell? ⟨gb168, 2, none⟩ = some (.slice A0_2 l0_2.length c0_2) ∧ w'.cell? ⟨gb168, 3, none⟩ = some (.slice A0_3 l0_3.length c0_3) ∧ w'.cell? ⟨gb168, 4, none⟩ = some (.slice A0_4 l0_4.length c0_4) ∧ w'.cell? ⟨gb168, 5, none⟩ = some (.slice A0_5 l0_5.length c0_5) ∧ w'.cell? ⟨gb168, 6, none⟩ = some (.int .i64 a0_6)) (ds := []) (pz 45 0) (by kernel_rfl) rfl rfl ⟨(blk_cell BK168.out 0).trans rfl, (blk_cell BK168.out 1).trans rfl, (blk_cell BK168.out 2).trans rfl, (blk_cell BK168.out 3).trans rfl, (blk_cell BK168.out 4).trans rfl, (blk_cell BK168.out 5).trans rfl, (blk_cell BK168.out 6).trans rfl⟩ (fun hHeld => ?_); refine with_tabW spec_GoodWindow.tab2 spec_GoodWindow.bits2 (fun HT_ HW_ => ?_)
       generalize w3.drew = w16 at BK168 HB hHeld ⊢
       refine sR 0 11 (pz 45 1) HT_ ?_
       refine sT 1 12 (pz 45 2) rfl rfl HT_ HW_ hHeld (by rintro w' ⟨s0, s1, s2, s3, s4, s5, s6⟩; go_simp; with_reducible rfl) ?_
       refine one_ (i := 2) (N := some 13) (pz 45 3) rfl rfl (one_of HT_.out (by kernel_rfl)) (by decide) (fun K hK => ?_)
       refine goes_ Try.func100 (by kernel_rfl) rfl #[.slice A0_0 l0_0.length c0_0] (by rfl) rfl rfl (by (try simp only [List.map_toArray, List.map_cons, List.map_nil]); first | done | rfl | (simp only [List.length_drop, List.length_take]; rfl)) ?_
       with_reducible refine (spec_l9Pieces.calls k _ _ l0_0 true _ ?side1 ?side2 A5.out).mono ?_
       (case side1 => repeat (first | exact (Kd.C_below HR0_0.out HB.out) | (with_reducible refine Kd.C_alloc ?_ _) | (with_reducible refine Kd.C_drewN ?_ _) | (with_reducible refine Kd.C_drew ?_)))
       (case side2 => exact HC0_0.out)
       rintro e w' ⟨rfl, ⟨nd, rfl⟩⟩
       refine ⟨_, rfl, ?_⟩
       refine hK.out _ _ ⟨(blk_cell BK168.out 0).trans rfl, (blk_cell BK168.out 1).trans rfl, (blk_cell BK168.out 2).trans rfl, (blk_cell BK168.out 3).trans rfl, (blk_cell BK168.out 4).trans rfl, (blk_cell BK168.out 5).trans rfl, (blk_cell BK168.out 6).trans rfl⟩ (fun hHeld => ?_)
       clear hK K
       refine norm_ (a' := ?_) ?_ ?_
       rotate_left
       ·show Act.put _ (some 13) _ = _
        simp only [Act.put, List.setIfInBounds_toArray, List.set_cons_zero, List.set_cons_succ, i64_w, i32_w]
        rfl
       refine sR 3 14 (pz 45 4) HT_ ?_
       refine sR 4 15 (pz 45 5) HT_ ?_
       refine sR 5 16 (pz 45 6) HT_ ?_
       refine sT 6 17 (pz 45 7) rfl rfl HT_ HW_ hHeld (by rintro w' ⟨s0, s1, s2, s3, s4, s5, s6⟩; go_simp; with_reducible rfl) ?_
       refine one_ (i := 7) (N := some 18) (pz 45 8) rfl rfl (one_of HT_.out (by kernel_rfl)) (by decide) (fun K hK => ?_)
       refine goes_ Try.func66 (by kernel_rfl) rfl #[.int .i64 a0_1, .int .i64 1, .int .i64 12] (by rfl) rfl rfl (by (try simp only [List.map_toArray, List.map_cons, List.map_nil]); first | done | rfl | (simp only [List.length_drop, List.length_take]; rfl)) ?_
       with_reducible refine (spec_l1In.calls a0_1 1 12 true _ A7.out).mono ?_
       rintro e w' ⟨rfl, ⟨nd, rfl⟩⟩
       refine ⟨_, rfl, ?_⟩
       refine hK.out _ _ ⟨(blk_cell BK168.out 0).trans rfl, (blk_cell BK168.out 1).trans rfl, (blk_cell BK168.out 2).trans rfl, (blk_cell BK168.out 3).trans rfl, (blk_cell BK168.out 4).trans rfl, (blk_cell BK168.out 5).trans rfl, (blk_cell BK168.out 6).trans rfl⟩ (fun hHeld => ?_)
       clear hK K
       refine norm_ (a' := ?_) ?_ ?_
       rotate_left
       ·show Act.put _ (some 18) _ = _
        simp only [Act.put, List.setIfInBounds_toArray, List.set_cons_zero, List.set_cons_succ, i64_w, i32_w]
        rfl
       refine sR 8 19 (pz 45 9) HT_ ?_
       refine sR 9 20 (pz 45 10) HT_ ?_
       refine sR 10 21 (pz 45 11) HT_ ?_
       refine sR 11 22 (pz 45 12) HT_ ?_
       refine sR 14 25 #[true, true, true, true, true, true, true, true, true, true, true, true, false, false, true, false, false, false, false, false, false, false, false, false, false, false, false, false, false, false, false, false, false, false, false, false, false, false, false, false, false, false, false, false, false] HT_ ?_
       refine sT 12 23 #[true, true, true, true, true, true, true, true, true, true, true, true, true, false, true, false, false, false, false, false, false, false, false, false, false, false, false, false, false, false, false, false, false, false, false, false, false, false, false, false, false, false, false, false, false] rfl rfl HT_ HW_ hHeld (by rintro w' ⟨s0, s1, s2, s3, s4, s5, s6⟩; go_simp; with_reducible rfl) ?_
       refine sR 13 24 (pz 45 15) HT_ ?_
       refine sR 15 26 (pz 45 16) HT_ ?_
       refine sR 16 27 (pz 45 17) HT_ ?_
       refine sR 17 28 (pz 45 18) HT_ ?_
       refine sR 18 29 (pz 45 19) HT_ ?_
       refine sR 21 32 #[true, true, true, true, true, true, true, true, true, true, true, true, true, true, true, true, true, true, true, false, false, true, false, false, false, false, false, false, false, false, false, false, false, false, false, false, false, false, false, false, false, false, false, false, false] HT_ ?_
       refine sT 19 30 #[true, true, true, true, true, true, true, true, true, true, true, true, true, true, true, true, true, true, true, true, false, true, false, false, false, false, false, false, false, false, false, false, false, false, false, false, false, false, false, false, false, false, false, false, false] rfl rfl HT_ HW_ hHeld (by rintro w' ⟨s0, s1, s2, s3, s4, s5, s6⟩; go_simp; with_reducible rfl) ?_
       refine sR 20 31 (pz 45 22) HT_ ?_
       refine sR 22 33 (pz 45 23) HT_ ?_
       refine sR 23 34 (pz 45 24) HT_ ?_
       refine sR 24 35 (pz 45 25) HT_ ?_
       refine sR 25 36 (pz 45 26) HT_ ?_
       refine sR 28 39 #[true, true, true, true, true, true, true, true, true, true, true, true, true, true, true, true, true, true, true, true, true, true, true, true, true, true, false, false, true, false, false, false, false, false, false, false, false, false, false, false, false, false, false, false, false] HT_ ?_
       refine sT 26 37 #[true, true, true, true, true, true, true, true, true, true, true, true, true, true, true, true, true, true, true, true, true, true, true, true, true, true, true, false, true, false, false, false, false, false, false, false, false, false, false, false, false, false, false, false, false] rfl rfl HT_ HW_ hHeld (by rintro w' ⟨s0, s1, s2, s3, s4, s5, s6⟩; go_simp; with_reducible rfl) ?_
       refine sR 27 38 (pz 45 29) HT_ ?_
       refine sR 29 40 (pz 45 30) HT_ ?_
       refine sR 30 41 (pz 45 31) HT_ ?_
       refine sR 31 42 (pz 45 32) HT_ ?_
       refine sU 32 43 (pz 45 33) HT_ ?_
       refine sU 33 44 (pz 45 34) HT_ ?_
       refine sU 34 45 (pz 45 35) HT_ ?_
       refine sU 35 46 (pz 45 36) HT_ ?_
       refine sU 36 47 (pz 45 37) HT_ ?_
       refine sU 37 48 (pz 45 38) HT_ ?_
       refine sR 38 49 (pz 45 39) HT_ ?_
       refine sR 39 50 (pz 45 40) HT_ ?_
       refine sU 40 51 (pz 45 41) HT_ ?_
       refine sU 41 52 (pz 45 42) HT_ ?_
       refine sU 42 53 (pz 45 43) HT_ ?_
       refine sU 43 54 (pz 45 44) HT_ ?_
       refine sR 44 55 (pz 45 45) HT_ ?_
       refine done_ (done_of HT_.out (by kernel_rfl)) ?_
       try go_wp2
       go_meet
       case rel => exact ⟨_, (true), (by first | rfl | (simp; done) | (simp [*]; done)), H', ⟨by first | omega | exact Nat.le_refl _⟩, ⟨by (with_reducible repeat (first | refine blk_drewN ?_ _ | refine blk_drew ?_ | refine blk_alloc ?_ _)); exact BK168.out⟩, ⟨by repeat (first | (with_reducible first | exact HB.out | apply below_alloc | apply pw_below_drewN | apply below_drew1 | refine below_set ?_ GE168.out) | exact HB.out)⟩⟩
     ·rw [if_neg c10] at H
      have c10b0 : ((l0_4.length : Int) == (l0_0.length : Int)) = false := beq_eq_false_iff_ne.mpr c10
      have c10b1 : ((l0_4.length : Int) != (l0_0.length : Int)) = true := bne_iff_ne.mpr c10
      have c10b2 : (l0_4.length == l0_0.length) = false := by first | simpa using c10 | (simp at c10 ⊢; omega)
      have H' := Aside0.mk H
      clear H
      try go_wp2
      have n0_ := Aside0.mk (blk_drew BK168.out)
      have n1_ := Aside0.mk (below_drew1 HB.out)
      clear BK168
      clear HB
      have BK168 := n0_
      have HB := n1_
      clear n0_ n1_
      refine start_ (n := 45) (S := fun w' => w'.cell? ⟨gb168, 0, none⟩ = some (.slice A0_0 l0_0.length c0_0) ∧ w'.cell? ⟨gb168, 1, none⟩ = some (.int .i64 a0_1) ∧ w'.cell? ⟨gb168, 2, none⟩ = some (.slice A0_2 l0_2.length c0_2) ∧ w'.cell? ⟨gb168, 3, none⟩ = some (.slice A0_3 l0_3.length c0_3) ∧ w'.cell? ⟨gb168, 4, none⟩ = some (.slice A0_4 l0_4.length c0_4) ∧ w'.cell? ⟨gb168, 5, none⟩ = some (.slice A0_5 l0_5.length c0_5) ∧ w'.cell? ⟨gb168, 6, none⟩ = some (.int .i64 a0_6)) (ds := []) (pz 45 0) (by kernel_rfl) rfl rfl ⟨(blk_cell BK168.out 0).trans rfl, (blk_cell BK168.out 1).trans rfl, (blk_cell BK168.out 2).trans rfl, (blk_cell BK168.out 3).trans rfl, (blk_cell BK168.out 4).trans rfl, (blk_cell BK168.out 5).trans rfl, (blk_cell BK168.out 6).trans rfl⟩ (fun hHeld => ?_); refine with_tabW spec_GoodWindow.tab2 spec_GoodWindow.bits2 (fun HT_ HW_ => ?_)
      generalize w3.drew = w17 at BK168 HB hHeld ⊢
      refine sR 0 11 (pz 45 1) HT_ ?_
      refine sT 1 12 (pz 45 2) rfl rfl HT_ HW_ hHeld (by rintro w' ⟨s0, s1, s2, s3, s4, s5, s6⟩; go_simp; with_reducible rfl) ?_
      refine one_ (i := 2) (N := some 13) (pz 45 3) rfl rfl (one_of HT_.out (by kernel_rfl)) (by decide) (fun K hK => ?_)
      refine goes_ Try.func100 (by kernel_rfl) rfl #[.slice A0_0 l0_0.length c0_0] (by rfl) rfl rfl (by (try simp only [List.map_toArray, List.map_cons, List.map_nil]); first | done | rfl | (simp only [List.length_drop, List.length_take]; rfl)) ?_
      with_reducible refine (spec_l9Pieces.calls k _ _ l0_0 true _ ?side1 ?side2 A5.out).mono ?_
      (case side1 => repeat (first | exact (Kd.C_below HR0_0.out HB.out) | (with_reducible refine Kd.C_alloc ?_ _) | (with_reducible refine Kd.C_drewN ?_ _) | (with_reducible refine Kd.C_drew ?_)))
      (case side2 => exact HC0_0.out)
      rintro e w' ⟨rfl, ⟨nd, rfl⟩⟩
      refine ⟨_, rfl, ?_⟩
      refine hK.out _ _ ⟨(blk_cell BK168.out 0).trans rfl, (blk_cell BK168.out 1).trans rfl, (blk_cell BK168.out 2).trans rfl, (blk_cell BK168.out 3).trans rfl, (blk_cell BK168.out 4).trans rfl, (blk_cell BK168.out 5).trans rfl, (blk_cell BK168.out 6).trans rfl⟩ (fun hHeld => ?_)
      clear hK K
      refine norm_ (a' := ?_) ?_ ?_
      rotate_left
      ·show Act.put _ (some 13) _ = _
       simp only [Act.put, List.setIfInBounds_toArray, List.set_cons_zero, List.set_cons_succ, i64_w, i32_w]
       rfl
      refine sR 3 14 (pz 45 4) HT_ ?_
      refine sR 4 15 (pz 45 5) HT_ ?_
      refine sR 5 16 (pz 45 6) HT_ ?_
      refine sT 6 17 (pz 45 7) rfl rfl HT_ HW_ hHeld (by rintro w' ⟨s0, s1, s2, s3, s4, s5, s6⟩; go_simp; with_reducible rfl) ?_
      refine one_ (i := 7) (N := some 18) (pz 45 8) rfl rfl (one_of HT_.out (by kernel_rfl)) (by decide) (fun K hK => ?_)
      refine goes_ Try.func66 (by kernel_rfl) rfl #[.int .i64 a0_1, .int .i64 1, .int .i64 12] (by rfl) rfl rfl (by (try simp only [List.map_toArray, List.map_cons, List.map_nil]); first | done | rfl | (simp only [List.length_drop, List.length_take]; rfl)) ?_
      with_reducible refine (spec_l1In.calls a0_1 1 12 true _ A7.out).mono ?_
      rintro e w' ⟨rfl, ⟨nd, rfl⟩⟩
      refine ⟨_, rfl, ?_⟩
      refine hK.out _ _ ⟨(blk_cell BK168.out 0).trans rfl, (blk_cell BK168.out 1).trans rfl, (blk_cell BK168.out 2).trans rfl, (blk_cell BK168.out 3).trans rfl, (blk_cell BK168.out 4).trans rfl, (blk_cell BK168.out 5).trans rfl, (blk_cell BK168.out 6).trans rfl⟩ (fun hHeld => ?_)
      clear hK K
      refine norm_ (a' := ?_) ?_ ?_
      rotate_left
      ·show Act.put _ (some 18) _ = _
       simp only [Act.put, List.setIfInBounds_toArray, List.set_cons_zero, List.set_cons_succ, i64_w, i32_w]
       rfl
      refine sR 8 19 (pz 45 9) HT_ ?_
      refine sR 9 20 (pz 45 10) HT_ ?_
      refine sR 10 21 (pz 45 11) HT_ ?_
      refine sR 11 22 (pz 45 12) HT_ ?_
      refine sR 14 25 #[true, true, true, true, true, true, true, true, true, true, true, true, false, false, true, false, false, false, false, false, false, false, false, false, false, false, false, false, false, false, false, false, false, false, false, false, false, false, false, false, false, false, false, false, false] HT_ ?_
      refine sT 12 23 #[true, true, true, true, true, true, true, true, true, true, true, true, true, false, true, false, false, false, false, false, false, false, false, false, false, false, false, false, false, false, false, false, false, false, false, false, false, false, false, false, false, false, false, false, false] rfl rfl HT_ HW_ hHeld (by rintro w' ⟨s0, s1, s2, s3, s4, s5, s6⟩; go_simp; with_reducible rfl) ?_
      refine sR 13 24 (pz 45 15) HT_ ?_
      refine sR 15 26 (pz 45 16) HT_ ?_
      refine sR 16 27 (pz 45 17) HT_ ?_
      refine sR 17 28 (pz 45 18) HT_ ?_
      refine sR 18 29 (pz 45 19) HT_ ?_
      refine sR 21 32 #[true, true, true, true, true, true, true, true, true, true, true, true, true, true, true, true, true, true, true, false, false, true, false, false, false, false, false, false, false, false, false, false, false, false, false, false, false, false, false, false, false, false, false, false, false] HT_ ?_
      refine sT 19 30 #[true, true, true, true, true, true, true, true, true, true, true, true, true, true, true, true, true, true, true, true, false, true, false, false, false, false, false, false, false, false, false, false, false, false, false, false, false, false, false, false, false, false, false, false, false] rfl rfl HT_ HW_ hHeld (by rintro w' ⟨s0, s1, s2, s3, s4, s5, s6⟩; go_simp; with_reducible rfl) ?_
      refine sR 20 31 (pz 45 22) HT_ ?_
      refine sR 22 33 (pz 45 23) HT_ ?_
      refine sR 23 34 (pz 45 24) HT_ ?_
      refine sR 24 35 (pz 45 25) HT_ ?_
      refine sU 25 36 (pz 45 26) HT_ ?_
      refine sU 26 37 (pz 45 27) HT_ ?_
      refine sU 27 38 (pz 45 28) HT_ ?_
      refine sU 28 39 (pz 45 29) HT_ ?_
      refine sU 29 40 (pz 45 30) HT_ ?_
      refine sR 30 41 (pz 45 31) HT_ ?_
      refine sR 31 42 (pz 45 32) HT_ ?_
      refine sU 32 43 (pz 45 33) HT_ ?_
      refine sU 33 44 (pz 45 34) HT_ ?_
      refine sU 34 45 (pz 45 35) HT_ ?_
      refine sU 35 46 (pz 45 36) HT_ ?_
      refine sU 36 47 (pz 45 37) HT_ ?_
      refine sU 37 48 (pz 45 38) HT_ ?_
      refine sR 38 49 (pz 45 39) HT_ ?_
      refine sR 39 50 (pz 45 40) HT_ ?_
      refine sU 40 51 (pz 45 41) HT_ ?_
      refine sU 41 52 (pz 45 42) HT_ ?_
      refine sU 42 53 (pz 45 43) HT_ ?_
      refine sU 43 54 (pz 45 44) HT_ ?_
      refine sR 44 55 (pz 45 45) HT_ ?_
      refine done_ (done_of HT_.out (by kernel_rfl)) ?_
      try go_wp2
      go_meet
      case rel => exact ⟨_, (true), (by first | rfl | (simp; done) | (simp [*]; done)), H', ⟨by first | omega | exact Nat.le_refl _⟩, ⟨by (with_reducible repeat (first | refine blk_drewN ?_ _ | refine blk_drew ?_ | refine blk_alloc ?_ _)); exact BK168.out⟩, ⟨by repeat (first | (with_reducible first | exact HB.out | apply below_alloc | apply pw_below_drewN | apply below_drew1 | refine below_set ?_ GE168.out) | exact HB.out)⟩⟩
    ·rw [if_neg c9] at H
     have c9b0 : ((l0_2.length : Int) == (l0_0.length : Int)) = false := beq_eq_false_iff_ne.mpr c9
     have c9b1 : ((l0_2.length : Int) != (l0_0.length : Int)) = true := bne_iff_ne.mpr c9
     have c9b2 : (l0_2.length == l0_0.length) = false := by first | simpa using c9 | (simp at c9 ⊢; omega)
     (first | rw [c9b0] | (simp only [i64_w, i32_w]; rw [c9b0]) | skip)
     have H' := Aside0.mk H
     clear H
     try go_wp2
     have n0_ := Aside0.mk (blk_drew BK168.out)
     have n1_ := Aside0.mk (below_drew1 HB.out)
     clear BK168
     clear HB
     have BK168 := n0_
     have HB := n1_
     clear n0_ n1_
     refine start_ (n := 45) (S := fun w' => w'.cell? ⟨gb168, 0, none⟩ = some (.slice A0_0 l0_0.length c0_0) ∧ w'.cell? ⟨gb168, 1, none⟩ = some (.int .i64 a0_1) ∧ w'.cell? ⟨gb168, 2, none⟩ = some (.slice A0_2 l0_2.length c0_2) ∧ w'.cell? ⟨gb168, 3, none⟩ = some (.slice A0_3 l0_3.length c0_3) ∧ w'.cell? ⟨gb168, 4, none⟩ = some (.slice A0_4 l0_4.length c0_4) ∧ w'.cell? ⟨gb168, 5, none⟩ = some (.slice A0_5 l0_5.length c0_5) ∧ w'.cell? ⟨gb168, 6, none⟩ = some (.int .i64 a0_6)) (ds := []) (pz 45 0) (by kernel_rfl) rfl rfl ⟨(blk_cell BK168.out 0).trans rfl, (blk_cell BK168.out 1).trans rfl, (blk_cell BK168.out 2).trans rfl, (blk_cell BK168.out 3).trans rfl, (blk_cell BK168.out 4).trans rfl, (blk_cell BK168.out 5).trans rfl, (blk_cell BK168.out 6).trans rfl⟩ (fun hHeld => ?_); refine with_tabW spec_GoodWindow.tab2 spec_GoodWindow.bits2 (fun HT_ HW_ => ?_)
     generalize w3.drew = w18 at BK168 HB hHeld ⊢
     refine sR 0 11 (pz 45 1) HT_ ?_
     refine sT 1 12 (pz 45 2) rfl rfl HT_ HW_ hHeld (by rintro w' ⟨s0, s1, s2, s3, s4, s5, s6⟩; go_simp; with_reducible rfl) ?_
     refine one_ (i := 2) (N := some 13) (pz 45 3) rfl rfl (one_of HT_.out (by kernel_rfl)) (by decide) (fun K hK => ?_)
     refine goes_ Try.func100 (by kernel_rfl) rfl #[.slice A0_0 l0_0.length c0_0] (by rfl) rfl rfl (by (try simp only [List.map_toArray, List.map_cons, List.map_nil]); first | done | rfl | (simp only [List.length_drop, List.length_take]; rfl)) ?_
     with_reducible refine (spec_l9Pieces.calls k _ _ l0_0 true _ ?side1 ?side2 A5.out).mono ?_
     (case side1 => repeat (first | exact (Kd.C_below HR0_0.out HB.out) | (with_reducible refine Kd.C_alloc ?_ _) | (with_reducible refine Kd.C_drewN ?_ _) | (with_reducible refine Kd.C_drew ?_)))
     (case side2 => exact HC0_0.out)
     rintro e w' ⟨rfl, ⟨nd, rfl⟩⟩
     refine ⟨_, rfl, ?_⟩
     refine hK.out _ _ ⟨(blk_cell BK168.out 0).trans rfl, (blk_cell BK168.out 1).trans rfl, (blk_cell BK168.out 2).trans rfl, (blk_cell BK168.out 3).trans rfl, (blk_cell BK168.out 4).trans rfl, (blk_cell BK168.out 5).trans rfl, (blk_cell BK168.out 6).trans rfl⟩ (fun hHeld => ?_)
     clear hK K
     refine norm_ (a' := ?_) ?_ ?_
     rotate_left
     ·show Act.put _ (some 13) _ = _
      simp only [Act.put, List.setIfInBounds_toArray, List.set_cons_zero, List.set_cons_succ, i64_w, i32_w]
      rfl
     refine sR 3 14 (pz 45 4) HT_ ?_
     refine sR 4 15 (pz 45 5) HT_ ?_
     refine sR 5 16 (pz 45 6) HT_ ?_
     refine sT 6 17 (pz 45 7) rfl rfl HT_ HW_ hHeld (by rintro w' ⟨s0, s1, s2, s3, s4, s5, s6⟩; go_simp; with_reducible rfl) ?_
     refine one_ (i := 7) (N := some 18) (pz 45 8) rfl rfl (one_of HT_.out (by kernel_rfl)) (by decide) (fun K hK => ?_)
     refine goes_ Try.func66 (by kernel_rfl) rfl #[.int .i64 a0_1, .int .i64 1, .int .i64 12] (by rfl) rfl rfl (by (try simp only [List.map_toArray, List.map_cons, List.map_nil]); first | done | rfl | (simp only [List.length_drop, List.length_take]; rfl)) ?_
     with_reducible refine (spec_l1In.calls a0_1 1 12 true _ A7.out).mono ?_
     rintro e w' ⟨rfl, ⟨nd, rfl⟩⟩
     refine ⟨_, rfl, ?_⟩
     refine hK.out _ _ ⟨(blk_cell BK168.out 0).trans rfl, (blk_cell BK168.out 1).trans rfl, (blk_cell BK168.out 2).trans rfl, (blk_cell BK168.out 3).trans rfl, (blk_cell BK168.out 4).trans rfl, (blk_cell BK168.out 5).trans rfl, (blk_cell BK168.out 6).trans rfl⟩ (fun hHeld => ?_)
     clear hK K
     refine norm_ (a' := ?_) ?_ ?_
     rotate_left
     ·show Act.put _ (some 18) _ = _
      simp only [Act.put, List.setIfInBounds_toArray, List.set_cons_zero, List.set_cons_succ, i64_w, i32_w]
      rfl
     refine sR 8 19 (pz 45 9) HT_ ?_
     refine sR 9 20 (pz 45 10) HT_ ?_
     refine sR 10 21 (pz 45 11) HT_ ?_
     refine sR 11 22 (pz 45 12) HT_ ?_
     refine sR 14 25 #[true, true, true, true, true, true, true, true, true, true, true, true, false, false, true, false, false, false, false, false, false, false, false, false, false, false, false, false, false, false, false, false, false, false, false, false, false, false, false, false, false, false, false, false, false] HT_ ?_
     refine sT 12 23 #[true, true, true, true, true, true, true, true, true, true, true, true, true, false, true, false, false, false, false, false, false, false, false, false, false, false, false, false, false, false, false, false, false, false, false, false, false, false, false, false, false, false, false, false, false] rfl rfl HT_ HW_ hHeld (by rintro w' ⟨s0, s1, s2, s3, s4, s5, s6⟩; go_simp; with_reducible rfl) ?_
     refine sR 13 24 (pz 45 15) HT_ ?_
     refine sR 15 26 (pz 45 16) HT_ ?_
     refine sR 16 27 (pz 45 17) HT_ ?_
     refine sR 17 28 (pz 45 18) HT_ ?_
     refine sU 18 29 (pz 45 19) HT_ ?_
     refine sU 19 30 (pz 45 20) HT_ ?_
     refine sU 20 31 (pz 45 21) HT_ ?_
     refine sU 21 32 (pz 45 22) HT_ ?_
     refine sU 22 33 (pz 45 23) HT_ ?_
     refine sR 23 34 (pz 45 24) HT_ ?_
     refine sR 24 35 (pz 45 25) HT_ ?_
     refine sU 25 36 (pz 45 26) HT_ ?_
     refine sU 26 37 (pz 45 27) HT_ ?_
     refine sU 27 38 (pz 45 28) HT_ ?_
     refine sU 28 39 (pz 45 29) HT_ ?_
     refine sU 29 40 (pz 45 30) HT_ ?_
     refine sR 30 41 (pz 45 31) HT_ ?_
     refine sR 31 42 (pz 45 32) HT_ ?_
     refine sU 32 43 (pz 45 33) HT_ ?_
     refine sU 33 44 (pz 45 34) HT_ ?_
     refine sU 34 45 (pz 45 35) HT_ ?_
     refine sU 35 46 (pz 45 36) HT_ ?_
     refine sU 36 47 (pz 45 37) HT_ ?_
     refine sU 37 48 (pz 45 38) HT_ ?_
     refine sR 38 49 (pz 45 39) HT_ ?_
     refine sR 39 50 (pz 45 40) HT_ ?_
     refine sU 40 51 (pz 45 41) HT_ ?_
     refine sU 41 52 (pz 45 42) HT_ ?_
     refine sU 42 53 (pz 45 43) HT_ ?_
     refine sU 43 54 (pz 45 44) HT_ ?_
     refine sR 44 55 (pz 45 45) HT_ ?_
     refine done_ (done_of HT_.out (by kernel_rfl)) ?_
     try go_wp2
     go_meet
     case rel => exact ⟨_, (true), (by first | rfl | (simp; done) | (simp [*]; done)), H', ⟨by first | omega | exact Nat.le_refl _⟩, ⟨by (with_reducible repeat (first | refine blk_drewN ?_ _ | refine blk_drew ?_ | refine blk_alloc ?_ _)); exact BK168.out⟩, ⟨by repeat (first | (with_reducible first | exact HB.out | apply below_alloc | apply pw_below_drewN | apply below_drew1 | refine below_set ?_ GE168.out) | exact HB.out)⟩⟩
   ·replace c8 := Bool.eq_false_iff.mpr c8
    subst c8
    have H1 : (spec_GoodWindow.j0 k (l0_0.length : Int) true l0_0 a0_1 l0_2 l0_3 l0_4 l0_5 a0_6) = some r := by rw [if_neg (show ¬ (false = true) by decide)] at H; exact H
    clear H
    have H := H1
    clear H1
    have H' := Aside0.mk H
    clear H
    try go_wp2
    have n0_ := Aside0.mk (blk_drew BK168.out)
    have n1_ := Aside0.mk (below_drew1 HB.out)
    clear BK168
    clear HB
    have BK168 := n0_
    have HB := n1_
    clear n0_ n1_
    refine start_ (n := 45) (S := fun w' => w'.cell? ⟨gb168, 0, none⟩ = some (.slice A0_0 l0_0.length c0_0) ∧ w'.cell? ⟨gb168, 1, none⟩ = some (.int .i64 a0_1) ∧ w'.cell? ⟨gb168, 2, none⟩ = some (.slice A0_2 l0_2.length c0_2) ∧ w'.cell? ⟨gb168, 3, none⟩ = some (.slice A0_3 l0_3.length c0_3) ∧ w'.cell? ⟨gb168, 4, none⟩ = some (.slice A0_4 l0_4.length c0_4) ∧ w'.cell? ⟨gb168, 5, none⟩ = some (.slice A0_5 l0_5.length c0_5) ∧ w'.cell? ⟨gb168, 6, none⟩ = some (.int .i64 a0_6)) (ds := []) (pz 45 0) (by kernel_rfl) rfl rfl ⟨(blk_cell BK168.out 0).trans rfl, (blk_cell BK168.out 1).trans rfl, (blk_cell BK168.out 2).trans rfl, (blk_cell BK168.out 3).trans rfl, (blk_cell BK168.out 4).trans rfl, (blk_cell BK168.out 5).trans rfl, (blk_cell BK168.out 6).trans rfl⟩ (fun hHeld => ?_); refine with_tabW spec_GoodWindow.tab2 spec_GoodWindow.bits2 (fun HT_ HW_ => ?_)
    generalize w3.drew = w19 at BK168 HB hHeld ⊢
    refine sR 0 11 (pz 45 1) HT_ ?_
    refine sT 1 12 (pz 45 2) rfl rfl HT_ HW_ hHeld (by rintro w' ⟨s0, s1, s2, s3, s4, s5, s6⟩; go_simp; with_reducible rfl) ?_
    refine one_ (i := 2) (N := some 13) (pz 45 3) rfl rfl (one_of HT_.out (by kernel_rfl)) (by decide) (fun K hK => ?_)
    refine goes_ Try.func100 (by kernel_rfl) rfl #[.slice A0_0 l0_0.length c0_0] (by rfl) rfl rfl (by (try simp only [List.map_toArray, List.map_cons, List.map_nil]); first | done | rfl | (simp only [List.length_drop, List.length_take]; rfl)) ?_
    with_reducible refine (spec_l9Pieces.calls k _ _ l0_0 true _ ?side1 ?side2 A5.out).mono ?_
    (case side1 => repeat (first | exact (Kd.C_below HR0_0.out HB.out) | (with_reducible refine Kd.C_alloc ?_ _) | (with_reducible refine Kd.C_drewN ?_ _) | (with_reducible refine Kd.C_drew ?_)))
    (case side2 => exact HC0_0.out)
    rintro e w' ⟨rfl, ⟨nd, rfl⟩⟩
    refine ⟨_, rfl, ?_⟩
    refine hK.out _ _ ⟨(blk_cell BK168.out 0).trans rfl, (blk_cell BK168.out 1).trans rfl, (blk_cell BK168.out 2).trans rfl, (blk_cell BK168.out 3).trans rfl, (blk_cell BK168.out 4).trans rfl, (blk_cell BK168.out 5).trans rfl, (blk_cell BK168.out 6).trans rfl⟩ (fun hHeld => ?_)
    clear hK K
    refine norm_ (a' := ?_) ?_ ?_
    rotate_left
    ·show Act.put _ (some 13) _ = _
     simp only [Act.put, List.setIfInBounds_toArray, List.set_cons_zero, List.set_cons_succ, i64_w, i32_w]
     rfl
    refine sR 3 14 (pz 45 4) HT_ ?_
    refine sR 4 15 (pz 45 5) HT_ ?_
    refine sR 5 16 (pz 45 6) HT_ ?_
    refine sT 6 17 (pz 45 7) rfl rfl HT_ HW_ hHeld (by rintro w' ⟨s0, s1, s2, s3, s4, s5, s6⟩; go_simp; with_reducible rfl) ?_
    refine one_ (i := 7) (N := some 18) (pz 45 8) rfl rfl (one_of HT_.out (by kernel_rfl)) (by decide) (fun K hK => ?_)
    refine goes_ Try.func66 (by kernel_rfl) rfl #[.int .i64 a0_1, .int .i64 1, .int .i64 12] (by rfl) rfl rfl (by (try simp only [List.map_toArray, List.map_cons, List.map_nil]); first | done | rfl | (simp only [List.length_drop, List.length_take]; rfl)) ?_
    with_reducible refine (spec_l1In.calls a0_1 1 12 false _ A7.out).mono ?_
    rintro e w' ⟨rfl, ⟨nd, rfl⟩⟩
    refine ⟨_, rfl, ?_⟩
    refine hK.out _ _ ⟨(blk_cell BK168.out 0).trans rfl, (blk_cell BK168.out 1).trans rfl, (blk_cell BK168.out 2).trans rfl, (blk_cell BK168.out 3).trans rfl, (blk_cell BK168.out 4).trans rfl, (blk_cell BK168.out 5).trans rfl, (blk_cell BK168.out 6).trans rfl⟩ (fun hHeld => ?_)
    clear hK K
    refine norm_ (a' := ?_) ?_ ?_
    rotate_left
    ·show Act.put _ (some 18) _ = _
     simp only [Act.put, List.setIfInBounds_toArray, List.set_cons_zero, List.set_cons_succ, i64_w, i32_w]
     rfl
    refine sR 8 19 (pz 45 9) HT_ ?_
    refine sR 9 20 (pz 45 10) HT_ ?_
    refine sR 10 21 (pz 45 11) HT_ ?_
    refine sU 11 22 (pz 45 12) HT_ ?_
    refine sU 12 23 (pz 45 13) HT_ ?_
    refine sU 13 24 (pz 45 14) HT_ ?_
    refine sU 14 25 (pz 45 15) HT_ ?_
    refine sU 15 26 (pz 45 16) HT_ ?_
    refine sR 16 27 (pz 45 17) HT_ ?_
    refine sR 17 28 (pz 45 18) HT_ ?_
    refine sU 18 29 (pz 45 19) HT_ ?_
    refine sU 19 30 (pz 45 20) HT_ ?_
    refine sU 20 31 (pz 45 21) HT_ ?_
    refine sU 21 32 (pz 45 22) HT_ ?_
    refine sU 22 33 (pz 45 23) HT_ ?_
    refine sR 23 34 (pz 45 24) HT_ ?_
    refine sR 24 35 (pz 45 25) HT_ ?_
    refine sU 25 36 (pz 45 26) HT_ ?_
    refine sU 26 37 (pz 45 27) HT_ ?_
    refine sU 27 38 (pz 45 28) HT_ ?_
    refine sU 28 39 (pz 45 29) HT_ ?_
    refine sU 29 40 (pz 45 30) HT_ ?_
    refine sR 30 41 (pz 45 31) HT_ ?_
    refine sR 31 42 (pz 45 32) HT_ ?_
    refine sU 32 43 (pz 45 33) HT_ ?_
    refine sU 33 44 (pz 45 34) HT_ ?_
    refine sU 34 45 (pz 45 35) HT_ ?_
    refine sU 35 46 (pz 45 36) HT_ ?_
    refine sU 36 47 (pz 45 37) HT_ ?_
    refine sU 37 48 (pz 45 38) HT_ ?_
    refine sR 38 49 (pz 45 39) HT_ ?_
    refine sR 39 50 (pz 45 40) HT_ ?_
    refine sU 40 51 (pz 45 41) HT_ ?_
    refine sU 41 52 (pz 45 42) HT_ ?_
    refine sU 42 53 (pz 45 43) HT_ ?_
    refine sU 43 54 (pz 45 44) HT_ ?_
    refine sR 44 55 (pz 45 45) HT_ ?_
    refine done_ (done_of HT_.out (by kernel_rfl)) ?_
    try go_wp2
    go_meet
    case rel => exact ⟨_, (true), (by first | rfl | (simp; done) | (simp [*]; done)), H', ⟨by first | omega | exact Nat.le_refl _⟩, ⟨by (with_reducible repeat (first | refine blk_drewN ?_ _ | refine blk_drew ?_ | refine blk_alloc ?_ _)); exact BK168.out⟩, ⟨by repeat (first | (with_reducible first | exact HB.out | apply below_alloc | apply pw_below_drewN | apply below_drew1 | refine below_set ?_ GE168.out) | exact HB.out)⟩⟩
  ·replace c6 := Bool.eq_false_iff.mpr c6
   subst c6
   have H1 : (spec_GoodWindow.j0 k (l0_0.length : Int) true l0_0 a0_1 l0_2 l0_3 l0_4 l0_5 a0_6) = some r := by rw [if_neg (show ¬ (false = true) by decide)] at H; exact H
   clear H
   have H := H1
   clear H1
   have H' := Aside0.mk H
   clear H
   try go_wp2
   have n0_ := Aside0.mk (blk_drew BK168.out)
   have n1_ := Aside0.mk (below_drew1 HB.out)
   clear BK168
   clear HB
   have BK168 := n0_
   have HB := n1_
   clear n0_ n1_
   refine start_ (n := 45) (S := fun w' => w'.cell? ⟨gb168, 0, none⟩ = some (.slice A0_0 l0_0.length c0_0) ∧ w'.cell? ⟨gb168, 1, none⟩ = some (.int .i64 a0_1) ∧ w'.cell? ⟨gb168, 2, none⟩ = some (.slice A0_2 l0_2.length c0_2) ∧ w'.cell? ⟨gb168, 3, none⟩ = some (.slice A0_3 l0_3.length c0_3) ∧ w'.cell? ⟨gb168, 4, none⟩ = some (.slice A0_4 l0_4.length c0_4) ∧ w'.cell? ⟨gb168, 5, none⟩ = some (.slice A0_5 l0_5.length c0_5) ∧ w'.cell? ⟨gb168, 6, none⟩ = some (.int .i64 a0_6)) (ds := []) (pz 45 0) (by kernel_rfl) rfl rfl ⟨(blk_cell BK168.out 0).trans rfl, (blk_cell BK168.out 1).trans rfl, (blk_cell BK168.out 2).trans rfl, (blk_cell BK168.out 3).trans rfl, (blk_cell BK168.out 4).trans rfl, (blk_cell BK168.out 5).trans rfl, (blk_cell BK168.out 6).trans rfl⟩ (fun hHeld => ?_); refine with_tabW spec_GoodWindow.tab2 spec_GoodWindow.bits2 (fun HT_ HW_ => ?_)
   generalize w3.drew = w20 at BK168 HB hHeld ⊢
   refine sR 0 11 (pz 45 1) HT_ ?_
   refine sT 1 12 (pz 45 2) rfl rfl HT_ HW_ hHeld (by rintro w' ⟨s0, s1, s2, s3, s4, s5, s6⟩; go_simp; with_reducible rfl) ?_
   refine one_ (i := 2) (N := some 13) (pz 45 3) rfl rfl (one_of HT_.out (by kernel_rfl)) (by decide) (fun K hK => ?_)
   refine goes_ Try.func100 (by kernel_rfl) rfl #[.slice A0_0 l0_0.length c0_0] (by rfl) rfl rfl (by (try simp only [List.map_toArray, List.map_cons, List.map_nil]); first | done | rfl | (simp only [List.length_drop, List.length_take]; rfl)) ?_
   with_reducible refine (spec_l9Pieces.calls k _ _ l0_0 false _ ?side1 ?side2 A5.out).mono ?_
   (case side1 => repeat (first | exact (Kd.C_below HR0_0.out HB.out) | (with_reducible refine Kd.C_alloc ?_ _) | (with_reducible refine Kd.C_drewN ?_ _) | (with_reducible refine Kd.C_drew ?_)))
   (case side2 => exact HC0_0.out)
   rintro e w' ⟨rfl, ⟨nd, rfl⟩⟩
   refine ⟨_, rfl, ?_⟩
   refine hK.out _ _ ⟨(blk_cell BK168.out 0).trans rfl, (blk_cell BK168.out 1).trans rfl, (blk_cell BK168.out 2).trans rfl, (blk_cell BK168.out 3).trans rfl, (blk_cell BK168.out 4).trans rfl, (blk_cell BK168.out 5).trans rfl, (blk_cell BK168.out 6).trans rfl⟩ (fun hHeld => ?_)
   clear hK K
   refine norm_ (a' := ?_) ?_ ?_
   rotate_left
   ·show Act.put _ (some 13) _ = _
    simp only [Act.put, List.setIfInBounds_toArray, List.set_cons_zero, List.set_cons_succ, i64_w, i32_w]
    rfl
   refine sR 3 14 (pz 45 4) HT_ ?_
   refine sR 4 15 (pz 45 5) HT_ ?_
   refine sU 5 16 (pz 45 6) HT_ ?_
   refine sU 6 17 (pz 45 7) HT_ ?_
   refine sU 7 18 (pz 45 8) HT_ ?_
   refine sU 8 19 (pz 45 9) HT_ ?_
   refine sR 9 20 (pz 45 10) HT_ ?_
   refine sR 10 21 (pz 45 11) HT_ ?_
   refine sU 11 22 (pz 45 12) HT_ ?_
   refine sU 12 23 (pz 45 13) HT_ ?_
   refine sU 13 24 (pz 45 14) HT_ ?_
   refine sU 14 25 (pz 45 15) HT_ ?_
   refine sU 15 26 (pz 45 16) HT_ ?_
   refine sR 16 27 (pz 45 17) HT_ ?_
   refine sR 17 28 (pz 45 18) HT_ ?_
   refine sU 18 29 (pz 45 19) HT_ ?_
   refine sU 19 30 (pz 45 20) HT_ ?_
   refine sU 20 31 (pz 45 21) HT_ ?_
   refine sU 21 32 (pz 45 22) HT_ ?_
   refine sU 22 33 (pz 45 23) HT_ ?_
   refine sR 23 34 (pz 45 24) HT_ ?_
   refine sR 24 35 (pz 45 25) HT_ ?_
   refine sU 25 36 (pz 45 26) HT_ ?_
   refine sU 26 37 (pz 45 27) HT_ ?_
   refine sU 27 38 (pz 45 28) HT_ ?_
   refine sU 28 39 (pz 45 29) HT_ ?_
   refine sU 29 40 (pz 45 30) HT_ ?_
   refine sR 30 41 (pz 45 31) HT_ ?_
   refine sR 31 42 (pz 45 32) HT_ ?_
   refine sU 32 43 (pz 45 33) HT_ ?_
   refine sU 33 44 (pz 45 34) HT_ ?_
   refine sU 34 45 (pz 45 35) HT_ ?_
   refine sU 35 46 (pz 45 36) HT_ ?_
   refine sU 36 47 (pz 45 37) HT_ ?_
   refine sU 37 48 (pz 45 38) HT_ ?_
   refine sR 38 49 (pz 45 39) HT_ ?_
   refine sR 39 50 (pz 45 40) HT_ ?_
   refine sU 40 51 (pz 45 41) HT_ ?_
   refine sU 41 52 (pz 45 42) HT_ ?_
   refine sU 42 53 (pz 45 43) HT_ ?_
   refine sU 43 54 (pz 45 44) HT_ ?_
   refine sR 44 55 (pz 45 45) HT_ ?_
   refine done_ (done_of HT_.out (by kernel_rfl)) ?_
   try go_wp2
   go_meet
   case rel => exact ⟨_, (true), (by first | rfl | (simp; done) | (simp [*]; done)), H', ⟨by first | omega | exact Nat.le_refl _⟩, ⟨by (with_reducible repeat (first | refine blk_drewN ?_ _ | refine blk_drew ?_ | refine blk_alloc ?_ _)); exact BK168.out⟩, ⟨by repeat (first | (with_reducible first | exact HB.out | apply below_alloc | apply pw_below_drewN | apply below_drew1 | refine below_set ?_ GE168.out) | exact HB.out)⟩⟩
 case rest =>
  clear HC2
  try clear c1
  try clear p2
  try clear c6
  try clear c8
  try clear c10
  obtain ⟨kq, x55_1, rfl, HA, HJ1, BK168, HB⟩ := hcut
  cases kq with
  | zero => exact absurd HA.out (by simp [spec_GoodWindow.j0])
  | succ kj1 =>
   have H := HA.out
   clear HA
   simp only [spec_GoodWindow.j0] at H
   by_cases c21 : x55_1 = true
   ·subst c21
    have H1 : (some false) = some r := by rw [if_pos rfl] at H; exact H
    clear H
    have H := H1
    clear H1
    obtain rfl := Option.some.inj H
    go_wp2
    go_ret
    exact ⟨by first | rfl | (simp [errW_none, errW_some] <;> rfl) | (simp [*, errW_none, errW_some] <;> rfl), by repeat (first | (with_reducible first | exact HB.out | apply below_alloc | apply pw_below_drewN | apply below_drew1 | refine below_set ?_ GE168.out) | exact HB.out)⟩
   ·replace c21 := Bool.eq_false_iff.mpr c21
    subst c21
    have H1 : (spec_GoodWindow.l0 kj1 (l0_0.length : Int) l0_0 (l0_0.length : Int) 0 l0_0 a0_1 l0_2 l0_3 l0_4 l0_5 a0_6) = some r := by rw [if_neg (show ¬ (false = true) by decide)] at H; exact H
    clear H
    have H := H1
    clear H1
    have H' := Aside0.mk H
    clear H
    have hcz22_0 : wc.cell? ⟨gb168, 0, none⟩ = some (.slice A0_0 l0_0.length c0_0) := (blk_cell BK168.out 0).trans rfl
    have hcz22_1 : wc.cell? ⟨gb168, 1, none⟩ = some (.int .i64 a0_1) := (blk_cell BK168.out 1).trans rfl
    have hcz22_2 : wc.cell? ⟨gb168, 2, none⟩ = some (.slice A0_2 l0_2.length c0_2) := (blk_cell BK168.out 2).trans rfl
    have hcz22_3 : wc.cell? ⟨gb168, 3, none⟩ = some (.slice A0_3 l0_3.length c0_3) := (blk_cell BK168.out 3).trans rfl
    have hcz22_4 : wc.cell? ⟨gb168, 4, none⟩ = some (.slice A0_4 l0_4.length c0_4) := (blk_cell BK168.out 4).trans rfl
    have hcz22_5 : wc.cell? ⟨gb168, 5, none⟩ = some (.slice A0_5 l0_5.length c0_5) := (blk_cell BK168.out 5).trans rfl
    have hcz22_6 : wc.cell? ⟨gb168, 6, none⟩ = some (.int .i64 a0_6) := (blk_cell BK168.out 6).trans rfl
    have hfz22_0 := blk_frozen BK168.out 0
    have hfz22_1 := blk_frozen BK168.out 1
    have hfz22_2 := blk_frozen BK168.out 2
    have hfz22_3 := blk_frozen BK168.out 3
    have hfz22_4 := blk_frozen BK168.out 4
    have hfz22_5 := blk_frozen BK168.out 5
    have hfz22_6 := blk_frozen BK168.out 6
    go_wp2
    go_loopg [59] kj1 (fun kq v59 w' => ∃ (x59_2 : Int), v59 = .int .i64 x59_2 ∧ Aside0 (spec_GoodWindow.l0 kq (l0_0.length : Int) l0_0 (l0_0.length : Int) x59_2 l0_0 a0_1 l0_2 l0_3 l0_4 l0_5 a0_6 = some r) ∧ Aside0 (kq ≤ kj1) ∧ Aside0 (w'.heap[gb168]? = some (.cells #[(.slice A0_0 l0_0.length c0_0), .int .i64 a0_1, (.slice A0_2 l0_2.length c0_2), (.slice A0_3 l0_3.length c0_3), (.slice A0_4 l0_4.length c0_4), (.slice A0_5 l0_5.length c0_5), .int .i64 a0_6] 66 (0, 0))) ∧ Aside0 (Below w.heap.size w w'))
    case atStart => exact ⟨(0), (by first | rfl | (simp; done) | (simp [*]; done)), H', ⟨Nat.le_refl _⟩, ⟨by (with_reducible repeat (first | refine blk_drewN ?_ _ | refine blk_drew ?_ | refine blk_alloc ?_ _)); exact BK168.out⟩, ⟨by repeat (first | (with_reducible first | exact HB.out | apply below_alloc | apply pw_below_drewN | apply below_drew1 | refine below_set ?_ GE168.out) | exact HB.out)⟩⟩
    case round =>
     clear H'
     try clear c1
     try clear c2
     try clear p2
     try clear c6
     try clear c8
     try clear c10
     try clear c21
     try clear hcz22_0
     try clear hcz22_1
     try clear hcz22_2
     try clear hcz22_3
     try clear hcz22_4
     try clear hcz22_5
     try clear hcz22_6
     try clear hfz22_0
     try clear hfz22_1
     try clear hfz22_2
     try clear hfz22_3
     try clear hfz22_4
     try clear hfz22_5
     try clear hfz22_6
     try clear p2
     obtain ⟨x59_2, rfl, HA, HK2, BK168, HB⟩ := hrel
     cases gk with
     | zero => exact absurd HA.out (by simp [spec_GoodWindow.l0])
     | succ k2 =>
      have H := HA.out
      clear HA
      simp only [spec_GoodWindow.l0] at H
      by_cases c23 : x59_2 < (l0_0.length : Int)
      ·rw [if_pos c23] at H
       have c23b0 : decide (x59_2 < (l0_0.length : Int)) = true := decide_eq_true c23
       clear c23
       by_cases c24 : 0 ≤ x59_2
       ·rw [if_pos c24] at H
        have c24b0 : decide (0 ≤ x59_2) = true := decide_eq_true c24
        clear c24
        by_cases c25 : x59_2 < (l0_0.length : Int)
        ·rw [if_pos c25] at H
         have c25b0 : decide (x59_2 < (l0_0.length : Int)) = true := decide_eq_true c25
         clear c25
         by_cases c26 : x59_2 < (l0_5.length : Int)
         ·rw [if_pos c26] at H
          have c26b0 : decide (x59_2 < (l0_5.length : Int)) = true := decide_eq_true c26
          clear c26
          obtain ⟨bq27, hbq27⟩ : ∃ b_ : Bool, b_ = (rdOf false l0_5 x59_2) := ⟨_, rfl⟩
          replace H : (if bq27 = true then (if x59_2 < (l0_4.length : Int) then (if (rdOf ByteArray.empty l0_4 x59_2).toList = (rdOf ByteArray.empty l0_0 x59_2).toList then (spec_GoodWindow.l0 k2 (l0_0.length : Int) l0_0 (l0_0.length : Int) (wrap64 (x59_2 + 1)) l0_0 a0_1 l0_2 l0_3 l0_4 l0_5 a0_6) else (some false)) else (none)) else (if x59_2 < (l0_4.length : Int) then (if (rdOf ByteArray.empty l0_4 x59_2).toList = ([] : List UInt8) then (if x59_2 < (l0_2.length : Int) then (if rdOf false l0_2 x59_2 = true then (some false) else (spec_GoodWindow.l0 k2 (l0_0.length : Int) l0_0 (l0_0.length : Int) (wrap64 (x59_2 + 1)) l0_0 a0_1 l0_2 l0_3 l0_4 l0_5 a0_6)) else (none)) else (some false)) else (none))) = some r := by rw [← hbq27] at H; exact H
          have Nbq27 := Aside0.mk hbq27
          clear hbq27
          by_cases c28 : bq27 = true
          ·subst c28
           have H1 : (if x59_2 < (l0_4.length : Int) then (if (rdOf ByteArray.empty l0_4 x59_2).toList = (rdOf ByteArray.empty l0_0 x59_2).toList then (spec_GoodWindow.l0 k2 (l0_0.length : Int) l0_0 (l0_0.length : Int) (wrap64 (x59_2 + 1)) l0_0 a0_1 l0_2 l0_3 l0_4 l0_5 a0_6) else (some false)) else (none)) = some r := by rw [if_pos rfl] at H; exact H
           clear H
           have H := H1
           clear H1
           by_cases c29 : x59_2 < (l0_4.length : Int)
           ·rw [if_pos c29] at H
            have c29b0 : decide (x59_2 < (l0_4.length : Int)) = true := decide_eq_true c29
            clear c29
            by_cases c30 : (rdOf ByteArray.empty l0_4 x59_2).toList = (rdOf ByteArray.empty l0_0 x59_2).toList
            ·rw [if_pos c30] at H
             have c30b0 : ((rdOf ByteArray.empty l0_4 x59_2).toList == (rdOf ByteArray.empty l0_0 x59_2).toList) = true := beq_iff_eq.mpr c30
             have c30b1 : ((rdOf ByteArray.empty l0_4 x59_2).toList != (rdOf ByteArray.empty l0_0 x59_2).toList) = false := bne_eq_false_iff_eq.mpr c30
             clear c30
             have H' := Aside0.mk H
             clear H
             have p172 : 0 ≤ (x59_2 : Int) := of_decide_eq_true (by first | (with_reducible assumption) | assumption)
             have q172 : x59_2 < (l0_0.length : Int) := of_decide_eq_true (by first | (with_reducible assumption) | assumption)
             obtain ⟨ad172, e172, hx172_0⟩ := Kd.at_string HR0_0.out x59_2 p172 q172
             cases e172
             replace hx172_0 := (HB.out.cell (World.block_lt_of_cell? w _ hx172_0)).trans hx172_0
             replace p172 := eq_true p172
             replace q172 := eq_true q172
             have hcz31_0 : wr.cell? ⟨gb168, 0, none⟩ = some (.slice (some ad172) l0_0.length c0_0) := (blk_cell BK168.out 0).trans rfl
             have hcz31_1 : wr.cell? ⟨gb168, 1, none⟩ = some (.int .i64 a0_1) := (blk_cell BK168.out 1).trans rfl
             have hcz31_2 : wr.cell? ⟨gb168, 2, none⟩ = some (.slice A0_2 l0_2.length c0_2) := (blk_cell BK168.out 2).trans rfl
             have hcz31_3 : wr.cell? ⟨gb168, 3, none⟩ = some (.slice A0_3 l0_3.length c0_3) := (blk_cell BK168.out 3).trans rfl
             have hcz31_4 : wr.cell? ⟨gb168, 4, none⟩ = some (.slice A0_4 l0_4.length c0_4) := (blk_cell BK168.out 4).trans rfl
             have hcz31_5 : wr.cell? ⟨gb168, 5, none⟩ = some (.slice A0_5 l0_5.length c0_5) := (blk_cell BK168.out 5).trans rfl
             have hcz31_6 : wr.cell? ⟨gb168, 6, none⟩ = some (.int .i64 a0_6) := (blk_cell BK168.out 6).trans rfl
             have hfz31_0 := blk_frozen BK168.out 0
             have hfz31_1 := blk_frozen BK168.out 1
             have hfz31_2 := blk_frozen BK168.out 2
             have hfz31_3 := blk_frozen BK168.out 3
             have hfz31_4 := blk_frozen BK168.out 4
             have hfz31_5 := blk_frozen BK168.out 5
             have hfz31_6 := blk_frozen BK168.out 6
             have p173 : 0 ≤ (x59_2 : Int) := of_decide_eq_true (by first | (with_reducible assumption) | assumption)
             have q173 : x59_2 < (l0_5.length : Int) := of_decide_eq_true (by first | (with_reducible assumption) | assumption)
             obtain ⟨ad173, e173, hx173_0⟩ := Kd.at_bool HR0_5.out x59_2 p173 q173
             (try rw [← Nbq27.out] at hx173_0)
             cases e173
             replace hx173_0 := (HB.out.cell (World.block_lt_of_cell? w _ hx173_0)).trans hx173_0
             replace p173 := eq_true p173
             replace q173 := eq_true q173
             have p174 : 0 ≤ (x59_2 : Int) := of_decide_eq_true (by first | (with_reducible assumption) | assumption)
             have q174 : x59_2 < (l0_4.length : Int) := of_decide_eq_true (by first | (with_reducible assumption) | assumption)
             obtain ⟨ad174, e174, hx174_0⟩ := Kd.at_string HR0_4.out x59_2 p174 q174
             cases e174
             replace hx174_0 := (HB.out.cell (World.block_lt_of_cell? w _ hx174_0)).trans hx174_0
             replace p174 := eq_true p174
             replace q174 := eq_true q174
             have p175 : 0 ≤ (x59_2 : Int) := of_decide_eq_true (by first | (with_reducible assumption) | assumption)
             have q175 : x59_2 < (l0_5.length : Int) := of_decide_eq_true (by first | (with_reducible assumption) | assumption)
             obtain ⟨ad175, e175, hx175_0⟩ := Kd.at_bool HR0_5.out x59_2 p175 q175
             (try rw [← Nbq27.out] at hx175_0)
             obtain rfl : ad173 = ad175 := (by injection e175)
             replace hx175_0 := (HB.out.cell (World.block_lt_of_cell? w _ hx175_0)).trans hx175_0
             replace p175 := eq_true p175
             replace q175 := eq_true q175
             go_wp2
             go_roundg k2
             case measure => have := HJ1.out; have := HK2.out; omega
             case rel => exact ⟨(wrap64 (x59_2 + 1)), (by first | rfl | (simp; done) | (simp [*]; done)), H', ⟨by have := HJ1.out; have := HK2.out; omega⟩, ⟨by (with_reducible repeat (first | refine blk_drewN ?_ _ | refine blk_drew ?_ | refine blk_alloc ?_ _)); exact BK168.out⟩, ⟨by repeat (first | (with_reducible first | exact HB.out | apply below_alloc | apply pw_below_drewN | apply below_drew1 | refine below_set ?_ GE168.out) | exact HB.out)⟩⟩
            ·rw [if_neg c30] at H
             have c30b0 : ((rdOf ByteArray.empty l0_4 x59_2).toList == (rdOf ByteArray.empty l0_0 x59_2).toList) = false := beq_eq_false_iff_ne.mpr c30
             have c30b1 : ((rdOf ByteArray.empty l0_4 x59_2).toList != (rdOf ByteArray.empty l0_0 x59_2).toList) = true := bne_iff_ne.mpr c30
             obtain rfl := Option.some.inj H
             have p172 : 0 ≤ (x59_2 : Int) := of_decide_eq_true (by first | (with_reducible assumption) | assumption)
             have q172 : x59_2 < (l0_0.length : Int) := of_decide_eq_true (by first | (with_reducible assumption) | assumption)
             obtain ⟨ad172, e172, hx172_0⟩ := Kd.at_string HR0_0.out x59_2 p172 q172
             cases e172
             replace hx172_0 := (HB.out.cell (World.block_lt_of_cell? w _ hx172_0)).trans hx172_0
             replace p172 := eq_true p172
             replace q172 := eq_true q172
             have hcz32_0 : wr.cell? ⟨gb168, 0, none⟩ = some (.slice (some ad172) l0_0.length c0_0) := (blk_cell BK168.out 0).trans rfl
             have hcz32_1 : wr.cell? ⟨gb168, 1, none⟩ = some (.int .i64 a0_1) := (blk_cell BK168.out 1).trans rfl
             have hcz32_2 : wr.cell? ⟨gb168, 2, none⟩ = some (.slice A0_2 l0_2.length c0_2) := (blk_cell BK168.out 2).trans rfl
             have hcz32_3 : wr.cell? ⟨gb168, 3, none⟩ = some (.slice A0_3 l0_3.length c0_3) := (blk_cell BK168.out 3).trans rfl
             have hcz32_4 : wr.cell? ⟨gb168, 4, none⟩ = some (.slice A0_4 l0_4.length c0_4) := (blk_cell BK168.out 4).trans rfl
             have hcz32_5 : wr.cell? ⟨gb168, 5, none⟩ = some (.slice A0_5 l0_5.length c0_5) := (blk_cell BK168.out 5).trans rfl
             have hcz32_6 : wr.cell? ⟨gb168, 6, none⟩ = some (.int .i64 a0_6) := (blk_cell BK168.out 6).trans rfl
             have hfz32_0 := blk_frozen BK168.out 0
             have hfz32_1 := blk_frozen BK168.out 1
             have hfz32_2 := blk_frozen BK168.out 2
             have hfz32_3 := blk_frozen BK168.out 3
             have hfz32_4 := blk_frozen BK168.out 4
             have hfz32_5 := blk_frozen BK168.out 5
             have hfz32_6 := blk_frozen BK168.out 6
             have p173 : 0 ≤ (x59_2 : Int) := of_decide_eq_true (by first | (with_reducible assumption) | assumption)
             have q173 : x59_2 < (l0_5.length : Int) := of_decide_eq_true (by first | (with_reducible assumption) | assumption)
             obtain ⟨ad173, e173, hx173_0⟩ := Kd.at_bool HR0_5.out x59_2 p173 q173
             (try rw [← Nbq27.out] at hx173_0)
             cases e173
             replace hx173_0 := (HB.out.cell (World.block_lt_of_cell? w _ hx173_0)).trans hx173_0
             replace p173 := eq_true p173
             replace q173 := eq_true q173
             have p174 : 0 ≤ (x59_2 : Int) := of_decide_eq_true (by first | (with_reducible assumption) | assumption)
             have q174 : x59_2 < (l0_4.length : Int) := of_decide_eq_true (by first | (with_reducible assumption) | assumption)
             obtain ⟨ad174, e174, hx174_0⟩ := Kd.at_string HR0_4.out x59_2 p174 q174
             cases e174
             replace hx174_0 := (HB.out.cell (World.block_lt_of_cell? w _ hx174_0)).trans hx174_0
             replace p174 := eq_true p174
             replace q174 := eq_true q174
             go_wp2
             go_ret
             exact ⟨by first | rfl | (simp [errW_none, errW_some] <;> rfl) | (simp [*, errW_none, errW_some] <;> rfl), by repeat (first | (with_reducible first | exact HB.out | apply below_alloc | apply pw_below_drewN | apply below_drew1 | refine below_set ?_ GE168.out) | exact HB.out)⟩
           ·rw [if_neg c29] at H
            exact absurd H (by simp)
          ·replace c28 := Bool.eq_false_iff.mpr c28
           subst c28
           have H1 : (if x59_2 < (l0_4.length : Int) then (if (rdOf ByteArray.empty l0_4 x59_2).toList = ([] : List UInt8) then (if x59_2 < (l0_2.length : Int) then (if rdOf false l0_2 x59_2 = true then (some false) else (spec_GoodWindow.l0 k2 (l0_0.length : Int) l0_0 (l0_0.length : Int) (wrap64 (x59_2 + 1)) l0_0 a0_1 l0_2 l0_3 l0_4 l0_5 a0_6)) else (none)) else (some false)) else (none)) = some r := by rw [if_neg (show ¬ (false = true) by decide)] at H; exact H
           clear H
           have H := H1
           clear H1
           by_cases c33 : x59_2 < (l0_4.length : Int)
           ·rw [if_pos c33] at H
            have c33b0 : decide (x59_2 < (l0_4.length : Int)) = true := decide_eq_true c33
            clear c33
            by_cases c34 : (rdOf ByteArray.empty l0_4 x59_2).toList = ([] : List UInt8)
            ·rw [if_pos c34] at H
             have c34b0 : ((rdOf ByteArray.empty l0_4 x59_2).toList == ([] : List UInt8)) = true := beq_iff_eq.mpr c34
             have c34b1 : ((rdOf ByteArray.empty l0_4 x59_2).toList != ([] : List UInt8)) = false := bne_eq_false_iff_eq.mpr c34
             clear c34
             by_cases c35 : x59_2 < (l0_2.length : Int)
             ·rw [if_pos c35] at H
              have c35b0 : decide (x59_2 < (l0_2.length : Int)) = true := decide_eq_true c35
              clear c35
              obtain ⟨bq36, hbq36⟩ : ∃ b_ : Bool, b_ = (rdOf false l0_2 x59_2) := ⟨_, rfl⟩
              replace H : (if bq36 = true then (some false) else (spec_GoodWindow.l0 k2 (l0_0.length : Int) l0_0 (l0_0.length : Int) (wrap64 (x59_2 + 1)) l0_0 a0_1 l0_2 l0_3 l0_4 l0_5 a0_6)) = some r := by rw [← hbq36] at H; exact H
              have Nbq36 := Aside0.mk hbq36
              clear hbq36
              by_cases c37 : bq36 = true
              ·subst c37
               have H1 : (some false) = some r := by rw [if_pos rfl] at H; exact H
               clear H
               have H := H1
               clear H1
               obtain rfl := Option.some.inj H
               have p172 : 0 ≤ (x59_2 : Int) := of_decide_eq_true (by first | (with_reducible assumption) | assumption)
               have q172 : x59_2 < (l0_0.length : Int) := of_decide_eq_true (by first | (with_reducible assumption) | assumption)
               obtain ⟨ad172, e172, hx172_0⟩ := Kd.at_string HR0_0.out x59_2 p172 q172
               cases e172
               replace hx172_0 := (HB.out.cell (World.block_lt_of_cell? w _ hx172_0)).trans hx172_0
               replace p172 := eq_true p172
               replace q172 := eq_true q172
               have hcz38_0 : wr.cell? ⟨gb168, 0, none⟩ = some (.slice (some ad172) l0_0.length c0_0) := (blk_cell BK168.out 0).trans rfl
               have hcz38_1 : wr.cell? ⟨gb168, 1, none⟩ = some (.int .i64 a0_1) := (blk_cell BK168.out 1).trans rfl
               have hcz38_2 : wr.cell? ⟨gb168, 2, none⟩ = some (.slice A0_2 l0_2.length c0_2) := (blk_cell BK168.out 2).trans rfl
               have hcz38_3 : wr.cell? ⟨gb168, 3, none⟩ = some (.slice A0_3 l0_3.length c0_3) := (blk_cell BK168.out 3).trans rfl
               have hcz38_4 : wr.cell? ⟨gb168, 4, none⟩ = some (.slice A0_4 l0_4.length c0_4) := (blk_cell BK168.out 4).trans rfl
               have hcz38_5 : wr.cell? ⟨gb168, 5, none⟩ = some (.slice A0_5 l0_5.length c0_5) := (blk_cell BK168.out 5).trans rfl
               have hcz38_6 : wr.cell? ⟨gb168, 6, none⟩ = some (.int .i64 a0_6) := (blk_cell BK168.out 6).trans rfl
               have hfz38_0 := blk_frozen BK168.out 0
               have hfz38_1 := blk_frozen BK168.out 1
               have hfz38_2 := blk_frozen BK168.out 2
               have hfz38_3 := blk_frozen BK168.out 3
               have hfz38_4 := blk_frozen BK168.out 4
               have hfz38_5 := blk_frozen BK168.out 5
               have hfz38_6 := blk_frozen BK168.out 6
               have p173 : 0 ≤ (x59_2 : Int) := of_decide_eq_true (by first | (with_reducible assumption) | assumption)
               have q173 : x59_2 < (l0_5.length : Int) := of_decide_eq_true (by first | (with_reducible assumption) | assumption)
               obtain ⟨ad173, e173, hx173_0⟩ := Kd.at_bool HR0_5.out x59_2 p173 q173
               (try rw [← Nbq27.out] at hx173_0)
               (try rw [← Nbq36.out] at hx173_0)
               cases e173
               replace hx173_0 := (HB.out.cell (World.block_lt_of_cell? w _ hx173_0)).trans hx173_0
               replace p173 := eq_true p173
               replace q173 := eq_true q173
               have p176 : 0 ≤ (x59_2 : Int) := of_decide_eq_true (by first | (with_reducible assumption) | assumption)
               have q176 : x59_2 < (l0_5.length : Int) := of_decide_eq_true (by first | (with_reducible assumption) | assumption)
               obtain ⟨ad176, e176, hx176_0⟩ := Kd.at_bool HR0_5.out x59_2 p176 q176
               (try rw [← Nbq27.out] at hx176_0)
               (try rw [← Nbq36.out] at hx176_0)
               obtain rfl : ad173 = ad176 := (by injection e176)
               replace hx176_0 := (HB.out.cell (World.block_lt_of_cell? w _ hx176_0)).trans hx176_0
               replace p176 := eq_true p176
               replace q176 := eq_true q176
               have p177 : 0 ≤ (x59_2 : Int) := of_decide_eq_true (by first | (with_reducible assumption) | assumption)
               have q177 : x59_2 < (l0_4.length : Int) := of_decide_eq_true (by first | (with_reducible assumption) | assumption)
               obtain ⟨ad177, e177, hx177_0⟩ := Kd.at_string HR0_4.out x59_2 p177 q177
               cases e177
               replace hx177_0 := (HB.out.cell (World.block_lt_of_cell? w _ hx177_0)).trans hx177_0
               replace p177 := eq_true p177
               replace q177 := eq_true q177
               have p178 : 0 ≤ (x59_2 : Int) := of_decide_eq_true (by first | (with_reducible assumption) | assumption)
               have q178 : x59_2 < (l0_2.length : Int) := of_decide_eq_true (by first | (with_reducible assumption) | assumption)
               obtain ⟨ad178, e178, hx178_0⟩ := Kd.at_bool HR0_2.out x59_2 p178 q178
               (try rw [← Nbq27.out] at hx178_0)
               (try rw [← Nbq36.out] at hx178_0)
               cases e178
               replace hx178_0 := (HB.out.cell (World.block_lt_of_cell? w _ hx178_0)).trans hx178_0
               replace p178 := eq_true p178
               replace q178 := eq_true q178
               go_wp2
               go_ret
               exact ⟨by first | rfl | (simp [errW_none, errW_some] <;> rfl) | (simp [*, errW_none, errW_some] <;> rfl), by repeat (first | (with_reducible first | exact HB.out | apply below_alloc | apply pw_below_drewN | apply below_drew1 | refine below_set ?_ GE168.out) | exact HB.out)⟩
              ·replace c37 := Bool.eq_false_iff.mpr c37
               subst c37
               have H1 : (spec_GoodWindow.l0 k2 (l0_0.length : Int) l0_0 (l0_0.length : Int) (wrap64 (x59_2 + 1)) l0_0 a0_1 l0_2 l0_3 l0_4 l0_5 a0_6) = some r := by rw [if_neg (show ¬ (false = true) by decide)] at H; exact H
               clear H
               have H := H1
               clear H1
               have H' := Aside0.mk H
               clear H
               have p172 : 0 ≤ (x59_2 : Int) := of_decide_eq_true (by first | (with_reducible assumption) | assumption)
               have q172 : x59_2 < (l0_0.length : Int) := of_decide_eq_true (by first | (with_reducible assumption) | assumption)
               obtain ⟨ad172, e172, hx172_0⟩ := Kd.at_string HR0_0.out x59_2 p172 q172
               cases e172
               replace hx172_0 := (HB.out.cell (World.block_lt_of_cell? w _ hx172_0)).trans hx172_0
               replace p172 := eq_true p172
               replace q172 := eq_true q172
               have hcz39_0 : wr.cell? ⟨gb168, 0, none⟩ = some (.slice (some ad172) l0_0.length c0_0) := (blk_cell BK168.out 0).trans rfl
               have hcz39_1 : wr.cell? ⟨gb168, 1, none⟩ = some (.int .i64 a0_1) := (blk_cell BK168.out 1).trans rfl
               have hcz39_2 : wr.cell? ⟨gb168, 2, none⟩ = some (.slice A0_2 l0_2.length c0_2) := (blk_cell BK168.out 2).trans rfl
               have hcz39_3 : wr.cell? ⟨gb168, 3, none⟩ = some (.slice A0_3 l0_3.length c0_3) := (blk_cell BK168.out 3).trans rfl
               have hcz39_4 : wr.cell? ⟨gb168, 4, none⟩ = some (.slice A0_4 l0_4.length c0_4) := (blk_cell BK168.out 4).trans rfl
               have hcz39_5 : wr.cell? ⟨gb168, 5, none⟩ = some (.slice A0_5 l0_5.length c0_5) := (blk_cell BK168.out 5).trans rfl
               have hcz39_6 : wr.cell? ⟨gb168, 6, none⟩ = some (.int .i64 a0_6) := (blk_cell BK168.out 6).trans rfl
               have hfz39_0 := blk_frozen BK168.out 0
               have hfz39_1 := blk_frozen BK168.out 1
               have hfz39_2 := blk_frozen BK168.out 2
               have hfz39_3 := blk_frozen BK168.out 3
               have hfz39_4 := blk_frozen BK168.out 4
               have hfz39_5 := blk_frozen BK168.out 5
               have hfz39_6 := blk_frozen BK168.out 6
               have p173 : 0 ≤ (x59_2 : Int) := of_decide_eq_true (by first | (with_reducible assumption) | assumption)
               have q173 : x59_2 < (l0_5.length : Int) := of_decide_eq_true (by first | (with_reducible assumption) | assumption)
               obtain ⟨ad173, e173, hx173_0⟩ := Kd.at_bool HR0_5.out x59_2 p173 q173
               (try rw [← Nbq27.out] at hx173_0)
               (try rw [← Nbq36.out] at hx173_0)
               cases e173
               replace hx173_0 := (HB.out.cell (World.block_lt_of_cell? w _ hx173_0)).trans hx173_0
               replace p173 := eq_true p173
               replace q173 := eq_true q173
               have p176 : 0 ≤ (x59_2 : Int) := of_decide_eq_true (by first | (with_reducible assumption) | assumption)
               have q176 : x59_2 < (l0_5.length : Int) := of_decide_eq_true (by first | (with_reducible assumption) | assumption)
               obtain ⟨ad176, e176, hx176_0⟩ := Kd.at_bool HR0_5.out x59_2 p176 q176
               (try rw [← Nbq27.out] at hx176_0)
               (try rw [← Nbq36.out] at hx176_0)
               obtain rfl : ad173 = ad176 := (by injection e176)
               replace hx176_0 := (HB.out.cell (World.block_lt_of_cell? w _ hx176_0)).trans hx176_0
               replace p176 := eq_true p176
               replace q176 := eq_true q176
               have p177 : 0 ≤ (x59_2 : Int) := of_decide_eq_true (by first | (with_reducible assumption) | assumption)
               have q177 : x59_2 < (l0_4.length : Int) := of_decide_eq_true (by first | (with_reducible assumption) | assumption)
               obtain ⟨ad177, e177, hx177_0⟩ := Kd.at_string HR0_4.out x59_2 p177 q177
               cases e177
               replace hx177_0 := (HB.out.cell (World.block_lt_of_cell? w _ hx177_0)).trans hx177_0
               replace p177 := eq_true p177
               replace q177 := eq_true q177
               have p178 : 0 ≤ (x59_2 : Int) := of_decide_eq_true (by first | (with_reducible assumption) | assumption)
               have q178 : x59_2 < (l0_2.length : Int) := of_decide_eq_true (by first | (with_reducible assumption) | assumption)
               obtain ⟨ad178, e178, hx178_0⟩ := Kd.at_bool HR0_2.out x59_2 p178 q178
               (try rw [← Nbq27.out] at hx178_0)
               (try rw [← Nbq36.out] at hx178_0)
               cases e178
               replace hx178_0 := (HB.out.cell (World.block_lt_of_cell? w _ hx178_0)).trans hx178_0
               replace p178 := eq_true p178
               replace q178 := eq_true q178
               go_wp2
               go_roundg k2
               case measure => have := HJ1.out; have := HK2.out; omega
               case rel => exact ⟨(wrap64 (x59_2 + 1)), (by first | rfl | (simp; done) | (simp [*]; done)), H', ⟨by have := HJ1.out; have := HK2.out; omega⟩, ⟨by (with_reducible repeat (first | refine blk_drewN ?_ _ | refine blk_drew ?_ | refine blk_alloc ?_ _)); exact BK168.out⟩, ⟨by repeat (first | (with_reducible first | exact HB.out | apply below_alloc | apply pw_below_drewN | apply below_drew1 | refine below_set ?_ GE168.out) | exact HB.out)⟩⟩
             ·rw [if_neg c35] at H
              exact absurd H (by simp)
            ·rw [if_neg c34] at H
             have c34b0 : ((rdOf ByteArray.empty l0_4 x59_2).toList == ([] : List UInt8)) = false := beq_eq_false_iff_ne.mpr c34
             have c34b1 : ((rdOf ByteArray.empty l0_4 x59_2).toList != ([] : List UInt8)) = true := bne_iff_ne.mpr c34
             obtain rfl := Option.some.inj H
             have p172 : 0 ≤ (x59_2 : Int) := of_decide_eq_true (by first | (with_reducible assumption) | assumption)
             have q172 : x59_2 < (l0_0.length : Int) := of_decide_eq_true (by first | (with_reducible assumption) | assumption)
             obtain ⟨ad172, e172, hx172_0⟩ := Kd.at_string HR0_0.out x59_2 p172 q172
             cases e172
             replace hx172_0 := (HB.out.cell (World.block_lt_of_cell? w _ hx172_0)).trans hx172_0
             replace p172 := eq_true p172
             replace q172 := eq_true q172
             have hcz40_0 : wr.cell? ⟨gb168, 0, none⟩ = some (.slice (some ad172) l0_0.length c0_0) := (blk_cell BK168.out 0).trans rfl
             have hcz40_1 : wr.cell? ⟨gb168, 1, none⟩ = some (.int .i64 a0_1) := (blk_cell BK168.out 1).trans rfl
             have hcz40_2 : wr.cell? ⟨gb168, 2, none⟩ = some (.slice A0_2 l0_2.length c0_2) := (blk_cell BK168.out 2).trans rfl
             have hcz40_3 : wr.cell? ⟨gb168, 3, none⟩ = some (.slice A0_3 l0_3.length c0_3) := (blk_cell BK168.out 3).trans rfl
             have hcz40_4 : wr.cell? ⟨gb168, 4, none⟩ = some (.slice A0_4 l0_4.length c0_4) := (blk_cell BK168.out 4).trans rfl
             have hcz40_5 : wr.cell? ⟨gb168, 5, none⟩ = some (.slice A0_5 l0_5.length c0_5) := (blk_cell BK168.out 5).trans rfl
             have hcz40_6 : wr.cell? ⟨gb168, 6, none⟩ = some (.int .i64 a0_6) := (blk_cell BK168.out 6).trans rfl
             have hfz40_0 := blk_frozen BK168.out 0
             have hfz40_1 := blk_frozen BK168.out 1
             have hfz40_2 := blk_frozen BK168.out 2
             have hfz40_3 := blk_frozen BK168.out 3
             have hfz40_4 := blk_frozen BK168.out 4
             have hfz40_5 := blk_frozen BK168.out 5
             have hfz40_6 := blk_frozen BK168.out 6
             have p173 : 0 ≤ (x59_2 : Int) := of_decide_eq_true (by first | (with_reducible assumption) | assumption)
             have q173 : x59_2 < (l0_5.length : Int) := of_decide_eq_true (by first | (with_reducible assumption) | assumption)
             obtain ⟨ad173, e173, hx173_0⟩ := Kd.at_bool HR0_5.out x59_2 p173 q173
             (try rw [← Nbq27.out] at hx173_0)
             cases e173
             replace hx173_0 := (HB.out.cell (World.block_lt_of_cell? w _ hx173_0)).trans hx173_0
             replace p173 := eq_true p173
             replace q173 := eq_true q173
             have p176 : 0 ≤ (x59_2 : Int) := of_decide_eq_true (by first | (with_reducible assumption) | assumption)
             have q176 : x59_2 < (l0_5.length : Int) := of_decide_eq_true (by first | (with_reducible assumption) | assumption)
             obtain ⟨ad176, e176, hx176_0⟩ := Kd.at_bool HR0_5.out x59_2 p176 q176
             (try rw [← Nbq27.out] at hx176_0)
             obtain rfl : ad173 = ad176 := (by injection e176)
             replace hx176_0 := (HB.out.cell (World.block_lt_of_cell? w _ hx176_0)).trans hx176_0
             replace p176 := eq_true p176
             replace q176 := eq_true q176
             have p177 : 0 ≤ (x59_2 : Int) := of_decide_eq_true (by first | (with_reducible assumption) | assumption)
             have q177 : x59_2 < (l0_4.length : Int) := of_decide_eq_true (by first | (with_reducible assumption) | assumption)
             obtain ⟨ad177, e177, hx177_0⟩ := Kd.at_string HR0_4.out x59_2 p177 q177
             cases e177
             replace hx177_0 := (HB.out.cell (World.block_lt_of_cell? w _ hx177_0)).trans hx177_0
             replace p177 := eq_true p177
             replace q177 := eq_true q177
             go_wp2
             go_ret
             exact ⟨by first | rfl | (simp [errW_none, errW_some] <;> rfl) | (simp [*, errW_none, errW_some] <;> rfl), by repeat (first | (with_reducible first | exact HB.out | apply below_alloc | apply pw_below_drewN | apply below_drew1 | refine below_set ?_ GE168.out) | exact HB.out)⟩
           ·rw [if_neg c33] at H
            exact absurd H (by simp)
         ·rw [if_neg c26] at H
          exact absurd H (by simp)
        ·rw [if_neg c25] at H
         exact absurd H (by simp)
       ·rw [if_neg c24] at H
        exact absurd H (by simp)
      ·rw [if_neg c23] at H
       have c23b0 : decide (x59_2 < (l0_0.length : Int)) = false := decide_eq_false c23
       clear c23
       have H' := Aside0.mk H
       clear H
       have hcz41_0 : wr.cell? ⟨gb168, 0, none⟩ = some (.slice A0_0 l0_0.length c0_0) := (blk_cell BK168.out 0).trans rfl
       have hcz41_1 : wr.cell? ⟨gb168, 1, none⟩ = some (.int .i64 a0_1) := (blk_cell BK168.out 1).trans rfl
       have hcz41_2 : wr.cell? ⟨gb168, 2, none⟩ = some (.slice A0_2 l0_2.length c0_2) := (blk_cell BK168.out 2).trans rfl
       have hcz41_3 : wr.cell? ⟨gb168, 3, none⟩ = some (.slice A0_3 l0_3.length c0_3) := (blk_cell BK168.out 3).trans rfl
       have hcz41_4 : wr.cell? ⟨gb168, 4, none⟩ = some (.slice A0_4 l0_4.length c0_4) := (blk_cell BK168.out 4).trans rfl
       have hcz41_5 : wr.cell? ⟨gb168, 5, none⟩ = some (.slice A0_5 l0_5.length c0_5) := (blk_cell BK168.out 5).trans rfl
       have hcz41_6 : wr.cell? ⟨gb168, 6, none⟩ = some (.int .i64 a0_6) := (blk_cell BK168.out 6).trans rfl
       have hfz41_0 := blk_frozen BK168.out 0
       have hfz41_1 := blk_frozen BK168.out 1
       have hfz41_2 := blk_frozen BK168.out 2
       have hfz41_3 := blk_frozen BK168.out 3
       have hfz41_4 := blk_frozen BK168.out 4
       have hfz41_5 := blk_frozen BK168.out 5
       have hfz41_6 := blk_frozen BK168.out 6
       go_wp2
       go_loopg [105] k2 (fun kq v105 w' => ∃ (x105_3 : Int), v105 = .int .i64 x105_3 ∧ Aside0 (spec_GoodWindow.l1 kq (l0_0.length : Int) l0_3 (l0_3.length : Int) x105_3 l0_0 a0_1 l0_2 l0_3 l0_4 l0_5 a0_6 = some r) ∧ Aside0 (kq ≤ k2) ∧ Aside0 (w'.heap[gb168]? = some (.cells #[(.slice A0_0 l0_0.length c0_0), .int .i64 a0_1, (.slice A0_2 l0_2.length c0_2), (.slice A0_3 l0_3.length c0_3), (.slice A0_4 l0_4.length c0_4), (.slice A0_5 l0_5.length c0_5), .int .i64 a0_6] 66 (0, 0))) ∧ Aside0 (Below w.heap.size w w'))
       case atStart => exact ⟨(0), (by first | rfl | (simp; done) | (simp [*]; done)), H', ⟨Nat.le_refl _⟩, ⟨by (with_reducible repeat (first | refine blk_drewN ?_ _ | refine blk_drew ?_ | refine blk_alloc ?_ _)); exact BK168.out⟩, ⟨by repeat (first | (with_reducible first | exact HB.out | apply below_alloc | apply pw_below_drewN | apply below_drew1 | refine below_set ?_ GE168.out) | exact HB.out)⟩⟩
       case round =>
        clear H'
        try clear c1
        try clear p1
        try clear q1
        try clear hx1
        try clear c2
        try clear p2
        try clear q2
        try clear c3
        try clear q3
        try clear c6
        try clear p6
        try clear c8
        try clear c10
        try clear p17
        try clear q17
        try clear hx17
        try clear c21
        try clear c23
        try clear c23b0
        try clear c24
        try clear c24b0
        try clear c25
        try clear c25b0
        try clear c26
        try clear c26b0
        try clear q27
        try clear c28
        try clear c29
        try clear c29b0
        try clear c30
        try clear c30b0
        try clear c30b1
        try clear c33
        try clear c33b0
        try clear c34
        try clear c34b0
        try clear c34b1
        try clear c35
        try clear c35b0
        try clear q36
        try clear c37
        try clear hcz22_0
        try clear hcz22_1
        try clear hcz22_2
        try clear hcz22_3
        try clear hcz22_4
        try clear hcz22_5
        try clear hcz22_6
        try clear hcz31_0
        try clear hcz31_1
        try clear hcz31_2
        try clear hcz31_3
        try clear hcz31_4
        try clear hcz31_5
        try clear hcz31_6
        try clear hcz32_0
        try clear hcz32_1
        try clear hcz32_2
        try clear hcz32_3
        try clear hcz32_4
        try clear hcz32_5
        try clear hcz32_6
        try clear hcz38_0
        try clear hcz38_1
        try clear hcz38_2
        try clear hcz38_3
        try clear hcz38_4
        try clear hcz38_5
        try clear hcz38_6
        try clear hcz39_0
        try clear hcz39_1
        try clear hcz39_2
        try clear hcz39_3
        try clear hcz39_4
        try clear hcz39_5
        try clear hcz39_6
        try clear hcz40_0
        try clear hcz40_1
        try clear hcz40_2
        try clear hcz40_3
        try clear hcz40_4
        try clear hcz40_5
        try clear hcz40_6
        try clear hcz41_0
        try clear hcz41_1
        try clear hcz41_2
        try clear hcz41_3
        try clear hcz41_4
        try clear hcz41_5
        try clear hcz41_6
        try clear hfz22_0
        try clear hfz22_1
        try clear hfz22_2
        try clear hfz22_3
        try clear hfz22_4
        try clear hfz22_5
        try clear hfz22_6
        try clear hfz31_0
        try clear hfz31_1
        try clear hfz31_2
        try clear hfz31_3
        try clear hfz31_4
        try clear hfz31_5
        try clear hfz31_6
        try clear hfz32_0
        try clear hfz32_1
        try clear hfz32_2
        try clear hfz32_3
        try clear hfz32_4
        try clear hfz32_5
        try clear hfz32_6
        try clear hfz38_0
        try clear hfz38_1
        try clear hfz38_2
        try clear hfz38_3
        try clear hfz38_4
        try clear hfz38_5
        try clear hfz38_6
        try clear hfz39_0
        try clear hfz39_1
        try clear hfz39_2
        try clear hfz39_3
        try clear hfz39_4
        try clear hfz39_5
        try clear hfz39_6
        try clear hfz40_0
        try clear hfz40_1
        try clear hfz40_2
        try clear hfz40_3
        try clear hfz40_4
        try clear hfz40_5
        try clear hfz40_6
        try clear hfz41_0
        try clear hfz41_1
        try clear hfz41_2
        try clear hfz41_3
        try clear hfz41_4
        try clear hfz41_5
        try clear hfz41_6
        try clear hx172_0
        try clear hx173_0
        try clear hx174_0
        try clear hx175_0
        try clear hx176_0
        try clear hx177_0
        try clear hx178_0
        try clear p172
        try clear p173
        try clear p174
        try clear p175
        try clear p176
        try clear p177
        try clear p178
        try clear p2
        try clear q172
        try clear q173
        try clear q174
        try clear q175
        try clear q176
        try clear q177
        try clear q178
        obtain ⟨x105_3, rfl, HA, HK3, BK168, HB⟩ := hrel
        cases gk with
        | zero => exact absurd HA.out (by simp [spec_GoodWindow.l1])
        | succ k3 =>
         have H := HA.out
         clear HA
         simp only [spec_GoodWindow.l1] at H
         by_cases c42 : x105_3 < (l0_3.length : Int)
         ·rw [if_pos c42] at H
          have c42b0 : decide (x105_3 < (l0_3.length : Int)) = true := decide_eq_true c42
          clear c42
          by_cases c43 : 0 ≤ x105_3
          ·rw [if_pos c43] at H
           have c43b0 : decide (0 ≤ x105_3) = true := decide_eq_true c43
           clear c43
           by_cases c44 : x105_3 < (l0_3.length : Int)
           ·rw [if_pos c44] at H
            have c44b0 : decide (x105_3 < (l0_3.length : Int)) = true := decide_eq_true c44
            clear c44
            by_cases c45 : ((rd_T128 l0_3 x105_3).f1) < 0
            ·rw [if_pos c45] at H
             have c45b0 : decide (((rd_T128 l0_3 x105_3).f1) < 0) = true := decide_eq_true c45
             clear c45
             obtain rfl := Option.some.inj H
             have p179 : 0 ≤ (x105_3 : Int) := of_decide_eq_true (by first | (with_reducible assumption) | assumption)
             have q179 : x105_3 < (l0_3.length : Int) := of_decide_eq_true (by first | (with_reducible assumption) | assumption)
             obtain ⟨ad179, e179, hx179_0, hx179_1, hx179_2⟩ := at_T128 HR0_3.out x105_3 p179 q179
             cases e179
             replace hx179_0 := (HB.out.cell (World.block_lt_of_cell? w _ hx179_0)).trans hx179_0
             replace hx179_1 := (HB.out.cell (World.block_lt_of_cell? w _ hx179_1)).trans hx179_1
             replace hx179_2 := (HB.out.cell (World.block_lt_of_cell? w _ hx179_2)).trans hx179_2
             replace p179 := eq_true p179
             replace q179 := eq_true q179
             try go_wp2_with (first | ((with_reducible refine gate_dst (N := 7) rfl ?_); (try (refine gate_guard (by rfl) ?_; dsimp only)); refine box_event ?hg (N := 7) ?hd (cs := #[.bool false, .int .i64 0, .string (⟨#[]⟩ : ByteArray)]) (t := 128) ?hr ?_; (case hd => rfl); (case hg => rfl); (case hr => first | (go_simp; done) | (go_simp; rfl)); intro gb180 hg w46 hbox hb; have n0_ := Aside0.mk (blk_below (g := gb168) (o := .cells #[.slice A0_0 l0_0.length c0_0, .int .i64 a0_1, .slice A0_2 l0_2.length c0_2, .slice (some ad179) l0_3.length c0_3, .slice A0_4 l0_4.length c0_4, .slice A0_5 l0_5.length c0_5, .int .i64 a0_6] 66 (0, 0)) (by (with_reducible repeat (first | refine blk_drewN ?_ _ | refine blk_drew ?_ | refine blk_alloc ?_ _)); exact BK168.out) hb); have n1_ := Aside0.mk (below_step (by repeat (first | (with_reducible first | exact HB.out | apply below_alloc | apply pw_below_drewN | apply below_drew1 | refine below_set ?_ GE168.out) | exact HB.out)) hb); have n2_ := Aside0.mk (hbox); have n3_ := Aside0.mk ((by rw [hg]; exact (below_size (by repeat (first | (with_reducible first | exact HB.out | apply below_alloc | apply pw_below_drewN | apply below_drew1 | refine below_set ?_ GE168.out) | exact HB.out))) : w.heap.size ≤ gb180)); have n4_ := Aside0.mk ((by rw [hg]; exact (below_size (by repeat (first | (with_reducible first | exact HB.out | apply below_alloc | apply pw_below_drewN | apply below_drew1 | refine below_set ?_ GE168.out) | exact HB.out))) : w.heap.size ≤ gb180)); have n5_ := Aside0.mk ((by rw [hg]; exact Nat.ne_of_lt (blk_lt (g := gb168) (o := .cells #[.slice A0_0 l0_0.length c0_0, .int .i64 a0_1, .slice A0_2 l0_2.length c0_2, .slice (some ad179) l0_3.length c0_3, .slice A0_4 l0_4.length c0_4, .slice A0_5 l0_5.length c0_5, .int .i64 a0_6] 66 (0, 0)) (by (with_reducible repeat (first | refine blk_drewN ?_ _ | refine blk_drew ?_ | refine blk_alloc ?_ _)); exact BK168.out)) : gb168 ≠ gb180)); have n6_ := Aside0.mk ((by rw [hg]; exact Nat.ne_of_gt (blk_lt (g := gb168) (o := .cells #[.slice A0_0 l0_0.length c0_0, .int .i64 a0_1, .slice A0_2 l0_2.length c0_2, .slice (some ad179) l0_3.length c0_3, .slice A0_4 l0_4.length c0_4, .slice A0_5 l0_5.length c0_5, .int .i64 a0_6] 66 (0, 0)) (by (with_reducible repeat (first | refine blk_drewN ?_ _ | refine blk_drew ?_ | refine blk_alloc ?_ _)); exact BK168.out)) : gb180 ≠ gb168)); clear BK168; clear HB; have BK168 := n0_; have HB := n1_; have BK180 := n2_; have GW180 := n3_; have GE180 := n4_; have NB168_180 := n5_; have NB180_168 := n6_; clear n0_ n1_ n2_ n3_ n4_ n5_ n6_; clear hb hbox hg; have hnb47 := NB180_168.out; have hnc47 := NB168_180.out; have hcz48_0 : w46.cell? ⟨gb180, 0, none⟩ = some (.bool false) := (blk_cell BK180.out 0).trans rfl; have hcz48_1 : w46.cell? ⟨gb180, 1, none⟩ = some (.int .i64 0) := (blk_cell BK180.out 1).trans rfl; have hcz48_2 : w46.cell? ⟨gb180, 2, none⟩ = some (.string (⟨#[]⟩ : ByteArray)) := (blk_cell BK180.out 2).trans rfl; have hfz48_0 := blk_frozen BK180.out 0; have hfz48_1 := blk_frozen BK180.out 1; have hfz48_2 := blk_frozen BK180.out 2))
             have n0_ : Aside0 ((((w46.setCell ⟨gb180, 0, none⟩ (.bool ((rd_T128 l0_3 x105_3).f0))).setCell ⟨gb180, 1, none⟩ (.int .i64 ((rd_T128 l0_3 x105_3).f1))).setCell ⟨gb180, 2, none⟩ (.string ((rd_T128 l0_3 x105_3).f2))).heap[gb168]? = some (.cells #[.slice A0_0 l0_0.length c0_0, .int .i64 a0_1, .slice A0_2 l0_2.length c0_2, .slice (some ad179) l0_3.length c0_3, .slice A0_4 l0_4.length c0_4, .slice A0_5 l0_5.length c0_5, .int .i64 a0_6] 66 (0, 0))) := ⟨by (with_reducible repeat (first | refine blk_drewN ?_ _ | refine blk_drew ?_ | refine blk_alloc ?_ _)); refine blk_far ?_ NB168_180.out _; (with_reducible repeat (first | refine blk_drewN ?_ _ | refine blk_drew ?_ | refine blk_alloc ?_ _)); refine blk_far ?_ NB168_180.out _; (with_reducible repeat (first | refine blk_drewN ?_ _ | refine blk_drew ?_ | refine blk_alloc ?_ _)); refine blk_far ?_ NB168_180.out _; (with_reducible repeat (first | refine blk_drewN ?_ _ | refine blk_drew ?_ | refine blk_alloc ?_ _)); exact BK168.out⟩
             have n1_ : Aside0 ((((w46.setCell ⟨gb180, 0, none⟩ (.bool ((rd_T128 l0_3 x105_3).f0))).setCell ⟨gb180, 1, none⟩ (.int .i64 ((rd_T128 l0_3 x105_3).f1))).setCell ⟨gb180, 2, none⟩ (.string ((rd_T128 l0_3 x105_3).f2))).heap[gb180]? = some (.cells #[.bool ((rd_T128 l0_3 x105_3).f0), .int .i64 ((rd_T128 l0_3 x105_3).f1), .string ((rd_T128 l0_3 x105_3).f2)] 128 (0, 0))) := ⟨by (with_reducible repeat (first | refine blk_drewN ?_ _ | refine blk_drew ?_ | refine blk_alloc ?_ _)); refine blk_put (cs := #[.bool ((rd_T128 l0_3 x105_3).f0), .int .i64 ((rd_T128 l0_3 x105_3).f1), .string (⟨#[]⟩ : ByteArray)]) ?_ 2 _ rfl; (with_reducible repeat (first | refine blk_drewN ?_ _ | refine blk_drew ?_ | refine blk_alloc ?_ _)); refine blk_put (cs := #[.bool ((rd_T128 l0_3 x105_3).f0), .int .i64 0, .string (⟨#[]⟩ : ByteArray)]) ?_ 1 _ rfl; (with_reducible repeat (first | refine blk_drewN ?_ _ | refine blk_drew ?_ | refine blk_alloc ?_ _)); refine blk_put (cs := #[.bool false, .int .i64 0, .string (⟨#[]⟩ : ByteArray)]) ?_ 0 _ rfl; (with_reducible repeat (first | refine blk_drewN ?_ _ | refine blk_drew ?_ | refine blk_alloc ?_ _)); exact BK180.out⟩
             have n2_ : Aside0 (Below w.heap.size w (((w46.setCell ⟨gb180, 0, none⟩ (.bool ((rd_T128 l0_3 x105_3).f0))).setCell ⟨gb180, 1, none⟩ (.int .i64 ((rd_T128 l0_3 x105_3).f1))).setCell ⟨gb180, 2, none⟩ (.string ((rd_T128 l0_3 x105_3).f2)))) := ⟨by repeat (first | (with_reducible first | exact HB.out | apply below_alloc | apply pw_below_drewN | apply below_drew1 | refine below_set ?_ GE168.out | refine below_set ?_ GE180.out) | exact HB.out)⟩
             (try clear BK168)
             (try clear BK180)
             (try clear HB)
             generalize (((w46.setCell ⟨gb180, 0, none⟩ (.bool ((rd_T128 l0_3 x105_3).f0))).setCell ⟨gb180, 1, none⟩ (.int .i64 ((rd_T128 l0_3 x105_3).f1))).setCell ⟨gb180, 2, none⟩ (.string ((rd_T128 l0_3 x105_3).f2))) = w49 at n0_ n1_ n2_ ⊢
             have BK168 := n0_
             have BK180 := n1_
             have HB := n2_
             clear n0_ n1_ n2_
             have n0_ := Aside0.mk (blk_drew BK168.out)
             have n1_ := Aside0.mk (blk_drew BK180.out)
             have n2_ := Aside0.mk (below_drew1 HB.out)
             clear BK168
             clear BK180
             clear HB
             have BK168 := n0_
             have BK180 := n1_
             have HB := n2_
             clear n0_ n1_ n2_
             refine start_ (n := 43) (S := fun w' => w'.cell? ⟨gb180, 0, none⟩ = some (.bool ((rd_T128 l0_3 x105_3).f0)) ∧ w'.cell? ⟨gb180, 1, none⟩ = some (.int .i64 ((rd_T128 l0_3 x105_3).f1)) ∧ w'.cell? ⟨gb180, 2, none⟩ = some (.string ((rd_T128 l0_3 x105_3).f2))) (ds := []) (pz 43 0) (by kernel_rfl) rfl rfl ⟨(blk_cell BK180.out 0).trans rfl, (blk_cell BK180.out 1).trans rfl, (blk_cell BK180.out 2).trans rfl⟩ (fun hHeld => ?_); refine with_tabW spec_GoodWindow.tab13 spec_GoodWindow.bits13 (fun HT_ HW_ => ?_)
             generalize w49.drew = w50 at BK168 BK180 HB hHeld ⊢
             refine sR 0 109 (pz 43 1) HT_ ?_
             refine sT 1 110 (pz 43 2) rfl rfl HT_ HW_ hHeld (by rintro w' ⟨s0, s1, s2⟩; go_simp; with_reducible rfl) ?_
             refine sR 2 111 (pz 43 3) HT_ ?_
             refine sR 3 112 (pz 43 4) HT_ ?_
             refine sU 4 113 (pz 43 5) HT_ ?_
             refine sU 5 114 (pz 43 6) HT_ ?_
             refine sU 6 115 (pz 43 7) HT_ ?_
             refine sU 7 116 (pz 43 8) HT_ ?_
             refine sR 8 117 (pz 43 9) HT_ ?_
             refine sR 9 118 (pz 43 10) HT_ ?_
             refine sU 10 119 (pz 43 11) HT_ ?_
             refine sU 11 120 (pz 43 12) HT_ ?_
             refine sU 12 121 (pz 43 13) HT_ ?_
             refine sU 13 122 (pz 43 14) HT_ ?_
             refine sU 14 123 (pz 43 15) HT_ ?_
             refine sU 15 124 (pz 43 16) HT_ ?_
             refine sU 16 125 (pz 43 17) HT_ ?_
             refine sU 17 126 (pz 43 18) HT_ ?_
             refine sU 18 127 (pz 43 19) HT_ ?_
             refine sU 19 128 (pz 43 20) HT_ ?_
             refine sU 20 129 (pz 43 21) HT_ ?_
             refine sU 21 130 (pz 43 22) HT_ ?_
             refine sU 22 131 (pz 43 23) HT_ ?_
             refine sU 23 132 (pz 43 24) HT_ ?_
             refine sU 24 133 (pz 43 25) HT_ ?_
             refine sU 25 134 (pz 43 26) HT_ ?_
             refine sR 26 135 (pz 43 27) HT_ ?_
             refine sR 27 136 (pz 43 28) HT_ ?_
             refine sU 28 137 (pz 43 29) HT_ ?_
             refine sU 29 138 (pz 43 30) HT_ ?_
             refine sU 30 139 (pz 43 31) HT_ ?_
             refine sU 31 140 (pz 43 32) HT_ ?_
             refine sU 32 141 (pz 43 33) HT_ ?_
             refine sU 33 142 (pz 43 34) HT_ ?_
             refine sU 34 143 (pz 43 35) HT_ ?_
             refine sU 35 144 (pz 43 36) HT_ ?_
             refine sU 36 145 (pz 43 37) HT_ ?_
             refine sU 37 146 (pz 43 38) HT_ ?_
             refine sU 38 147 (pz 43 39) HT_ ?_
             refine sU 39 148 (pz 43 40) HT_ ?_
             refine sU 40 149 (pz 43 41) HT_ ?_
             refine sU 41 150 (pz 43 42) HT_ ?_
             refine sR 42 151 (pz 43 43) HT_ ?_
             refine done_ (done_of HT_.out (by kernel_rfl)) ?_
             try go_wp2
             go_ret
             exact ⟨by first | rfl | (simp [errW_none, errW_some] <;> rfl) | (simp [*, errW_none, errW_some] <;> rfl), by repeat (first | (with_reducible first | exact HB.out | apply below_alloc | apply pw_below_drewN | apply below_drew1 | refine below_set ?_ GE168.out | refine below_set ?_ GE180.out) | exact HB.out)⟩
            ·rw [if_neg c45] at H
             have c45b0 : decide (((rd_T128 l0_3 x105_3).f1) < 0) = false := decide_eq_false c45
             clear c45
             by_cases c51 : ((rd_T128 l0_3 x105_3).f1) ≥ (l0_0.length : Int)
             ·rw [if_pos c51] at H
              have c51b0 : decide ((l0_0.length : Int) ≤ ((rd_T128 l0_3 x105_3).f1)) = true := decide_eq_true c51
              clear c51
              obtain rfl := Option.some.inj H
              have p179 : 0 ≤ (x105_3 : Int) := of_decide_eq_true (by first | (with_reducible assumption) | assumption)
              have q179 : x105_3 < (l0_3.length : Int) := of_decide_eq_true (by first | (with_reducible assumption) | assumption)
              obtain ⟨ad179, e179, hx179_0, hx179_1, hx179_2⟩ := at_T128 HR0_3.out x105_3 p179 q179
              cases e179
              replace hx179_0 := (HB.out.cell (World.block_lt_of_cell? w _ hx179_0)).trans hx179_0
              replace hx179_1 := (HB.out.cell (World.block_lt_of_cell? w _ hx179_1)).trans hx179_1
              replace hx179_2 := (HB.out.cell (World.block_lt_of_cell? w _ hx179_2)).trans hx179_2
              replace p179 := eq_true p179
              replace q179 := eq_true q179
              try go_wp2_with (first | ((with_reducible refine gate_dst (N := 7) rfl ?_); (try (refine gate_guard (by rfl) ?_; dsimp only)); refine box_event ?hg (N := 7) ?hd (cs := #[.bool false, .int .i64 0, .string (⟨#[]⟩ : ByteArray)]) (t := 128) ?hr ?_; (case hd => rfl); (case hg => rfl); (case hr => first | (go_simp; done) | (go_simp; rfl)); intro gb180 hg w52 hbox hb; have n0_ := Aside0.mk (blk_below (g := gb168) (o := .cells #[.slice A0_0 l0_0.length c0_0, .int .i64 a0_1, .slice A0_2 l0_2.length c0_2, .slice (some ad179) l0_3.length c0_3, .slice A0_4 l0_4.length c0_4, .slice A0_5 l0_5.length c0_5, .int .i64 a0_6] 66 (0, 0)) (by (with_reducible repeat (first | refine blk_drewN ?_ _ | refine blk_drew ?_ | refine blk_alloc ?_ _)); exact BK168.out) hb); have n1_ := Aside0.mk (below_step (by repeat (first | (with_reducible first | exact HB.out | apply below_alloc | apply pw_below_drewN | apply below_drew1 | refine below_set ?_ GE168.out) | exact HB.out)) hb); have n2_ := Aside0.mk (hbox); have n3_ := Aside0.mk ((by rw [hg]; exact (below_size (by repeat (first | (with_reducible first | exact HB.out | apply below_alloc | apply pw_below_drewN | apply below_drew1 | refine below_set ?_ GE168.out) | exact HB.out))) : w.heap.size ≤ gb180)); have n4_ := Aside0.mk ((by rw [hg]; exact (below_size (by repeat (first | (with_reducible first | exact HB.out | apply below_alloc | apply pw_below_drewN | apply below_drew1 | refine below_set ?_ GE168.out) | exact HB.out))) : w.heap.size ≤ gb180)); have n5_ := Aside0.mk ((by rw [hg]; exact Nat.ne_of_lt (blk_lt (g := gb168) (o := .cells #[.slice A0_0 l0_0.length c0_0, .int .i64 a0_1, .slice A0_2 l0_2.length c0_2, .slice (some ad179) l0_3.length c0_3, .slice A0_4 l0_4.length c0_4, .slice A0_5 l0_5.length c0_5, .int .i64 a0_6] 66 (0, 0)) (by (with_reducible repeat (first | refine blk_drewN ?_ _ | refine blk_drew ?_ | refine blk_alloc ?_ _)); exact BK168.out)) : gb168 ≠ gb180)); have n6_ := Aside0.mk ((by rw [hg]; exact Nat.ne_of_gt (blk_lt (g := gb168) (o := .cells #[.slice A0_0 l0_0.length c0_0, .int .i64 a0_1, .slice A0_2 l0_2.length c0_2, .slice (some ad179) l0_3.length c0_3, .slice A0_4 l0_4.length c0_4, .slice A0_5 l0_5.length c0_5, .int .i64 a0_6] 66 (0, 0)) (by (with_reducible repeat (first | refine blk_drewN ?_ _ | refine blk_drew ?_ | refine blk_alloc ?_ _)); exact BK168.out)) : gb180 ≠ gb168)); clear BK168; clear HB; have BK168 := n0_; have HB := n1_; have BK180 := n2_; have GW180 := n3_; have GE180 := n4_; have NB168_180 := n5_; have NB180_168 := n6_; clear n0_ n1_ n2_ n3_ n4_ n5_ n6_; clear hb hbox hg; have hnb53 := NB180_168.out; have hnc53 := NB168_180.out; have hcz54_0 : w52.cell? ⟨gb180, 0, none⟩ = some (.bool false) := (blk_cell BK180.out 0).trans rfl; have hcz54_1 : w52.cell? ⟨gb180, 1, none⟩ = some (.int .i64 0) := (blk_cell BK180.out 1).trans rfl; have hcz54_2 : w52.cell? ⟨gb180, 2, none⟩ = some (.string (⟨#[]⟩ : ByteArray)) := (blk_cell BK180.out 2).trans rfl; have hfz54_0 := blk_frozen BK180.out 0; have hfz54_1 := blk_frozen BK180.out 1; have hfz54_2 := blk_frozen BK180.out 2))
              have n0_ : Aside0 ((((w52.setCell ⟨gb180, 0, none⟩ (.bool ((rd_T128 l0_3 x105_3).f0))).setCell ⟨gb180, 1, none⟩ (.int .i64 ((rd_T128 l0_3 x105_3).f1))).setCell ⟨gb180, 2, none⟩ (.string ((rd_T128 l0_3 x105_3).f2))).heap[gb168]? = some (.cells #[.slice A0_0 l0_0.length c0_0, .int .i64 a0_1, .slice A0_2 l0_2.length c0_2, .slice (some ad179) l0_3.length c0_3, .slice A0_4 l0_4.length c0_4, .slice A0_5 l0_5.length c0_5, .int .i64 a0_6] 66 (0, 0))) := ⟨by (with_reducible repeat (first | refine blk_drewN ?_ _ | refine blk_drew ?_ | refine blk_alloc ?_ _)); refine blk_far ?_ NB168_180.out _; (with_reducible repeat (first | refine blk_drewN ?_ _ | refine blk_drew ?_ | refine blk_alloc ?_ _)); refine blk_far ?_ NB168_180.out _; (with_reducible repeat (first | refine blk_drewN ?_ _ | refine blk_drew ?_ | refine blk_alloc ?_ _)); refine blk_far ?_ NB168_180.out _; (with_reducible repeat (first | refine blk_drewN ?_ _ | refine blk_drew ?_ | refine blk_alloc ?_ _)); exact BK168.out⟩
              have n1_ : Aside0 ((((w52.setCell ⟨gb180, 0, none⟩ (.bool ((rd_T128 l0_3 x105_3).f0))).setCell ⟨gb180, 1, none⟩ (.int .i64 ((rd_T128 l0_3 x105_3).f1))).setCell ⟨gb180, 2, none⟩ (.string ((rd_T128 l0_3 x105_3).f2))).heap[gb180]? = some (.cells #[.bool ((rd_T128 l0_3 x105_3).f0), .int .i64 ((rd_T128 l0_3 x105_3).f1), .string ((rd_T128 l0_3 x105_3).f2)] 128 (0, 0))) := ⟨by (with_reducible repeat (first | refine blk_drewN ?_ _ | refine blk_drew ?_ | refine blk_alloc ?_ _)); refine blk_put (cs := #[.bool ((rd_T128 l0_3 x105_3).f0), .int .i64 ((rd_T128 l0_3 x105_3).f1), .string (⟨#[]⟩ : ByteArray)]) ?_ 2 _ rfl; (with_reducible repeat (first | refine blk_drewN ?_ _ | refine blk_drew ?_ | refine blk_alloc ?_ _)); refine blk_put (cs := #[.bool ((rd_T128 l0_3 x105_3).f0), .int .i64 0, .string (⟨#[]⟩ : ByteArray)]) ?_ 1 _ rfl; (with_reducible repeat (first | refine blk_drewN ?_ _ | refine blk_drew ?_ | refine blk_alloc ?_ _)); refine blk_put (cs := #[.bool false, .int .i64 0, .string (⟨#[]⟩ : ByteArray)]) ?_ 0 _ rfl; (with_reducible repeat (first | refine blk_drewN ?_ _ | refine blk_drew ?_ | refine blk_alloc ?_ _)); exact BK180.out⟩
              have n2_ : Aside0 (Below w.heap.size w (((w52.setCell ⟨gb180, 0, none⟩ (.bool ((rd_T128 l0_3 x105_3).f0))).setCell ⟨gb180, 1, none⟩ (.int .i64 ((rd_T128 l0_3 x105_3).f1))).setCell ⟨gb180, 2, none⟩ (.string ((rd_T128 l0_3 x105_3).f2)))) := ⟨by repeat (first | (with_reducible first | exact HB.out | apply below_alloc | apply pw_below_drewN | apply below_drew1 | refine below_set ?_ GE168.out | refine below_set ?_ GE180.out) | exact HB.out)⟩
              (try clear BK168)
              (try clear BK180)
              (try clear HB)
              generalize (((w52.setCell ⟨gb180, 0, none⟩ (.bool ((rd_T128 l0_3 x105_3).f0))).setCell ⟨gb180, 1, none⟩ (.int .i64 ((rd_T128 l0_3 x105_3).f1))).setCell ⟨gb180, 2, none⟩ (.string ((rd_T128 l0_3 x105_3).f2))) = w55 at n0_ n1_ n2_ ⊢
              have BK168 := n0_
              have BK180 := n1_
              have HB := n2_
              clear n0_ n1_ n2_
              have n0_ := Aside0.mk (blk_drew BK168.out)
              have n1_ := Aside0.mk (blk_drew BK180.out)
              have n2_ := Aside0.mk (below_drew1 HB.out)
              clear BK168
              clear BK180
              clear HB
              have BK168 := n0_
              have BK180 := n1_
              have HB := n2_
              clear n0_ n1_ n2_
              refine start_ (n := 43) (S := fun w' => w'.cell? ⟨gb180, 0, none⟩ = some (.bool ((rd_T128 l0_3 x105_3).f0)) ∧ w'.cell? ⟨gb180, 1, none⟩ = some (.int .i64 ((rd_T128 l0_3 x105_3).f1)) ∧ w'.cell? ⟨gb180, 2, none⟩ = some (.string ((rd_T128 l0_3 x105_3).f2))) (ds := []) (pz 43 0) (by kernel_rfl) rfl rfl ⟨(blk_cell BK180.out 0).trans rfl, (blk_cell BK180.out 1).trans rfl, (blk_cell BK180.out 2).trans rfl⟩ (fun hHeld => ?_); refine with_tabW spec_GoodWindow.tab13 spec_GoodWindow.bits13 (fun HT_ HW_ => ?_)
              generalize w55.drew = w56 at BK168 BK180 HB hHeld ⊢
              refine sR 0 109 (pz 43 1) HT_ ?_
              refine sT 1 110 (pz 43 2) rfl rfl HT_ HW_ hHeld (by rintro w' ⟨s0, s1, s2⟩; go_simp; with_reducible rfl) ?_
              refine sR 2 111 (pz 43 3) HT_ ?_
              refine sR 3 112 (pz 43 4) HT_ ?_
              refine sR 4 113 (pz 43 5) HT_ ?_
              refine sR 6 115 #[true, true, true, true, true, false, true, false, false, false, false, false, false, false, false, false, false, false, false, false, false, false, false, false, false, false, false, false, false, false, false, false, false, false, false, false, false, false, false, false, false, false, false] HT_ ?_
              refine sT 5 114 (pz 43 7) rfl rfl HT_ HW_ hHeld (by rintro w' ⟨s0, s1, s2⟩; go_simp; with_reducible rfl) ?_
              refine sR 7 116 (pz 43 8) HT_ ?_
              refine sR 8 117 (pz 43 9) HT_ ?_
              refine sR 9 118 (pz 43 10) HT_ ?_
              refine sU 10 119 (pz 43 11) HT_ ?_
              refine sU 11 120 (pz 43 12) HT_ ?_
              refine sU 12 121 (pz 43 13) HT_ ?_
              refine sU 13 122 (pz 43 14) HT_ ?_
              refine sU 14 123 (pz 43 15) HT_ ?_
              refine sU 15 124 (pz 43 16) HT_ ?_
              refine sU 16 125 (pz 43 17) HT_ ?_
              refine sU 17 126 (pz 43 18) HT_ ?_
              refine sU 18 127 (pz 43 19) HT_ ?_
              refine sU 19 128 (pz 43 20) HT_ ?_
              refine sU 20 129 (pz 43 21) HT_ ?_
              refine sU 21 130 (pz 43 22) HT_ ?_
              refine sU 22 131 (pz 43 23) HT_ ?_
              refine sU 23 132 (pz 43 24) HT_ ?_
              refine sU 24 133 (pz 43 25) HT_ ?_
              refine sU 25 134 (pz 43 26) HT_ ?_
              refine sR 26 135 (pz 43 27) HT_ ?_
              refine sR 27 136 (pz 43 28) HT_ ?_
              refine sU 28 137 (pz 43 29) HT_ ?_
              refine sU 29 138 (pz 43 30) HT_ ?_
              refine sU 30 139 (pz 43 31) HT_ ?_
              refine sU 31 140 (pz 43 32) HT_ ?_
              refine sU 32 141 (pz 43 33) HT_ ?_
              refine sU 33 142 (pz 43 34) HT_ ?_
              refine sU 34 143 (pz 43 35) HT_ ?_
              refine sU 35 144 (pz 43 36) HT_ ?_
              refine sU 36 145 (pz 43 37) HT_ ?_
              refine sU 37 146 (pz 43 38) HT_ ?_
              refine sU 38 147 (pz 43 39) HT_ ?_
              refine sU 39 148 (pz 43 40) HT_ ?_
              refine sU 40 149 (pz 43 41) HT_ ?_
              refine sU 41 150 (pz 43 42) HT_ ?_
              refine sR 42 151 (pz 43 43) HT_ ?_
              refine done_ (done_of HT_.out (by kernel_rfl)) ?_
              try go_wp2
              go_ret
              exact ⟨by first | rfl | (simp [errW_none, errW_some] <;> rfl) | (simp [*, errW_none, errW_some] <;> rfl), by repeat (first | (with_reducible first | exact HB.out | apply below_alloc | apply pw_below_drewN | apply below_drew1 | refine below_set ?_ GE168.out | refine below_set ?_ GE180.out) | exact HB.out)⟩
             ·rw [if_neg c51] at H
              have c51b0 : decide ((l0_0.length : Int) ≤ ((rd_T128 l0_3 x105_3).f1)) = false := decide_eq_false c51
              clear c51
              obtain ⟨bq57, hbq57⟩ : ∃ b_ : Bool, b_ = ((rd_T128 l0_3 x105_3).f0) := ⟨_, rfl⟩
              replace H : (if bq57 = true then (if ((rd_T128 l0_3 x105_3).f2).toList = ([] : List UInt8) then (if 0 ≤ ((rd_T128 l0_3 x105_3).f1) then (if ((rd_T128 l0_3 x105_3).f1) < (l0_5.length : Int) then (if (rdOf false l0_5 ((rd_T128 l0_3 x105_3).f1) = true) then (if (bq57 = true) then (spec_GoodWindow.l1 k3 (l0_0.length : Int) l0_3 (l0_3.length : Int) (wrap64 (x105_3 + 1)) l0_0 a0_1 l0_2 l0_3 l0_4 l0_5 a0_6) else (if ((rd_T128 l0_3 x105_3).f1) < (l0_0.length : Int) then (if ((rd_T128 l0_3 x105_3).f2).toList = (rdOf ByteArray.empty l0_0 ((rd_T128 l0_3 x105_3).f1)).toList then (spec_GoodWindow.l1 k3 (l0_0.length : Int) l0_3 (l0_3.length : Int) (wrap64 (x105_3 + 1)) l0_0 a0_1 l0_2 l0_3 l0_4 l0_5 a0_6) else (some false)) else (none))) else (some false)) else (none)) else (none)) else (some false)) else (if (bq57 = true) then (spec_GoodWindow.l1 k3 (l0_0.length : Int) l0_3 (l0_3.length : Int) (wrap64 (x105_3 + 1)) l0_0 a0_1 l0_2 l0_3 l0_4 l0_5 a0_6) else (if 0 ≤ ((rd_T128 l0_3 x105_3).f1) then (if ((rd_T128 l0_3 x105_3).f1) < (l0_0.length : Int) then (if ((rd_T128 l0_3 x105_3).f2).toList = (rdOf ByteArray.empty l0_0 ((rd_T128 l0_3 x105_3).f1)).toList then (spec_GoodWindow.l1 k3 (l0_0.length : Int) l0_3 (l0_3.length : Int) (wrap64 (x105_3 + 1)) l0_0 a0_1 l0_2 l0_3 l0_4 l0_5 a0_6) else (some false)) else (none)) else (none)))) = some r := by rw [← hbq57] at H; exact H
              have Nbq57 := Aside0.mk hbq57
              clear hbq57
              by_cases c58 : bq57 = true
              ·subst c58
               have H1 : (if ((rd_T128 l0_3 x105_3).f2).toList = ([] : List UInt8) then (if 0 ≤ ((rd_T128 l0_3 x105_3).f1) then (if ((rd_T128 l0_3 x105_3).f1) < (l0_5.length : Int) then (if (rdOf false l0_5 ((rd_T128 l0_3 x105_3).f1) = true) then (if (true = true) then (spec_GoodWindow.l1 k3 (l0_0.length : Int) l0_3 (l0_3.length : Int) (wrap64 (x105_3 + 1)) l0_0 a0_1 l0_2 l0_3 l0_4 l0_5 a0_6) else (if ((rd_T128 l0_3 x105_3).f1) < (l0_0.length : Int) then (if ((rd_T128 l0_3 x105_3).f2).toList = (rdOf ByteArray.empty l0_0 ((rd_T128 l0_3 x105_3).f1)).toList then (spec_GoodWindow.l1 k3 (l0_0.length : Int) l0_3 (l0_3.length : Int) (wrap64 (x105_3 + 1)) l0_0 a0_1 l0_2 l0_3 l0_4 l0_5 a0_6) else (some false)) else (none))) else (some false)) else (none)) else (none)) else (some false)) = some r := by rw [if_pos rfl] at H; exact H
               clear H
               have H := H1
               clear H1
               by_cases c59 : ((rd_T128 l0_3 x105_3).f2).toList = ([] : List UInt8)
               ·rw [if_pos c59] at H
                have c59b0 : (((rd_T128 l0_3 x105_3).f2).toList == ([] : List UInt8)) = true := beq_iff_eq.mpr c59
                have c59b1 : (((rd_T128 l0_3 x105_3).f2).toList != ([] : List UInt8)) = false := bne_eq_false_iff_eq.mpr c59
                clear c59
                by_cases c60 : 0 ≤ ((rd_T128 l0_3 x105_3).f1)
                ·rw [if_pos c60] at H
                 have c60b0 : decide (0 ≤ ((rd_T128 l0_3 x105_3).f1)) = true := decide_eq_true c60
                 clear c60
                 by_cases c61 : ((rd_T128 l0_3 x105_3).f1) < (l0_5.length : Int)
                 ·rw [if_pos c61] at H
                  have c61b0 : decide (((rd_T128 l0_3 x105_3).f1) < (l0_5.length : Int)) = true := decide_eq_true c61
                  clear c61
                  obtain ⟨bq62, hbq62⟩ : ∃ b_ : Bool, b_ = (rdOf false l0_5 ((rd_T128 l0_3 x105_3).f1)) := ⟨_, rfl⟩
                  replace H : (if (bq62 = true) then (if (true = true) then (spec_GoodWindow.l1 k3 (l0_0.length : Int) l0_3 (l0_3.length : Int) (wrap64 (x105_3 + 1)) l0_0 a0_1 l0_2 l0_3 l0_4 l0_5 a0_6) else (if ((rd_T128 l0_3 x105_3).f1) < (l0_0.length : Int) then (if ((rd_T128 l0_3 x105_3).f2).toList = (rdOf ByteArray.empty l0_0 ((rd_T128 l0_3 x105_3).f1)).toList then (spec_GoodWindow.l1 k3 (l0_0.length : Int) l0_3 (l0_3.length : Int) (wrap64 (x105_3 + 1)) l0_0 a0_1 l0_2 l0_3 l0_4 l0_5 a0_6) else (some false)) else (none))) else (some false)) = some r := by rw [← hbq62] at H; exact H
                  have Nbq62 := Aside0.mk hbq62
                  clear hbq62
                  by_cases c63 : (bq62 = true)
                  ·subst c63
                   have H1 : (if (true = true) then (spec_GoodWindow.l1 k3 (l0_0.length : Int) l0_3 (l0_3.length : Int) (wrap64 (x105_3 + 1)) l0_0 a0_1 l0_2 l0_3 l0_4 l0_5 a0_6) else (if ((rd_T128 l0_3 x105_3).f1) < (l0_0.length : Int) then (if ((rd_T128 l0_3 x105_3).f2).toList = (rdOf ByteArray.empty l0_0 ((rd_T128 l0_3 x105_3).f1)).toList then (spec_GoodWindow.l1 k3 (l0_0.length : Int) l0_3 (l0_3.length : Int) (wrap64 (x105_3 + 1)) l0_0 a0_1 l0_2 l0_3 l0_4 l0_5 a0_6) else (some false)) else (none))) = some r := by rw [if_pos rfl] at H; exact H
                   clear H
                   have H := H1
                   clear H1
                   by_cases c64 : (true = true)
                   ·clear c64
                    have H1 : (spec_GoodWindow.l1 k3 (l0_0.length : Int) l0_3 (l0_3.length : Int) (wrap64 (x105_3 + 1)) l0_0 a0_1 l0_2 l0_3 l0_4 l0_5 a0_6) = some r := by rw [if_pos rfl] at H; exact H
                    clear H
                    have H := H1
                    clear H1
                    have H' := Aside0.mk H
                    clear H
                    have p179 : 0 ≤ (x105_3 : Int) := of_decide_eq_true (by first | (with_reducible assumption) | assumption)
                    have q179 : x105_3 < (l0_3.length : Int) := of_decide_eq_true (by first | (with_reducible assumption) | assumption)
                    obtain ⟨ad179, e179, hx179_0, hx179_1, hx179_2⟩ := at_T128 HR0_3.out x105_3 p179 q179
                    (try rw [← Nbq57.out] at hx179_0)
                    (try rw [← Nbq62.out] at hx179_0)
                    cases e179
                    replace hx179_0 := (HB.out.cell (World.block_lt_of_cell? w _ hx179_0)).trans hx179_0
                    replace hx179_1 := (HB.out.cell (World.block_lt_of_cell? w _ hx179_1)).trans hx179_1
                    replace hx179_2 := (HB.out.cell (World.block_lt_of_cell? w _ hx179_2)).trans hx179_2
                    replace p179 := eq_true p179
                    replace q179 := eq_true q179
                    try go_wp2_with (first | ((with_reducible refine gate_dst (N := 7) rfl ?_); (try (refine gate_guard (by rfl) ?_; dsimp only)); refine box_event ?hg (N := 7) ?hd (cs := #[.bool false, .int .i64 0, .string (⟨#[]⟩ : ByteArray)]) (t := 128) ?hr ?_; (case hd => rfl); (case hg => rfl); (case hr => first | (go_simp; done) | (go_simp; rfl)); intro gb180 hg w65 hbox hb; have n0_ := Aside0.mk (blk_below (g := gb168) (o := .cells #[.slice A0_0 l0_0.length c0_0, .int .i64 a0_1, .slice A0_2 l0_2.length c0_2, .slice (some ad179) l0_3.length c0_3, .slice A0_4 l0_4.length c0_4, .slice A0_5 l0_5.length c0_5, .int .i64 a0_6] 66 (0, 0)) (by (with_reducible repeat (first | refine blk_drewN ?_ _ | refine blk_drew ?_ | refine blk_alloc ?_ _)); exact BK168.out) hb); have n1_ := Aside0.mk (below_step (by repeat (first | (with_reducible first | exact HB.out | apply below_alloc | apply pw_below_drewN | apply below_drew1 | refine below_set ?_ GE168.out) | exact HB.out)) hb); have n2_ := Aside0.mk (hbox); have n3_ := Aside0.mk ((by rw [hg]; exact (below_size (by repeat (first | (with_reducible first | exact HB.out | apply below_alloc | apply pw_below_drewN | apply below_drew1 | refine below_set ?_ GE168.out) | exact HB.out))) : w.heap.size ≤ gb180)); have n4_ := Aside0.mk ((by rw [hg]; exact (below_size (by repeat (first | (with_reducible first | exact HB.out | apply below_alloc | apply pw_below_drewN | apply below_drew1 | refine below_set ?_ GE168.out) | exact HB.out))) : w.heap.size ≤ gb180)); have n5_ := Aside0.mk ((by rw [hg]; exact Nat.ne_of_lt (blk_lt (g := gb168) (o := .cells #[.slice A0_0 l0_0.length c0_0, .int .i64 a0_1, .slice A0_2 l0_2.length c0_2, .slice (some ad179) l0_3.length c0_3, .slice A0_4 l0_4.length c0_4, .slice A0_5 l0_5.length c0_5, .int .i64 a0_6] 66 (0, 0)) (by (with_reducible repeat (first | refine blk_drewN ?_ _ | refine blk_drew ?_ | refine blk_alloc ?_ _)); exact BK168.out)) : gb168 ≠ gb180)); have n6_ := Aside0.mk ((by rw [hg]; exact Nat.ne_of_gt (blk_lt (g := gb168) (o := .cells #[.slice A0_0 l0_0.length c0_0, .int .i64 a0_1, .slice A0_2 l0_2.length c0_2, .slice (some ad179) l0_3.length c0_3, .slice A0_4 l0_4.length c0_4, .slice A0_5 l0_5.length c0_5, .int .i64 a0_6] 66 (0, 0)) (by (with_reducible repeat (first | refine blk_drewN ?_ _ | refine blk_drew ?_ | refine blk_alloc ?_ _)); exact BK168.out)) : gb180 ≠ gb168)); clear BK168; clear HB; have BK168 := n0_; have HB := n1_; have BK180 := n2_; have GW180 := n3_; have GE180 := n4_; have NB168_180 := n5_; have NB180_168 := n6_; clear n0_ n1_ n2_ n3_ n4_ n5_ n6_; clear hb hbox hg; have hnb66 := NB180_168.out; have hnc66 := NB168_180.out; have hcz67_0 : w65.cell? ⟨gb180, 0, none⟩ = some (.bool false) := (blk_cell BK180.out 0).trans rfl; have hcz67_1 : w65.cell? ⟨gb180, 1, none⟩ = some (.int .i64 0) := (blk_cell BK180.out 1).trans rfl; have hcz67_2 : w65.cell? ⟨gb180, 2, none⟩ = some (.string (⟨#[]⟩ : ByteArray)) := (blk_cell BK180.out 2).trans rfl; have hfz67_0 := blk_frozen BK180.out 0; have hfz67_1 := blk_frozen BK180.out 1; have hfz67_2 := blk_frozen BK180.out 2))
                    have n0_ : Aside0 ((((w65.setCell ⟨gb180, 0, none⟩ (.bool true)).setCell ⟨gb180, 1, none⟩ (.int .i64 ((rd_T128 l0_3 x105_3).f1))).setCell ⟨gb180, 2, none⟩ (.string ((rd_T128 l0_3 x105_3).f2))).heap[gb168]? = some (.cells #[.slice A0_0 l0_0.length c0_0, .int .i64 a0_1, .slice A0_2 l0_2.length c0_2, .slice (some ad179) l0_3.length c0_3, .slice A0_4 l0_4.length c0_4, .slice A0_5 l0_5.length c0_5, .int .i64 a0_6] 66 (0, 0))) := ⟨by (with_reducible repeat (first | refine blk_drewN ?_ _ | refine blk_drew ?_ | refine blk_alloc ?_ _)); refine blk_far ?_ NB168_180.out _; (with_reducible repeat (first | refine blk_drewN ?_ _ | refine blk_drew ?_ | refine blk_alloc ?_ _)); refine blk_far ?_ NB168_180.out _; (with_reducible repeat (first | refine blk_drewN ?_ _ | refine blk_drew ?_ | refine blk_alloc ?_ _)); refine blk_far ?_ NB168_180.out _; (with_reducible repeat (first | refine blk_drewN ?_ _ | refine blk_drew ?_ | refine blk_alloc ?_ _)); exact BK168.out⟩
                    have n1_ : Aside0 ((((w65.setCell ⟨gb180, 0, none⟩ (.bool true)).setCell ⟨gb180, 1, none⟩ (.int .i64 ((rd_T128 l0_3 x105_3).f1))).setCell ⟨gb180, 2, none⟩ (.string ((rd_T128 l0_3 x105_3).f2))).heap[gb180]? = some (.cells #[.bool true, .int .i64 ((rd_T128 l0_3 x105_3).f1), .string ((rd_T128 l0_3 x105_3).f2)] 128 (0, 0))) := ⟨by (with_reducible repeat (first | refine blk_drewN ?_ _ | refine blk_drew ?_ | refine blk_alloc ?_ _)); refine blk_put (cs := #[.bool true, .int .i64 ((rd_T128 l0_3 x105_3).f1), .string (⟨#[]⟩ : ByteArray)]) ?_ 2 _ rfl; (with_reducible repeat (first | refine blk_drewN ?_ _ | refine blk_drew ?_ | refine blk_alloc ?_ _)); refine blk_put (cs := #[.bool true, .int .i64 0, .string (⟨#[]⟩ : ByteArray)]) ?_ 1 _ rfl; (with_reducible repeat (first | refine blk_drewN ?_ _ | refine blk_drew ?_ | refine blk_alloc ?_ _)); refine blk_put (cs := #[.bool false, .int .i64 0, .string (⟨#[]⟩ : ByteArray)]) ?_ 0 _ rfl; (with_reducible repeat (first | refine blk_drewN ?_ _ | refine blk_drew ?_ | refine blk_alloc ?_ _)); exact BK180.out⟩
                    have n2_ : Aside0 (Below w.heap.size w (((w65.setCell ⟨gb180, 0, none⟩ (.bool true)).setCell ⟨gb180, 1, none⟩ (.int .i64 ((rd_T128 l0_3 x105_3).f1))).setCell ⟨gb180, 2, none⟩ (.string ((rd_T128 l0_3 x105_3).f2)))) := ⟨by repeat (first | (with_reducible first | exact HB.out | apply below_alloc | apply pw_below_drewN | apply below_drew1 | refine below_set ?_ GE168.out | refine below_set ?_ GE180.out) | exact HB.out)⟩
                    (try clear BK168)
                    (try clear BK180)
                    (try clear HB)
                    generalize (((w65.setCell ⟨gb180, 0, none⟩ (.bool true)).setCell ⟨gb180, 1, none⟩ (.int .i64 ((rd_T128 l0_3 x105_3).f1))).setCell ⟨gb180, 2, none⟩ (.string ((rd_T128 l0_3 x105_3).f2))) = w68 at n0_ n1_ n2_ ⊢
                    have BK168 := n0_
                    have BK180 := n1_
                    have HB := n2_
                    clear n0_ n1_ n2_
                    have n0_ := Aside0.mk (blk_drew BK168.out)
                    have n1_ := Aside0.mk (blk_drew BK180.out)
                    have n2_ := Aside0.mk (below_drew1 HB.out)
                    clear BK168
                    clear BK180
                    clear HB
                    have BK168 := n0_
                    have BK180 := n1_
                    have HB := n2_
                    clear n0_ n1_ n2_
                    have p181 : 0 ≤ (((rd_T128 l0_3 x105_3).f1) : Int) := of_decide_eq_true (by first | (with_reducible assumption) | assumption)
                    have q181 : ((rd_T128 l0_3 x105_3).f1) < (l0_5.length : Int) := of_decide_eq_true (by first | (with_reducible assumption) | assumption)
                    obtain ⟨ad181, e181, hx181_0⟩ := Kd.at_bool HR0_5.out ((rd_T128 l0_3 x105_3).f1) p181 q181
                    have hw181_0 := hx181_0
                    (try rw [← Nbq57.out] at hx181_0)
                    (try rw [← Nbq57.out] at hw181_0)
                    (try rw [← Nbq62.out] at hx181_0)
                    (try rw [← Nbq62.out] at hw181_0)
                    cases e181
                    replace hx181_0 := (HB.out.cell (World.block_lt_of_cell? w _ hx181_0)).trans hx181_0
                    replace p181 := eq_true p181
                    replace q181 := eq_true q181
                    refine start_ (n := 43) (S := fun w' => w'.cell? ⟨gb180, 0, none⟩ = some (.bool true) ∧ w'.cell? ⟨gb180, 1, none⟩ = some (.int .i64 ((rd_T128 l0_3 x105_3).f1)) ∧ w'.cell? ⟨gb180, 2, none⟩ = some (.string ((rd_T128 l0_3 x105_3).f2)) ∧ w'.cell? ⟨gb168, 0, none⟩ = some (.slice A0_0 l0_0.length c0_0) ∧ w'.cell? ⟨gb168, 1, none⟩ = some (.int .i64 a0_1) ∧ w'.cell? ⟨gb168, 2, none⟩ = some (.slice A0_2 l0_2.length c0_2) ∧ w'.cell? ⟨gb168, 3, none⟩ = some (.slice (some ad179) l0_3.length c0_3) ∧ w'.cell? ⟨gb168, 4, none⟩ = some (.slice A0_4 l0_4.length c0_4) ∧ w'.cell? ⟨gb168, 5, none⟩ = some (.slice (some ad181) l0_5.length c0_5) ∧ w'.cell? ⟨gb168, 6, none⟩ = some (.int .i64 a0_6) ∧ w'.cell? (ad181.add (((rd_T128 l0_3 x105_3).f1)).toNat) = some (.bool true)) (ds := []) (pz 43 0) (by kernel_rfl) rfl rfl ⟨(blk_cell BK180.out 0).trans rfl, (blk_cell BK180.out 1).trans rfl, (blk_cell BK180.out 2).trans rfl, (blk_cell BK168.out 0).trans rfl, (blk_cell BK168.out 1).trans rfl, (blk_cell BK168.out 2).trans rfl, (blk_cell BK168.out 3).trans rfl, (blk_cell BK168.out 4).trans rfl, (blk_cell BK168.out 5).trans rfl, (blk_cell BK168.out 6).trans rfl, ((HB.out.cell (World.block_lt_of_cell? w _ hw181_0)).trans hw181_0)⟩ (fun hHeld => ?_); refine with_tabW spec_GoodWindow.tab13 spec_GoodWindow.bits13 (fun HT_ HW_ => ?_)
                    generalize w68.drew = w69 at BK168 BK180 HB hx181_0 hHeld ⊢
                    refine sR 0 109 (pz 43 1) HT_ ?_
                    refine sT 1 110 (pz 43 2) rfl rfl HT_ HW_ hHeld (by rintro w' ⟨s0, s1, s2, s3, s4, s5, s6, s7, s8, s9, s10⟩; go_simp; with_reducible rfl) ?_
                    refine sR 2 111 (pz 43 3) HT_ ?_
                    refine sR 3 112 (pz 43 4) HT_ ?_
                    refine sR 4 113 (pz 43 5) HT_ ?_
                    refine sR 6 115 #[true, true, true, true, true, false, true, false, false, false, false, false, false, false, false, false, false, false, false, false, false, false, false, false, false, false, false, false, false, false, false, false, false, false, false, false, false, false, false, false, false, false, false] HT_ ?_
                    refine sT 5 114 (pz 43 7) rfl rfl HT_ HW_ hHeld (by rintro w' ⟨s0, s1, s2, s3, s4, s5, s6, s7, s8, s9, s10⟩; go_simp; with_reducible rfl) ?_
                    refine sR 7 116 (pz 43 8) HT_ ?_
                    refine sR 8 117 (pz 43 9) HT_ ?_
                    refine sR 9 118 (pz 43 10) HT_ ?_
                    refine sR 10 119 (pz 43 11) HT_ ?_
                    refine sT 11 120 (pz 43 12) rfl rfl HT_ HW_ hHeld (by rintro w' ⟨s0, s1, s2, s3, s4, s5, s6, s7, s8, s9, s10⟩; go_simp; with_reducible rfl) ?_
                    refine sR 12 121 (pz 43 13) HT_ ?_
                    refine sR 13 122 (pz 43 14) HT_ ?_
                    refine sT 14 123 (pz 43 15) rfl rfl HT_ HW_ hHeld (by rintro w' ⟨s0, s1, s2, s3, s4, s5, s6, s7, s8, s9, s10⟩; go_simp; with_reducible rfl) ?_
                    refine sR 15 124 (pz 43 16) HT_ ?_
                    refine sR 16 125 (pz 43 17) HT_ ?_
                    refine sR 17 126 (pz 43 18) HT_ ?_
                    refine sR 19 128 #[true, true, true, true, true, true, true, true, true, true, true, true, true, true, true, true, true, true, false, true, false, false, false, false, false, false, false, false, false, false, false, false, false, false, false, false, false, false, false, false, false, false, false] HT_ ?_
                    refine sT 18 127 (pz 43 20) rfl rfl HT_ HW_ hHeld (by rintro w' ⟨s0, s1, s2, s3, s4, s5, s6, s7, s8, s9, s10⟩; go_simp; with_reducible rfl) ?_
                    refine sT 20 129 (pz 43 21) rfl rfl HT_ HW_ hHeld (by rintro w' ⟨s0, s1, s2, s3, s4, s5, s6, s7, s8, s9, s10⟩; go_simp; with_reducible rfl) ?_
                    refine sR 21 130 (pz 43 22) HT_ ?_
                    refine sT 22 131 (pz 43 23) rfl rfl HT_ HW_ hHeld (by rintro w' ⟨s0, s1, s2, s3, s4, s5, s6, s7, s8, s9, s10⟩; go_simp; with_reducible rfl) ?_
                    refine sR 23 132 (pz 43 24) HT_ ?_
                    refine sR 24 133 (pz 43 25) HT_ ?_
                    refine sR 25 134 (pz 43 26) HT_ ?_
                    refine sR 26 135 (pz 43 27) HT_ ?_
                    refine sR 27 136 (pz 43 28) HT_ ?_
                    refine sR 28 137 (pz 43 29) HT_ ?_
                    refine sT 29 138 (pz 43 30) rfl rfl HT_ HW_ hHeld (by rintro w' ⟨s0, s1, s2, s3, s4, s5, s6, s7, s8, s9, s10⟩; go_simp; with_reducible rfl) ?_
                    refine sR 30 139 (pz 43 31) HT_ ?_
                    refine sR 31 140 (pz 43 32) HT_ ?_
                    refine sU 32 141 (pz 43 33) HT_ ?_
                    refine sU 33 142 (pz 43 34) HT_ ?_
                    refine sU 34 143 (pz 43 35) HT_ ?_
                    refine sU 35 144 (pz 43 36) HT_ ?_
                    refine sU 36 145 (pz 43 37) HT_ ?_
                    refine sU 37 146 (pz 43 38) HT_ ?_
                    refine sU 38 147 (pz 43 39) HT_ ?_
                    refine sU 39 148 (pz 43 40) HT_ ?_
                    refine sU 40 149 (pz 43 41) HT_ ?_
                    refine sR 41 150 (pz 43 42) HT_ ?_
                    refine sR 42 151 (pz 43 43) HT_ ?_
                    refine done_ (done_of HT_.out (by kernel_rfl)) ?_
                    try go_wp2
                    go_roundg k3
                    case measure => have := HJ1.out; have := HK2.out; have := HK3.out; omega
                    case rel => exact ⟨(wrap64 (x105_3 + 1)), (by first | rfl | (simp; done) | (simp [*]; done)), H', ⟨by have := HJ1.out; have := HK2.out; have := HK3.out; omega⟩, ⟨by (with_reducible repeat (first | refine blk_drewN ?_ _ | refine blk_drew ?_ | refine blk_alloc ?_ _)); exact BK168.out⟩, ⟨by repeat (first | (with_reducible first | exact HB.out | apply below_alloc | apply pw_below_drewN | apply below_drew1 | refine below_set ?_ GE168.out | refine below_set ?_ GE180.out) | exact HB.out)⟩⟩
                   ·exact absurd rfl c64
                  ·replace c63 := Bool.eq_false_iff.mpr c63
                   subst c63
                   have H1 : (some false) = some r := by rw [if_neg (show ¬ (false = true) by decide)] at H; exact H
                   clear H
                   have H := H1
                   clear H1
                   obtain rfl := Option.some.inj H
                   have p179 : 0 ≤ (x105_3 : Int) := of_decide_eq_true (by first | (with_reducible assumption) | assumption)
                   have q179 : x105_3 < (l0_3.length : Int) := of_decide_eq_true (by first | (with_reducible assumption) | assumption)
                   obtain ⟨ad179, e179, hx179_0, hx179_1, hx179_2⟩ := at_T128 HR0_3.out x105_3 p179 q179
                   (try rw [← Nbq57.out] at hx179_0)
                   (try rw [← Nbq62.out] at hx179_0)
                   cases e179
                   replace hx179_0 := (HB.out.cell (World.block_lt_of_cell? w _ hx179_0)).trans hx179_0
                   replace hx179_1 := (HB.out.cell (World.block_lt_of_cell? w _ hx179_1)).trans hx179_1
                   replace hx179_2 := (HB.out.cell (World.block_lt_of_cell? w _ hx179_2)).trans hx179_2
                   replace p179 := eq_true p179
                   replace q179 := eq_true q179
                   try go_wp2_with (first | ((with_reducible refine gate_dst (N := 7) rfl ?_); (try (refine gate_guard (by rfl) ?_; dsimp only)); refine box_event ?hg (N := 7) ?hd (cs := #[.bool false, .int .i64 0, .string (⟨#[]⟩ : ByteArray)]) (t := 128) ?hr ?_; (case hd => rfl); (case hg => rfl); (case hr => first | (go_simp; done) | (go_simp; rfl)); intro gb180 hg w82 hbox hb; have n0_ := Aside0.mk (blk_below (g := gb168) (o := .cells #[.slice A0_0 l0_0.length c0_0, .int .i64 a0_1, .slice A0_2 l0_2.length c0_2, .slice (some ad179) l0_3.length c0_3, .slice A0_4 l0_4.length c0_4, .slice A0_5 l0_5.length c0_5, .int .i64 a0_6] 66 (0, 0)) (by (with_reducible repeat (first | refine blk_drewN ?_ _ | refine blk_drew ?_ | refine blk_alloc ?_ _)); exact BK168.out) hb); have n1_ := Aside0.mk (below_step (by repeat (first | (with_reducible first | exact HB.out | apply below_alloc | apply pw_below_drewN | apply below_drew1 | refine below_set ?_ GE168.out) | exact HB.out)) hb); have n2_ := Aside0.mk (hbox); have n3_ := Aside0.mk ((by rw [hg]; exact (below_size (by repeat (first | (with_reducible first | exact HB.out | apply below_alloc | apply pw_below_drewN | apply below_drew1 | refine below_set ?_ GE168.out) | exact HB.out))) : w.heap.size ≤ gb180)); have n4_ := Aside0.mk ((by rw [hg]; exact (below_size (by repeat (first | (with_reducible first | exact HB.out | apply below_alloc | apply pw_below_drewN | apply below_drew1 | refine below_set ?_ GE168.out) | exact HB.out))) : w.heap.size ≤ gb180)); have n5_ := Aside0.mk ((by rw [hg]; exact Nat.ne_of_lt (blk_lt (g := gb168) (o := .cells #[.slice A0_0 l0_0.length c0_0, .int .i64 a0_1, .slice A0_2 l0_2.length c0_2, .slice (some ad179) l0_3.length c0_3, .slice A0_4 l0_4.length c0_4, .slice A0_5 l0_5.length c0_5, .int .i64 a0_6] 66 (0, 0)) (by (with_reducible repeat (first | refine blk_drewN ?_ _ | refine blk_drew ?_ | refine blk_alloc ?_ _)); exact BK168.out)) : gb168 ≠ gb180)); have n6_ := Aside0.mk ((by rw [hg]; exact Nat.ne_of_gt (blk_lt (g := gb168) (o := .cells #[.slice A0_0 l0_0.length c0_0, .int .i64 a0_1, .slice A0_2 l0_2.length c0_2, .slice (some ad179) l0_3.length c0_3, .slice A0_4 l0_4.length c0_4, .slice A0_5 l0_5.length c0_5, .int .i64 a0_6] 66 (0, 0)) (by (with_reducible repeat (first | refine blk_drewN ?_ _ | refine blk_drew ?_ | refine blk_alloc ?_ _)); exact BK168.out)) : gb180 ≠ gb168)); clear BK168; clear HB; have BK168 := n0_; have HB := n1_; have BK180 := n2_; have GW180 := n3_; have GE180 := n4_; have NB168_180 := n5_; have NB180_168 := n6_; clear n0_ n1_ n2_ n3_ n4_ n5_ n6_; clear hb hbox hg; have hnb83 := NB180_168.out; have hnc83 := NB168_180.out; have hcz84_0 : w82.cell? ⟨gb180, 0, none⟩ = some (.bool false) := (blk_cell BK180.out 0).trans rfl; have hcz84_1 : w82.cell? ⟨gb180, 1, none⟩ = some (.int .i64 0) := (blk_cell BK180.out 1).trans rfl; have hcz84_2 : w82.cell? ⟨gb180, 2, none⟩ = some (.string (⟨#[]⟩ : ByteArray)) := (blk_cell BK180.out 2).trans rfl; have hfz84_0 := blk_frozen BK180.out 0; have hfz84_1 := blk_frozen BK180.out 1; have hfz84_2 := blk_frozen BK180.out 2))
                   have n0_ : Aside0 ((((w82.setCell ⟨gb180, 0, none⟩ (.bool true)).setCell ⟨gb180, 1, none⟩ (.int .i64 ((rd_T128 l0_3 x105_3).f1))).setCell ⟨gb180, 2, none⟩ (.string ((rd_T128 l0_3 x105_3).f2))).heap[gb168]? = some (.cells #[.slice A0_0 l0_0.length c0_0, .int .i64 a0_1, .slice A0_2 l0_2.length c0_2, .slice (some ad179) l0_3.length c0_3, .slice A0_4 l0_4.length c0_4, .slice A0_5 l0_5.length c0_5, .int .i64 a0_6] 66 (0, 0))) := ⟨by (with_reducible repeat (first | refine blk_drewN ?_ _ | refine blk_drew ?_ | refine blk_alloc ?_ _)); refine blk_far ?_ NB168_180.out _; (with_reducible repeat (first | refine blk_drewN ?_ _ | refine blk_drew ?_ | refine blk_alloc ?_ _)); refine blk_far ?_ NB168_180.out _; (with_reducible repeat (first | refine blk_drewN ?_ _ | refine blk_drew ?_ | refine blk_alloc ?_ _)); refine blk_far ?_ NB168_180.out _; (with_reducible repeat (first | refine blk_drewN ?_ _ | refine blk_drew ?_ | refine blk_alloc ?_ _)); exact BK168.out⟩
                   have n1_ : Aside0 ((((w82.setCell ⟨gb180, 0, none⟩ (.bool true)).setCell ⟨gb180, 1, none⟩ (.int .i64 ((rd_T128 l0_3 x105_3).f1))).setCell ⟨gb180, 2, none⟩ (.string ((rd_T128 l0_3 x105_3).f2))).heap[gb180]? = some (.cells #[.bool true, .int .i64 ((rd_T128 l0_3 x105_3).f1), .string ((rd_T128 l0_3 x105_3).f2)] 128 (0, 0))) := ⟨by (with_reducible repeat (first | refine blk_drewN ?_ _ | refine blk_drew ?_ | refine blk_alloc ?_ _)); refine blk_put (cs := #[.bool true, .int .i64 ((rd_T128 l0_3 x105_3).f1), .string (⟨#[]⟩ : ByteArray)]) ?_ 2 _ rfl; (with_reducible repeat (first | refine blk_drewN ?_ _ | refine blk_drew ?_ | refine blk_alloc ?_ _)); refine blk_put (cs := #[.bool true, .int .i64 0, .string (⟨#[]⟩ : ByteArray)]) ?_ 1 _ rfl; (with_reducible repeat (first | refine blk_drewN ?_ _ | refine blk_drew ?_ | refine blk_alloc ?_ _)); refine blk_put (cs := #[.bool false, .int .i64 0, .string (⟨#[]⟩ : ByteArray)]) ?_ 0 _ rfl; (with_reducible repeat (first | refine blk_drewN ?_ _ | refine blk_drew ?_ | refine blk_alloc ?_ _)); exact BK180.out⟩
                   have n2_ : Aside0 (Below w.heap.size w (((w82.setCell ⟨gb180, 0, none⟩ (.bool true)).setCell ⟨gb180, 1, none⟩ (.int .i64 ((rd_T128 l0_3 x105_3).f1))).setCell ⟨gb180, 2, none⟩ (.string ((rd_T128 l0_3 x105_3).f2)))) := ⟨by repeat (first | (with_reducible first | exact HB.out | apply below_alloc | apply pw_below_drewN | apply below_drew1 | refine below_set ?_ GE168.out | refine below_set ?_ GE180.out) | exact HB.out)⟩
                   (try clear BK168)
                   (try clear BK180)
                   (try clear HB)
                   generalize (((w82.setCell ⟨gb180, 0, none⟩ (.bool true)).setCell ⟨gb180, 1, none⟩ (.int .i64 ((rd_T128 l0_3 x105_3).f1))).setCell ⟨gb180, 2, none⟩ (.string ((rd_T128 l0_3 x105_3).f2))) = w85 at n0_ n1_ n2_ ⊢
                   have BK168 := n0_
                   have BK180 := n1_
                   have HB := n2_
                   clear n0_ n1_ n2_
                   have n0_ := Aside0.mk (blk_drew BK168.out)
                   have n1_ := Aside0.mk (blk_drew BK180.out)
                   have n2_ := Aside0.mk (below_drew1 HB.out)
                   clear BK168
                   clear BK180
                   clear HB
                   have BK168 := n0_
                   have BK180 := n1_
                   have HB := n2_
                   clear n0_ n1_ n2_
                   have p181 : 0 ≤ (((rd_T128 l0_3 x105_3).f1) : Int) := of_decide_eq_true (by first | (with_reducible assumption) | assumption)
                   have q181 : ((rd_T128 l0_3 x105_3).f1) < (l0_5.length : Int) := of_decide_eq_true (by first | (with_reducible assumption) | assumption)
                   obtain ⟨ad181, e181, hx181_0⟩ := Kd.at_bool HR0_5.out ((rd_T128 l0_3 x105_3).f1) p181 q181
                   have hw181_0 := hx181_0
                   (try rw [← Nbq57.out] at hx181_0)
                   (try rw [← Nbq57.out] at hw181_0)
                   (try rw [← Nbq62.out] at hx181_0)
                   (try rw [← Nbq62.out] at hw181_0)
                   cases e181
                   replace hx181_0 := (HB.out.cell (World.block_lt_of_cell? w _ hx181_0)).trans hx181_0
                   replace p181 := eq_true p181
                   replace q181 := eq_true q181
                   refine start_ (n := 43) (S := fun w' => w'.cell? ⟨gb180, 0, none⟩ = some (.bool true) ∧ w'.cell? ⟨gb180, 1, none⟩ = some (.int .i64 ((rd_T128 l0_3 x105_3).f1)) ∧ w'.cell? ⟨gb180, 2, none⟩ = some (.string ((rd_T128 l0_3 x105_3).f2)) ∧ w'.cell? ⟨gb168, 0, none⟩ = some (.slice A0_0 l0_0.length c0_0) ∧ w'.cell? ⟨gb168, 1, none⟩ = some (.int .i64 a0_1) ∧ w'.cell? ⟨gb168, 2, none⟩ = some (.slice A0_2 l0_2.length c0_2) ∧ w'.cell? ⟨gb168, 3, none⟩ = some (.slice (some ad179) l0_3.length c0_3) ∧ w'.cell? ⟨gb168, 4, none⟩ = some (.slice A0_4 l0_4.length c0_4) ∧ w'.cell? ⟨gb168, 5, none⟩ = some (.slice (some ad181) l0_5.length c0_5) ∧ w'.cell? ⟨gb168, 6, none⟩ = some (.int .i64 a0_6) ∧ w'.cell? (ad181.add (((rd_T128 l0_3 x105_3).f1)).toNat) = some (.bool false)) (ds := []) (pz 43 0) (by kernel_rfl) rfl rfl ⟨(blk_cell BK180.out 0).trans rfl, (blk_cell BK180.out 1).trans rfl, (blk_cell BK180.out 2).trans rfl, (blk_cell BK168.out 0).trans rfl, (blk_cell BK168.out 1).trans rfl, (blk_cell BK168.out 2).trans rfl, (blk_cell BK168.out 3).trans rfl, (blk_cell BK168.out 4).trans rfl, (blk_cell BK168.out 5).trans rfl, (blk_cell BK168.out 6).trans rfl, ((HB.out.cell (World.block_lt_of_cell? w _ hw181_0)).trans hw181_0)⟩ (fun hHeld => ?_); refine with_tabW spec_GoodWindow.tab13 spec_GoodWindow.bits13 (fun HT_ HW_ => ?_)
                   generalize w85.drew = w86 at BK168 BK180 HB hx181_0 hHeld ⊢
                   refine sR 0 109 (pz 43 1) HT_ ?_
                   refine sT 1 110 (pz 43 2) rfl rfl HT_ HW_ hHeld (by rintro w' ⟨s0, s1, s2, s3, s4, s5, s6, s7, s8, s9, s10⟩; go_simp; with_reducible rfl) ?_
                   refine sR 2 111 (pz 43 3) HT_ ?_
                   refine sR 3 112 (pz 43 4) HT_ ?_
                   refine sR 4 113 (pz 43 5) HT_ ?_
                   refine sR 6 115 #[true, true, true, true, true, false, true, false, false, false, false, false, false, false, false, false, false, false, false, false, false, false, false, false, false, false, false, false, false, false, false, false, false, false, false, false, false, false, false, false, false, false, false] HT_ ?_
                   refine sT 5 114 (pz 43 7) rfl rfl HT_ HW_ hHeld (by rintro w' ⟨s0, s1, s2, s3, s4, s5, s6, s7, s8, s9, s10⟩; go_simp; with_reducible rfl) ?_
                   refine sR 7 116 (pz 43 8) HT_ ?_
                   refine sR 8 117 (pz 43 9) HT_ ?_
                   refine sR 9 118 (pz 43 10) HT_ ?_
                   refine sR 10 119 (pz 43 11) HT_ ?_
                   refine sT 11 120 (pz 43 12) rfl rfl HT_ HW_ hHeld (by rintro w' ⟨s0, s1, s2, s3, s4, s5, s6, s7, s8, s9, s10⟩; go_simp; with_reducible rfl) ?_
                   refine sR 12 121 (pz 43 13) HT_ ?_
                   refine sR 13 122 (pz 43 14) HT_ ?_
                   refine sT 14 123 (pz 43 15) rfl rfl HT_ HW_ hHeld (by rintro w' ⟨s0, s1, s2, s3, s4, s5, s6, s7, s8, s9, s10⟩; go_simp; with_reducible rfl) ?_
                   refine sR 15 124 (pz 43 16) HT_ ?_
                   refine sR 16 125 (pz 43 17) HT_ ?_
                   refine sR 17 126 (pz 43 18) HT_ ?_
                   refine sR 19 128 #[true, true, true, true, true, true, true, true, true, true, true, true, true, true, true, true, true, true, false, true, false, false, false, false, false, false, false, false, false, false, false, false, false, false, false, false, false, false, false, false, false, false, false] HT_ ?_
                   refine sT 18 127 (pz 43 20) rfl rfl HT_ HW_ hHeld (by rintro w' ⟨s0, s1, s2, s3, s4, s5, s6, s7, s8, s9, s10⟩; go_simp; with_reducible rfl) ?_
                   refine sT 20 129 (pz 43 21) rfl rfl HT_ HW_ hHeld (by rintro w' ⟨s0, s1, s2, s3, s4, s5, s6, s7, s8, s9, s10⟩; go_simp; with_reducible rfl) ?_
                   refine sR 21 130 (pz 43 22) HT_ ?_
                   refine sT 22 131 (pz 43 23) rfl rfl HT_ HW_ hHeld (by rintro w' ⟨s0, s1, s2, s3, s4, s5, s6, s7, s8, s9, s10⟩; go_simp; with_reducible rfl) ?_
                   refine sR 23 132 (pz 43 24) HT_ ?_
                   refine sR 24 133 (pz 43 25) HT_ ?_
                   refine sR 25 134 (pz 43 26) HT_ ?_
                   refine sR 26 135 (pz 43 27) HT_ ?_
                   refine sR 27 136 (pz 43 28) HT_ ?_
                   refine sU 28 137 (pz 43 29) HT_ ?_
                   refine sU 29 138 (pz 43 30) HT_ ?_
                   refine sU 30 139 (pz 43 31) HT_ ?_
                   refine sU 31 140 (pz 43 32) HT_ ?_
                   refine sU 32 141 (pz 43 33) HT_ ?_
                   refine sU 33 142 (pz 43 34) HT_ ?_
                   refine sU 34 143 (pz 43 35) HT_ ?_
                   refine sU 35 144 (pz 43 36) HT_ ?_
                   refine sU 36 145 (pz 43 37) HT_ ?_
                   refine sU 37 146 (pz 43 38) HT_ ?_
                   refine sU 38 147 (pz 43 39) HT_ ?_
                   refine sU 39 148 (pz 43 40) HT_ ?_
                   refine sU 40 149 (pz 43 41) HT_ ?_
                   refine sU 41 150 (pz 43 42) HT_ ?_
                   refine sR 42 151 (pz 43 43) HT_ ?_
                   refine done_ (done_of HT_.out (by kernel_rfl)) ?_
                   try go_wp2
                   go_ret
                   exact ⟨by first | rfl | (simp [errW_none, errW_some] <;> rfl) | (simp [*, errW_none, errW_some] <;> rfl), by repeat (first | (with_reducible first | exact HB.out | apply below_alloc | apply pw_below_drewN | apply below_drew1 | refine below_set ?_ GE168.out | refine below_set ?_ GE180.out) | exact HB.out)⟩
                 ·rw [if_neg c61] at H
                  exact absurd H (by simp)
                ·rw [if_neg c60] at H
                 exact absurd H (by simp)
               ·rw [if_neg c59] at H
                have c59b0 : (((rd_T128 l0_3 x105_3).f2).toList == ([] : List UInt8)) = false := beq_eq_false_iff_ne.mpr c59
                have c59b1 : (((rd_T128 l0_3 x105_3).f2).toList != ([] : List UInt8)) = true := bne_iff_ne.mpr c59
                obtain rfl := Option.some.inj H
                have p179 : 0 ≤ (x105_3 : Int) := of_decide_eq_true (by first | (with_reducible assumption) | assumption)
                have q179 : x105_3 < (l0_3.length : Int) := of_decide_eq_true (by first | (with_reducible assumption) | assumption)
                obtain ⟨ad179, e179, hx179_0, hx179_1, hx179_2⟩ := at_T128 HR0_3.out x105_3 p179 q179
                (try rw [← Nbq57.out] at hx179_0)
                cases e179
                replace hx179_0 := (HB.out.cell (World.block_lt_of_cell? w _ hx179_0)).trans hx179_0
                replace hx179_1 := (HB.out.cell (World.block_lt_of_cell? w _ hx179_1)).trans hx179_1
                replace hx179_2 := (HB.out.cell (World.block_lt_of_cell? w _ hx179_2)).trans hx179_2
                replace p179 := eq_true p179
                replace q179 := eq_true q179
                try go_wp2_with (first | ((with_reducible refine gate_dst (N := 7) rfl ?_); (try (refine gate_guard (by rfl) ?_; dsimp only)); refine box_event ?hg (N := 7) ?hd (cs := #[.bool false, .int .i64 0, .string (⟨#[]⟩ : ByteArray)]) (t := 128) ?hr ?_; (case hd => rfl); (case hg => rfl); (case hr => first | (go_simp; done) | (go_simp; rfl)); intro gb180 hg w87 hbox hb; have n0_ := Aside0.mk (blk_below (g := gb168) (o := .cells #[.slice A0_0 l0_0.length c0_0, .int .i64 a0_1, .slice A0_2 l0_2.length c0_2, .slice (some ad179) l0_3.length c0_3, .slice A0_4 l0_4.length c0_4, .slice A0_5 l0_5.length c0_5, .int .i64 a0_6] 66 (0, 0)) (by (with_reducible repeat (first | refine blk_drewN ?_ _ | refine blk_drew ?_ | refine blk_alloc ?_ _)); exact BK168.out) hb); have n1_ := Aside0.mk (below_step (by repeat (first | (with_reducible first | exact HB.out | apply below_alloc | apply pw_below_drewN | apply below_drew1 | refine below_set ?_ GE168.out) | exact HB.out)) hb); have n2_ := Aside0.mk (hbox); have n3_ := Aside0.mk ((by rw [hg]; exact (below_size (by repeat (first | (with_reducible first | exact HB.out | apply below_alloc | apply pw_below_drewN | apply below_drew1 | refine below_set ?_ GE168.out) | exact HB.out))) : w.heap.size ≤ gb180)); have n4_ := Aside0.mk ((by rw [hg]; exact (below_size (by repeat (first | (with_reducible first | exact HB.out | apply below_alloc | apply pw_below_drewN | apply below_drew1 | refine below_set ?_ GE168.out) | exact HB.out))) : w.heap.size ≤ gb180)); have n5_ := Aside0.mk ((by rw [hg]; exact Nat.ne_of_lt (blk_lt (g := gb168) (o := .cells #[.slice A0_0 l0_0.length c0_0, .int .i64 a0_1, .slice A0_2 l0_2.length c0_2, .slice (some ad179) l0_3.length c0_3, .slice A0_4 l0_4.length c0_4, .slice A0_5 l0_5.length c0_5, .int .i64 a0_6] 66 (0, 0)) (by (with_reducible repeat (first | refine blk_drewN ?_ _ | refine blk_drew ?_ | refine blk_alloc ?_ _)); exact BK168.out)) : gb168 ≠ gb180)); have n6_ := Aside0.mk ((by rw [hg]; exact Nat.ne_of_gt (blk_lt (g := gb168) (o := .cells #[.slice A0_0 l0_0.length c0_0, .int .i64 a0_1, .slice A0_2 l0_2.length c0_2, .slice (some ad179) l0_3.length c0_3, .slice A0_4 l0_4.length c0_4, .slice A0_5 l0_5.length c0_5, .int .i64 a0_6] 66 (0, 0)) (by (with_reducible repeat (first | refine blk_drewN ?_ _ | refine blk_drew ?_ | refine blk_alloc ?_ _)); exact BK168.out)) : gb180 ≠ gb168)); clear BK168; clear HB; have BK168 := n0_; have HB := n1_; have BK180 := n2_; have GW180 := n3_; have GE180 := n4_; have NB168_180 := n5_; have NB180_168 := n6_; clear n0_ n1_ n2_ n3_ n4_ n5_ n6_; clear hb hbox hg; have hnb88 := NB180_168.out; have hnc88 := NB168_180.out; have hcz89_0 : w87.cell? ⟨gb180, 0, none⟩ = some (.bool false) := (blk_cell BK180.out 0).trans rfl; have hcz89_1 : w87.cell? ⟨gb180, 1, none⟩ = some (.int .i64 0) := (blk_cell BK180.out 1).trans rfl; have hcz89_2 : w87.cell? ⟨gb180, 2, none⟩ = some (.string (⟨#[]⟩ : ByteArray)) := (blk_cell BK180.out 2).trans rfl; have hfz89_0 := blk_frozen BK180.out 0; have hfz89_1 := blk_frozen BK180.out 1; have hfz89_2 := blk_frozen BK180.out 2))
                have n0_ : Aside0 ((((w87.setCell ⟨gb180, 0, none⟩ (.bool true)).setCell ⟨gb180, 1, none⟩ (.int .i64 ((rd_T128 l0_3 x105_3).f1))).setCell ⟨gb180, 2, none⟩ (.string ((rd_T128 l0_3 x105_3).f2))).heap[gb168]? = some (.cells #[.slice A0_0 l0_0.length c0_0, .int .i64 a0_1, .slice A0_2 l0_2.length c0_2, .slice (some ad179) l0_3.length c0_3, .slice A0_4 l0_4.length c0_4, .slice A0_5 l0_5.length c0_5, .int .i64 a0_6] 66 (0, 0))) := ⟨by (with_reducible repeat (first | refine blk_drewN ?_ _ | refine blk_drew ?_ | refine blk_alloc ?_ _)); refine blk_far ?_ NB168_180.out _; (with_reducible repeat (first | refine blk_drewN ?_ _ | refine blk_drew ?_ | refine blk_alloc ?_ _)); refine blk_far ?_ NB168_180.out _; (with_reducible repeat (first | refine blk_drewN ?_ _ | refine blk_drew ?_ | refine blk_alloc ?_ _)); refine blk_far ?_ NB168_180.out _; (with_reducible repeat (first | refine blk_drewN ?_ _ | refine blk_drew ?_ | refine blk_alloc ?_ _)); exact BK168.out⟩
                have n1_ : Aside0 ((((w87.setCell ⟨gb180, 0, none⟩ (.bool true)).setCell ⟨gb180, 1, none⟩ (.int .i64 ((rd_T128 l0_3 x105_3).f1))).setCell ⟨gb180, 2, none⟩ (.string ((rd_T128 l0_3 x105_3).f2))).heap[gb180]? = some (.cells #[.bool true, .int .i64 ((rd_T128 l0_3 x105_3).f1), .string ((rd_T128 l0_3 x105_3).f2)] 128 (0, 0))) := ⟨by (with_reducible repeat (first | refine blk_drewN ?_ _ | refine blk_drew ?_ | refine blk_alloc ?_ _)); refine blk_put (cs := #[.bool true, .int .i64 ((rd_T128 l0_3 x105_3).f1), .string (⟨#[]⟩ : ByteArray)]) ?_ 2 _ rfl; (with_reducible repeat (first | refine blk_drewN ?_ _ | refine blk_drew ?_ | refine blk_alloc ?_ _)); refine blk_put (cs := #[.bool true, .int .i64 0, .string (⟨#[]⟩ : ByteArray)]) ?_ 1 _ rfl; (with_reducible repeat (first | refine blk_drewN ?_ _ | refine blk_drew ?_ | refine blk_alloc ?_ _)); refine blk_put (cs := #[.bool false, .int .i64 0, .string (⟨#[]⟩ : ByteArray)]) ?_ 0 _ rfl; (with_reducible repeat (first | refine blk_drewN ?_ _ | refine blk_drew ?_ | refine blk_alloc ?_ _)); exact BK180.out⟩
                have n2_ : Aside0 (Below w.heap.size w (((w87.setCell ⟨gb180, 0, none⟩ (.bool true)).setCell ⟨gb180, 1, none⟩ (.int .i64 ((rd_T128 l0_3 x105_3).f1))).setCell ⟨gb180, 2, none⟩ (.string ((rd_T128 l0_3 x105_3).f2)))) := ⟨by repeat (first | (with_reducible first | exact HB.out | apply below_alloc | apply pw_below_drewN | apply below_drew1 | refine below_set ?_ GE168.out | refine below_set ?_ GE180.out) | exact HB.out)⟩
                (try clear BK168)
                (try clear BK180)
                (try clear HB)
                generalize (((w87.setCell ⟨gb180, 0, none⟩ (.bool true)).setCell ⟨gb180, 1, none⟩ (.int .i64 ((rd_T128 l0_3 x105_3).f1))).setCell ⟨gb180, 2, none⟩ (.string ((rd_T128 l0_3 x105_3).f2))) = w90 at n0_ n1_ n2_ ⊢
                have BK168 := n0_
                have BK180 := n1_
                have HB := n2_
                clear n0_ n1_ n2_
                have n0_ := Aside0.mk (blk_drew BK168.out)
                have n1_ := Aside0.mk (blk_drew BK180.out)
                have n2_ := Aside0.mk (below_drew1 HB.out)
                clear BK168
                clear BK180
                clear HB
                have BK168 := n0_
                have BK180 := n1_
                have HB := n2_
                clear n0_ n1_ n2_
                refine start_ (n := 43) (S := fun w' => w'.cell? ⟨gb180, 0, none⟩ = some (.bool true) ∧ w'.cell? ⟨gb180, 1, none⟩ = some (.int .i64 ((rd_T128 l0_3 x105_3).f1)) ∧ w'.cell? ⟨gb180, 2, none⟩ = some (.string ((rd_T128 l0_3 x105_3).f2))) (ds := []) (pz 43 0) (by kernel_rfl) rfl rfl ⟨(blk_cell BK180.out 0).trans rfl, (blk_cell BK180.out 1).trans rfl, (blk_cell BK180.out 2).trans rfl⟩ (fun hHeld => ?_); refine with_tabW spec_GoodWindow.tab13 spec_GoodWindow.bits13 (fun HT_ HW_ => ?_)
                generalize w90.drew = w91 at BK168 BK180 HB hHeld ⊢
                refine sR 0 109 (pz 43 1) HT_ ?_
                refine sT 1 110 (pz 43 2) rfl rfl HT_ HW_ hHeld (by rintro w' ⟨s0, s1, s2⟩; go_simp; with_reducible rfl) ?_
                refine sR 2 111 (pz 43 3) HT_ ?_
                refine sR 3 112 (pz 43 4) HT_ ?_
                refine sR 4 113 (pz 43 5) HT_ ?_
                refine sR 6 115 #[true, true, true, true, true, false, true, false, false, false, false, false, false, false, false, false, false, false, false, false, false, false, false, false, false, false, false, false, false, false, false, false, false, false, false, false, false, false, false, false, false, false, false] HT_ ?_
                refine sT 5 114 (pz 43 7) rfl rfl HT_ HW_ hHeld (by rintro w' ⟨s0, s1, s2⟩; go_simp; with_reducible rfl) ?_
                refine sR 7 116 (pz 43 8) HT_ ?_
                refine sR 8 117 (pz 43 9) HT_ ?_
                refine sR 9 118 (pz 43 10) HT_ ?_
                refine sR 10 119 (pz 43 11) HT_ ?_
                refine sT 11 120 (pz 43 12) rfl rfl HT_ HW_ hHeld (by rintro w' ⟨s0, s1, s2⟩; go_simp; with_reducible rfl) ?_
                refine sR 12 121 (pz 43 13) HT_ ?_
                refine sR 13 122 (pz 43 14) HT_ ?_
                refine sT 14 123 (pz 43 15) rfl rfl HT_ HW_ hHeld (by rintro w' ⟨s0, s1, s2⟩; go_simp; with_reducible rfl) ?_
                refine sR 15 124 (pz 43 16) HT_ ?_
                refine sR 16 125 (pz 43 17) HT_ ?_
                refine sU 17 126 (pz 43 18) HT_ ?_
                refine sU 18 127 (pz 43 19) HT_ ?_
                refine sU 19 128 (pz 43 20) HT_ ?_
                refine sU 20 129 (pz 43 21) HT_ ?_
                refine sU 21 130 (pz 43 22) HT_ ?_
                refine sU 22 131 (pz 43 23) HT_ ?_
                refine sU 23 132 (pz 43 24) HT_ ?_
                refine sR 24 133 (pz 43 25) HT_ ?_
                refine sR 25 134 (pz 43 26) HT_ ?_
                refine sR 26 135 (pz 43 27) HT_ ?_
                refine sR 27 136 (pz 43 28) HT_ ?_
                refine sU 28 137 (pz 43 29) HT_ ?_
                refine sU 29 138 (pz 43 30) HT_ ?_
                refine sU 30 139 (pz 43 31) HT_ ?_
                refine sU 31 140 (pz 43 32) HT_ ?_
                refine sU 32 141 (pz 43 33) HT_ ?_
                refine sU 33 142 (pz 43 34) HT_ ?_
                refine sU 34 143 (pz 43 35) HT_ ?_
                refine sU 35 144 (pz 43 36) HT_ ?_
                refine sU 36 145 (pz 43 37) HT_ ?_
                refine sU 37 146 (pz 43 38) HT_ ?_
                refine sU 38 147 (pz 43 39) HT_ ?_
                refine sU 39 148 (pz 43 40) HT_ ?_
                refine sU 40 149 (pz 43 41) HT_ ?_
                refine sU 41 150 (pz 43 42) HT_ ?_
                refine sR 42 151 (pz 43 43) HT_ ?_
                refine done_ (done_of HT_.out (by kernel_rfl)) ?_
                try go_wp2
                go_ret
                exact ⟨by first | rfl | (simp [errW_none, errW_some] <;> rfl) | (simp [*, errW_none, errW_some] <;> rfl), by repeat (first | (with_reducible first | exact HB.out | apply below_alloc | apply pw_below_drewN | apply below_drew1 | refine below_set ?_ GE168.out | refine below_set ?_ GE180.out) | exact HB.out)⟩
              ·replace c58 := Bool.eq_false_iff.mpr c58
               subst c58
               have H1 : (if (false = true) then (spec_GoodWindow.l1 k3 (l0_0.length : Int) l0_3 (l0_3.length : Int) (wrap64 (x105_3 + 1)) l0_0 a0_1 l0_2 l0_3 l0_4 l0_5 a0_6) else (if 0 ≤ ((rd_T128 l0_3 x105_3).f1) then (if ((rd_T128 l0_3 x105_3).f1) < (l0_0.length : Int) then (if ((rd_T128 l0_3 x105_3).f2).toList = (rdOf ByteArray.empty l0_0 ((rd_T128 l0_3 x105_3).f1)).toList then (spec_GoodWindow.l1 k3 (l0_0.length : Int) l0_3 (l0_3.length : Int) (wrap64 (x105_3 + 1)) l0_0 a0_1 l0_2 l0_3 l0_4 l0_5 a0_6) else (some false)) else (none)) else (none))) = some r := by rw [if_neg (show ¬ (false = true) by decide)] at H; exact H
               clear H
               have H := H1
               clear H1
               by_cases c92 : (false = true)
               ·cases c92
               ·clear c92
                have H1 : (if 0 ≤ ((rd_T128 l0_3 x105_3).f1) then (if ((rd_T128 l0_3 x105_3).f1) < (l0_0.length : Int) then (if ((rd_T128 l0_3 x105_3).f2).toList = (rdOf ByteArray.empty l0_0 ((rd_T128 l0_3 x105_3).f1)).toList then (spec_GoodWindow.l1 k3 (l0_0.length : Int) l0_3 (l0_3.length : Int) (wrap64 (x105_3 + 1)) l0_0 a0_1 l0_2 l0_3 l0_4 l0_5 a0_6) else (some false)) else (none)) else (none)) = some r := by rw [if_neg (show ¬ (false = true) by decide)] at H; exact H
                clear H
                have H := H1
                clear H1
                by_cases c98 : 0 ≤ ((rd_T128 l0_3 x105_3).f1)
                ·rw [if_pos c98] at H
                 have c98b0 : decide (0 ≤ ((rd_T128 l0_3 x105_3).f1)) = true := decide_eq_true c98
                 clear c98
                 by_cases c99 : ((rd_T128 l0_3 x105_3).f1) < (l0_0.length : Int)
                 ·rw [if_pos c99] at H
                  have c99b0 : decide (((rd_T128 l0_3 x105_3).f1) < (l0_0.length : Int)) = true := decide_eq_true c99
                  clear c99
                  by_cases c100 : ((rd_T128 l0_3 x105_3).f2).toList = (rdOf ByteArray.empty l0_0 ((rd_T128 l0_3 x105_3).f1)).toList
                  ·rw [if_pos c100] at H
                   have c100b0 : (((rd_T128 l0_3 x105_3).f2).toList == (rdOf ByteArray.empty l0_0 ((rd_T128 l0_3 x105_3).f1)).toList) = true := beq_iff_eq.mpr c100
                   have c100b1 : (((rd_T128 l0_3 x105_3).f2).toList != (rdOf ByteArray.empty l0_0 ((rd_T128 l0_3 x105_3).f1)).toList) = false := bne_eq_false_iff_eq.mpr c100
                   clear c100
                   have H' := Aside0.mk H
                   clear H
                   have p179 : 0 ≤ (x105_3 : Int) := of_decide_eq_true (by first | (with_reducible assumption) | assumption)
                   have q179 : x105_3 < (l0_3.length : Int) := of_decide_eq_true (by first | (with_reducible assumption) | assumption)
                   obtain ⟨ad179, e179, hx179_0, hx179_1, hx179_2⟩ := at_T128 HR0_3.out x105_3 p179 q179
                   (try rw [← Nbq57.out] at hx179_0)
                   cases e179
                   replace hx179_0 := (HB.out.cell (World.block_lt_of_cell? w _ hx179_0)).trans hx179_0
                   replace hx179_1 := (HB.out.cell (World.block_lt_of_cell? w _ hx179_1)).trans hx179_1
                   replace hx179_2 := (HB.out.cell (World.block_lt_of_cell? w _ hx179_2)).trans hx179_2
                   replace p179 := eq_true p179
                   replace q179 := eq_true q179
                   try go_wp2_with (first | ((with_reducible refine gate_dst (N := 7) rfl ?_); (try (refine gate_guard (by rfl) ?_; dsimp only)); refine box_event ?hg (N := 7) ?hd (cs := #[.bool false, .int .i64 0, .string (⟨#[]⟩ : ByteArray)]) (t := 128) ?hr ?_; (case hd => rfl); (case hg => rfl); (case hr => first | (go_simp; done) | (go_simp; rfl)); intro gb180 hg w101 hbox hb; have n0_ := Aside0.mk (blk_below (g := gb168) (o := .cells #[.slice A0_0 l0_0.length c0_0, .int .i64 a0_1, .slice A0_2 l0_2.length c0_2, .slice (some ad179) l0_3.length c0_3, .slice A0_4 l0_4.length c0_4, .slice A0_5 l0_5.length c0_5, .int .i64 a0_6] 66 (0, 0)) (by (with_reducible repeat (first | refine blk_drewN ?_ _ | refine blk_drew ?_ | refine blk_alloc ?_ _)); exact BK168.out) hb); have n1_ := Aside0.mk (below_step (by repeat (first | (with_reducible first | exact HB.out | apply below_alloc | apply pw_below_drewN | apply below_drew1 | refine below_set ?_ GE168.out) | exact HB.out)) hb); have n2_ := Aside0.mk (hbox); have n3_ := Aside0.mk ((by rw [hg]; exact (below_size (by repeat (first | (with_reducible first | exact HB.out | apply below_alloc | apply pw_below_drewN | apply below_drew1 | refine below_set ?_ GE168.out) | exact HB.out))) : w.heap.size ≤ gb180)); have n4_ := Aside0.mk ((by rw [hg]; exact (below_size (by repeat (first | (with_reducible first | exact HB.out | apply below_alloc | apply pw_below_drewN | apply below_drew1 | refine below_set ?_ GE168.out) | exact HB.out))) : w.heap.size ≤ gb180)); have n5_ := Aside0.mk ((by rw [hg]; exact Nat.ne_of_lt (blk_lt (g := gb168) (o := .cells #[.slice A0_0 l0_0.length c0_0, .int .i64 a0_1, .slice A0_2 l0_2.length c0_2, .slice (some ad179) l0_3.length c0_3, .slice A0_4 l0_4.length c0_4, .slice A0_5 l0_5.length c0_5, .int .i64 a0_6] 66 (0, 0)) (by (with_reducible repeat (first | refine blk_drewN ?_ _ | refine blk_drew ?_ | refine blk_alloc ?_ _)); exact BK168.out)) : gb168 ≠ gb180)); have n6_ := Aside0.mk ((by rw [hg]; exact Nat.ne_of_gt (blk_lt (g := gb168) (o := .cells #[.slice A0_0 l0_0.length c0_0, .int .i64 a0_1, .slice A0_2 l0_2.length c0_2, .slice (some ad179) l0_3.length c0_3, .slice A0_4 l0_4.length c0_4, .slice A0_5 l0_5.length c0_5, .int .i64 a0_6] 66 (0, 0)) (by (with_reducible repeat (first | refine blk_drewN ?_ _ | refine blk_drew ?_ | refine blk_alloc ?_ _)); exact BK168.out)) : gb180 ≠ gb168)); clear BK168; clear HB; have BK168 := n0_; have HB := n1_; have BK180 := n2_; have GW180 := n3_; have GE180 := n4_; have NB168_180 := n5_; have NB180_168 := n6_; clear n0_ n1_ n2_ n3_ n4_ n5_ n6_; clear hb hbox hg; have hnb102 := NB180_168.out; have hnc102 := NB168_180.out; have hcz103_0 : w101.cell? ⟨gb180, 0, none⟩ = some (.bool false) := (blk_cell BK180.out 0).trans rfl; have hcz103_1 : w101.cell? ⟨gb180, 1, none⟩ = some (.int .i64 0) := (blk_cell BK180.out 1).trans rfl; have hcz103_2 : w101.cell? ⟨gb180, 2, none⟩ = some (.string (⟨#[]⟩ : ByteArray)) := (blk_cell BK180.out 2).trans rfl; have hfz103_0 := blk_frozen BK180.out 0; have hfz103_1 := blk_frozen BK180.out 1; have hfz103_2 := blk_frozen BK180.out 2))
                   have n0_ : Aside0 ((((w101.setCell ⟨gb180, 0, none⟩ (.bool false)).setCell ⟨gb180, 1, none⟩ (.int .i64 ((rd_T128 l0_3 x105_3).f1))).setCell ⟨gb180, 2, none⟩ (.string ((rd_T128 l0_3 x105_3).f2))).heap[gb168]? = some (.cells #[.slice A0_0 l0_0.length c0_0, .int .i64 a0_1, .slice A0_2 l0_2.length c0_2, .slice (some ad179) l0_3.length c0_3, .slice A0_4 l0_4.length c0_4, .slice A0_5 l0_5.length c0_5, .int .i64 a0_6] 66 (0, 0))) := ⟨by (with_reducible repeat (first | refine blk_drewN ?_ _ | refine blk_drew ?_ | refine blk_alloc ?_ _)); refine blk_far ?_ NB168_180.out _; (with_reducible repeat (first | refine blk_drewN ?_ _ | refine blk_drew ?_ | refine blk_alloc ?_ _)); refine blk_far ?_ NB168_180.out _; (with_reducible repeat (first | refine blk_drewN ?_ _ | refine blk_drew ?_ | refine blk_alloc ?_ _)); refine blk_far ?_ NB168_180.out _; (with_reducible repeat (first | refine blk_drewN ?_ _ | refine blk_drew ?_ | refine blk_alloc ?_ _)); exact BK168.out⟩
                   have n1_ : Aside0 ((((w101.setCell ⟨gb180, 0, none⟩ (.bool false)).setCell ⟨gb180, 1, none⟩ (.int .i64 ((rd_T128 l0_3 x105_3).f1))).setCell ⟨gb180, 2, none⟩ (.string ((rd_T128 l0_3 x105_3).f2))).heap[gb180]? = some (.cells #[.bool false, .int .i64 ((rd_T128 l0_3 x105_3).f1), .string ((rd_T128 l0_3 x105_3).f2)] 128 (0, 0))) := ⟨by (with_reducible repeat (first | refine blk_drewN ?_ _ | refine blk_drew ?_ | refine blk_alloc ?_ _)); refine blk_put (cs := #[.bool false, .int .i64 ((rd_T128 l0_3 x105_3).f1), .string (⟨#[]⟩ : ByteArray)]) ?_ 2 _ rfl; (with_reducible repeat (first | refine blk_drewN ?_ _ | refine blk_drew ?_ | refine blk_alloc ?_ _)); refine blk_put (cs := #[.bool false, .int .i64 0, .string (⟨#[]⟩ : ByteArray)]) ?_ 1 _ rfl; (with_reducible repeat (first | refine blk_drewN ?_ _ | refine blk_drew ?_ | refine blk_alloc ?_ _)); refine blk_put (cs := #[.bool false, .int .i64 0, .string (⟨#[]⟩ : ByteArray)]) ?_ 0 _ rfl; (with_reducible repeat (first | refine blk_drewN ?_ _ | refine blk_drew ?_ | refine blk_alloc ?_ _)); exact BK180.out⟩
                   have n2_ : Aside0 (Below w.heap.size w (((w101.setCell ⟨gb180, 0, none⟩ (.bool false)).setCell ⟨gb180, 1, none⟩ (.int .i64 ((rd_T128 l0_3 x105_3).f1))).setCell ⟨gb180, 2, none⟩ (.string ((rd_T128 l0_3 x105_3).f2)))) := ⟨by repeat (first | (with_reducible first | exact HB.out | apply below_alloc | apply pw_below_drewN | apply below_drew1 | refine below_set ?_ GE168.out | refine below_set ?_ GE180.out) | exact HB.out)⟩
                   (try clear BK168)
                   (try clear BK180)
                   (try clear HB)
                   generalize (((w101.setCell ⟨gb180, 0, none⟩ (.bool false)).setCell ⟨gb180, 1, none⟩ (.int .i64 ((rd_T128 l0_3 x105_3).f1))).setCell ⟨gb180, 2, none⟩ (.string ((rd_T128 l0_3 x105_3).f2))) = w104 at n0_ n1_ n2_ ⊢
                   have BK168 := n0_
                   have BK180 := n1_
                   have HB := n2_
                   clear n0_ n1_ n2_
                   have n0_ := Aside0.mk (blk_drew BK168.out)
                   have n1_ := Aside0.mk (blk_drew BK180.out)
                   have n2_ := Aside0.mk (below_drew1 HB.out)
                   clear BK168
                   clear BK180
                   clear HB
                   have BK168 := n0_
                   have BK180 := n1_
                   have HB := n2_
                   clear n0_ n1_ n2_
                   have p183 : 0 ≤ (((rd_T128 l0_3 x105_3).f1) : Int) := of_decide_eq_true (by first | (with_reducible assumption) | assumption)
                   have q183 : ((rd_T128 l0_3 x105_3).f1) < (l0_0.length : Int) := of_decide_eq_true (by first | (with_reducible assumption) | assumption)
                   obtain ⟨ad183, e183, hx183_0⟩ := Kd.at_string HR0_0.out ((rd_T128 l0_3 x105_3).f1) p183 q183
                   have hw183_0 := hx183_0
                   cases e183
                   replace hx183_0 := (HB.out.cell (World.block_lt_of_cell? w _ hx183_0)).trans hx183_0
                   replace p183 := eq_true p183
                   replace q183 := eq_true q183
                   refine start_ (n := 43) (S := fun w' => w'.cell? ⟨gb180, 0, none⟩ = some (.bool false) ∧ w'.cell? ⟨gb180, 1, none⟩ = some (.int .i64 ((rd_T128 l0_3 x105_3).f1)) ∧ w'.cell? ⟨gb180, 2, none⟩ = some (.string ((rd_T128 l0_3 x105_3).f2)) ∧ w'.cell? ⟨gb168, 0, none⟩ = some (.slice (some ad183) l0_0.length c0_0) ∧ w'.cell? ⟨gb168, 1, none⟩ = some (.int .i64 a0_1) ∧ w'.cell? ⟨gb168, 2, none⟩ = some (.slice A0_2 l0_2.length c0_2) ∧ w'.cell? ⟨gb168, 3, none⟩ = some (.slice (some ad179) l0_3.length c0_3) ∧ w'.cell? ⟨gb168, 4, none⟩ = some (.slice A0_4 l0_4.length c0_4) ∧ w'.cell? ⟨gb168, 5, none⟩ = some (.slice A0_5 l0_5.length c0_5) ∧ w'.cell? ⟨gb168, 6, none⟩ = some (.int .i64 a0_6) ∧ w'.cell? (ad183.add (((rd_T128 l0_3 x105_3).f1)).toNat) = some (.string (rdOf ByteArray.empty l0_0 ((rd_T128 l0_3 x105_3).f1)))) (ds := []) (pz 43 0) (by kernel_rfl) rfl rfl ⟨(blk_cell BK180.out 0).trans rfl, (blk_cell BK180.out 1).trans rfl, (blk_cell BK180.out 2).trans rfl, (blk_cell BK168.out 0).trans rfl, (blk_cell BK168.out 1).trans rfl, (blk_cell BK168.out 2).trans rfl, (blk_cell BK168.out 3).trans rfl, (blk_cell BK168.out 4).trans rfl, (blk_cell BK168.out 5).trans rfl, (blk_cell BK168.out 6).trans rfl, ((HB.out.cell (World.block_lt_of_cell? w _ hw183_0)).trans hw183_0)⟩ (fun hHeld => ?_); refine with_tabW spec_GoodWindow.tab13 spec_GoodWindow.bits13 (fun HT_ HW_ => ?_)
                   generalize w104.drew = w105 at BK168 BK180 HB hx183_0 hHeld ⊢
                   refine sR 0 109 (pz 43 1) HT_ ?_
                   refine sT 1 110 (pz 43 2) rfl rfl HT_ HW_ hHeld (by rintro w' ⟨s0, s1, s2, s3, s4, s5, s6, s7, s8, s9, s10⟩; go_simp; with_reducible rfl) ?_
                   refine sR 2 111 (pz 43 3) HT_ ?_
                   refine sR 3 112 (pz 43 4) HT_ ?_
                   refine sR 4 113 (pz 43 5) HT_ ?_
                   refine sR 6 115 #[true, true, true, true, true, false, true, false, false, false, false, false, false, false, false, false, false, false, false, false, false, false, false, false, false, false, false, false, false, false, false, false, false, false, false, false, false, false, false, false, false, false, false] HT_ ?_
                   refine sT 5 114 (pz 43 7) rfl rfl HT_ HW_ hHeld (by rintro w' ⟨s0, s1, s2, s3, s4, s5, s6, s7, s8, s9, s10⟩; go_simp; with_reducible rfl) ?_
                   refine sR 7 116 (pz 43 8) HT_ ?_
                   refine sR 8 117 (pz 43 9) HT_ ?_
                   refine sR 9 118 (pz 43 10) HT_ ?_
                   refine sR 10 119 (pz 43 11) HT_ ?_
                   refine sT 11 120 (pz 43 12) rfl rfl HT_ HW_ hHeld (by rintro w' ⟨s0, s1, s2, s3, s4, s5, s6, s7, s8, s9, s10⟩; go_simp; with_reducible rfl) ?_
                   refine sR 12 121 (pz 43 13) HT_ ?_
                   refine sU 13 122 (pz 43 14) HT_ ?_
                   refine sU 14 123 (pz 43 15) HT_ ?_
                   refine sU 15 124 (pz 43 16) HT_ ?_
                   refine sU 16 125 (pz 43 17) HT_ ?_
                   refine sU 17 126 (pz 43 18) HT_ ?_
                   refine sU 18 127 (pz 43 19) HT_ ?_
                   refine sU 19 128 (pz 43 20) HT_ ?_
                   refine sU 20 129 (pz 43 21) HT_ ?_
                   refine sU 21 130 (pz 43 22) HT_ ?_
                   refine sU 22 131 (pz 43 23) HT_ ?_
                   refine sU 23 132 (pz 43 24) HT_ ?_
                   refine sU 24 133 (pz 43 25) HT_ ?_
                   refine sR 25 134 (pz 43 26) HT_ ?_
                   refine sR 26 135 (pz 43 27) HT_ ?_
                   refine sR 27 136 (pz 43 28) HT_ ?_
                   refine sR 28 137 (pz 43 29) HT_ ?_
                   refine sT 29 138 (pz 43 30) rfl rfl HT_ HW_ hHeld (by rintro w' ⟨s0, s1, s2, s3, s4, s5, s6, s7, s8, s9, s10⟩; go_simp; with_reducible rfl) ?_
                   refine sR 30 139 (pz 43 31) HT_ ?_
                   refine sR 31 140 (pz 43 32) HT_ ?_
                   refine sR 32 141 (pz 43 33) HT_ ?_
                   refine sR 34 143 #[true, true, true, true, true, true, true, true, true, true, true, true, true, true, true, true, true, true, true, true, true, true, true, true, true, true, true, true, true, true, true, true, true, false, true, false, false, false, false, false, false, false, false] HT_ ?_
                   refine sR 36 145 #[true, true, true, true, true, true, true, true, true, true, true, true, true, true, true, true, true, true, true, true, true, true, true, true, true, true, true, true, true, true, true, true, true, false, true, false, true, false, false, false, false, false, false] HT_ ?_
                   refine sT 33 142 #[true, true, true, true, true, true, true, true, true, true, true, true, true, true, true, true, true, true, true, true, true, true, true, true, true, true, true, true, true, true, true, true, true, true, true, false, true, false, false, false, false, false, false] rfl rfl HT_ HW_ hHeld (by rintro w' ⟨s0, s1, s2, s3, s4, s5, s6, s7, s8, s9, s10⟩; go_simp; with_reducible rfl) ?_
                   refine sT 35 144 (pz 43 37) rfl rfl HT_ HW_ hHeld (by rintro w' ⟨s0, s1, s2, s3, s4, s5, s6, s7, s8, s9, s10⟩; go_simp; with_reducible rfl) ?_
                   refine sT 37 146 (pz 43 38) rfl rfl HT_ HW_ hHeld (by rintro w' ⟨s0, s1, s2, s3, s4, s5, s6, s7, s8, s9, s10⟩; go_simp; with_reducible rfl) ?_
                   refine sR 38 147 (pz 43 39) HT_ ?_
                   refine sT 39 148 (pz 43 40) rfl rfl HT_ HW_ hHeld (by rintro w' ⟨s0, s1, s2, s3, s4, s5, s6, s7, s8, s9, s10⟩; go_simp; with_reducible rfl) ?_
                   refine sR 40 149 (pz 43 41) HT_ ?_
                   refine sR 41 150 (pz 43 42) HT_ ?_
                   refine sR 42 151 (pz 43 43) HT_ ?_
                   refine done_ (done_of HT_.out (by kernel_rfl)) ?_
                   try go_wp2
                   go_roundg k3
                   case measure => have := HJ1.out; have := HK2.out; have := HK3.out; omega
                   case rel => exact ⟨(wrap64 (x105_3 + 1)), (by first | rfl | (simp; done) | (simp [*]; done)), H', ⟨by have := HJ1.out; have := HK2.out; have := HK3.out; omega⟩, ⟨by (with_reducible repeat (first | refine blk_drewN ?_ _ | refine blk_drew ?_ | refine blk_alloc ?_ _)); exact BK168.out⟩, ⟨by repeat (first | (with_reducible first | exact HB.out | apply below_alloc | apply pw_below_drewN | apply below_drew1 | refine below_set ?_ GE168.out | refine below_set ?_ GE180.out) | exact HB.out)⟩⟩
                  ·rw [if_neg c100] at H
                   have c100b0 : (((rd_T128 l0_3 x105_3).f2).toList == (rdOf ByteArray.empty l0_0 ((rd_T128 l0_3 x105_3).f1)).toList) = false := beq_eq_false_iff_ne.mpr c100
                   have c100b1 : (((rd_T128 l0_3 x105_3).f2).toList != (rdOf ByteArray.empty l0_0 ((rd_T128 l0_3 x105_3).f1)).toList) = true := bne_iff_ne.mpr c100
                   obtain rfl := Option.some.inj H
                   have p179 : 0 ≤ (x105_3 : Int) := of_decide_eq_true (by first | (with_reducible assumption) | assumption)
                   have q179 : x105_3 < (l0_3.length : Int) := of_decide_eq_true (by first | (with_reducible assumption) | assumption)
                   obtain ⟨ad179, e179, hx179_0, hx179_1, hx179_2⟩ := at_T128 HR0_3.out x105_3 p179 q179
                   (try rw [← Nbq57.out] at hx179_0)
                   cases e179
                   replace hx179_0 := (HB.out.cell (World.block_lt_of_cell? w _ hx179_0)).trans hx179_0
                   replace hx179_1 := (HB.out.cell (World.block_lt_of_cell? w _ hx179_1)).trans hx179_1
                   replace hx179_2 := (HB.out.cell (World.block_lt_of_cell? w _ hx179_2)).trans hx179_2
                   replace p179 := eq_true p179
                   replace q179 := eq_true q179
                   try go_wp2_with (first | ((with_reducible refine gate_dst (N := 7) rfl ?_); (try (refine gate_guard (by rfl) ?_; dsimp only)); refine box_event ?hg (N := 7) ?hd (cs := #[.bool false, .int .i64 0, .string (⟨#[]⟩ : ByteArray)]) (t := 128) ?hr ?_; (case hd => rfl); (case hg => rfl); (case hr => first | (go_simp; done) | (go_simp; rfl)); intro gb180 hg w106 hbox hb; have n0_ := Aside0.mk (blk_below (g := gb168) (o := .cells #[.slice A0_0 l0_0.length c0_0, .int .i64 a0_1, .slice A0_2 l0_2.length c0_2, .slice (some ad179) l0_3.length c0_3, .slice A0_4 l0_4.length c0_4, .slice A0_5 l0_5.length c0_5, .int .i64 a0_6] 66 (0, 0)) (by (with_reducible repeat (first | refine blk_drewN ?_ _ | refine blk_drew ?_ | refine blk_alloc ?_ _)); exact BK168.out) hb); have n1_ := Aside0.mk (below_step (by repeat (first | (with_reducible first | exact HB.out | apply below_alloc | apply pw_below_drewN | apply below_drew1 | refine below_set ?_ GE168.out) | exact HB.out)) hb); have n2_ := Aside0.mk (hbox); have n3_ := Aside0.mk ((by rw [hg]; exact (below_size (by repeat (first | (with_reducible first | exact HB.out | apply below_alloc | apply pw_below_drewN | apply below_drew1 | refine below_set ?_ GE168.out) | exact HB.out))) : w.heap.size ≤ gb180)); have n4_ := Aside0.mk ((by rw [hg]; exact (below_size (by repeat (first | (with_reducible first | exact HB.out | apply below_alloc | apply pw_below_drewN | apply below_drew1 | refine below_set ?_ GE168.out) | exact HB.out))) : w.heap.size ≤ gb180)); have n5_ := Aside0.mk ((by rw [hg]; exact Nat.ne_of_lt (blk_lt (g := gb168) (o := .cells #[.slice A0_0 l0_0.length c0_0, .int .i64 a0_1, .slice A0_2 l0_2.length c0_2, .slice (some ad179) l0_3.length c0_3, .slice A0_4 l0_4.length c0_4, .slice A0_5 l0_5.length c0_5, .int .i64 a0_6] 66 (0, 0)) (by (with_reducible repeat (first | refine blk_drewN ?_ _ | refine blk_drew ?_ | refine blk_alloc ?_ _)); exact BK168.out)) : gb168 ≠ gb180)); have n6_ := Aside0.mk ((by rw [hg]; exact Nat.ne_of_gt (blk_lt (g := gb168) (o := .cells #[.slice A0_0 l0_0.length c0_0, .int .i64 a0_1, .slice A0_2 l0_2.length c0_2, .slice (some ad179) l0_3.length c0_3, .slice A0_4 l0_4.length c0_4, .slice A0_5 l0_5.length c0_5, .int .i64 a0_6] 66 (0, 0)) (by (with_reducible repeat (first | refine blk_drewN ?_ _ | refine blk_drew ?_ | refine blk_alloc ?_ _)); exact BK168.out)) : gb180 ≠ gb168)); clear BK168; clear HB; have BK168 := n0_; have HB := n1_; have BK180 := n2_; have GW180 := n3_; have GE180 := n4_; have NB168_180 := n5_; have NB180_168 := n6_; clear n0_ n1_ n2_ n3_ n4_ n5_ n6_; clear hb hbox hg; have hnb107 := NB180_168.out; have hnc107 := NB168_180.out; have hcz108_0 : w106.cell? ⟨gb180, 0, none⟩ = some (.bool false) := (blk_cell BK180.out 0).trans rfl; have hcz108_1 : w106.cell? ⟨gb180, 1, none⟩ = some (.int .i64 0) := (blk_cell BK180.out 1).trans rfl; have hcz108_2 : w106.cell? ⟨gb180, 2, none⟩ = some (.string (⟨#[]⟩ : ByteArray)) := (blk_cell BK180.out 2).trans rfl; have hfz108_0 := blk_frozen BK180.out 0; have hfz108_1 := blk_frozen BK180.out 1; have hfz108_2 := blk_frozen BK180.out 2))
                   have n0_ : Aside0 ((((w106.setCell ⟨gb180, 0, none⟩ (.bool false)).setCell ⟨gb180, 1, none⟩ (.int .i64 ((rd_T128 l0_3 x105_3).f1))).setCell ⟨gb180, 2, none⟩ (.string ((rd_T128 l0_3 x105_3).f2))).heap[gb168]? = some (.cells #[.slice A0_0 l0_0.length c0_0, .int .i64 a0_1, .slice A0_2 l0_2.length c0_2, .slice (some ad179) l0_3.length c0_3, .slice A0_4 l0_4.length c0_4, .slice A0_5 l0_5.length c0_5, .int .i64 a0_6] 66 (0, 0))) := ⟨by (with_reducible repeat (first | refine blk_drewN ?_ _ | refine blk_drew ?_ | refine blk_alloc ?_ _)); refine blk_far ?_ NB168_180.out _; (with_reducible repeat (first | refine blk_drewN ?_ _ | refine blk_drew ?_ | refine blk_alloc ?_ _)); refine blk_far ?_ NB168_180.out _; (with_reducible repeat (first | refine blk_drewN ?_ _ | refine blk_drew ?_ | refine blk_alloc ?_ _)); refine blk_far ?_ NB168_180.out _; (with_reducible repeat (first | refine blk_drewN ?_ _ | refine blk_drew ?_ | refine blk_alloc ?_ _)); exact BK168.out⟩
                   have n1_ : Aside0 ((((w106.setCell ⟨gb180, 0, none⟩ (.bool false)).setCell ⟨gb180, 1, none⟩ (.int .i64 ((rd_T128 l0_3 x105_3).f1))).setCell ⟨gb180, 2, none⟩ (.string ((rd_T128 l0_3 x105_3).f2))).heap[gb180]? = some (.cells #[.bool false, .int .i64 ((rd_T128 l0_3 x105_3).f1), .string ((rd_T128 l0_3 x105_3).f2)] 128 (0, 0))) := ⟨by (with_reducible repeat (first | refine blk_drewN ?_ _ | refine blk_drew ?_ | refine blk_alloc ?_ _)); refine blk_put (cs := #[.bool false, .int .i64 ((rd_T128 l0_3 x105_3).f1), .string (⟨#[]⟩ : ByteArray)]) ?_ 2 _ rfl; (with_reducible repeat (first | refine blk_drewN ?_ _ | refine blk_drew ?_ | refine blk_alloc ?_ _)); refine blk_put (cs := #[.bool false, .int .i64 0, .string (⟨#[]⟩ : ByteArray)]) ?_ 1 _ rfl; (with_reducible repeat (first | refine blk_drewN ?_ _ | refine blk_drew ?_ | refine blk_alloc ?_ _)); refine blk_put (cs := #[.bool false, .int .i64 0, .string (⟨#[]⟩ : ByteArray)]) ?_ 0 _ rfl; (with_reducible repeat (first | refine blk_drewN ?_ _ | refine blk_drew ?_ | refine blk_alloc ?_ _)); exact BK180.out⟩
                   have n2_ : Aside0 (Below w.heap.size w (((w106.setCell ⟨gb180, 0, none⟩ (.bool false)).setCell ⟨gb180, 1, none⟩ (.int .i64 ((rd_T128 l0_3 x105_3).f1))).setCell ⟨gb180, 2, none⟩ (.string ((rd_T128 l0_3 x105_3).f2)))) := ⟨by repeat (first | (with_reducible first | exact HB.out | apply below_alloc | apply pw_below_drewN | apply below_drew1 | refine below_set ?_ GE168.out | refine below_set ?_ GE180.out) | exact HB.out)⟩
                   (try clear BK168)
                   (try clear BK180)
                   (try clear HB)
                   generalize (((w106.setCell ⟨gb180, 0, none⟩ (.bool false)).setCell ⟨gb180, 1, none⟩ (.int .i64 ((rd_T128 l0_3 x105_3).f1))).setCell ⟨gb180, 2, none⟩ (.string ((rd_T128 l0_3 x105_3).f2))) = w109 at n0_ n1_ n2_ ⊢
                   have BK168 := n0_
                   have BK180 := n1_
                   have HB := n2_
                   clear n0_ n1_ n2_
                   have n0_ := Aside0.mk (blk_drew BK168.out)
                   have n1_ := Aside0.mk (blk_drew BK180.out)
                   have n2_ := Aside0.mk (below_drew1 HB.out)
                   clear BK168
                   clear BK180
                   clear HB
                   have BK168 := n0_
                   have BK180 := n1_
                   have HB := n2_
                   clear n0_ n1_ n2_
                   have p183 : 0 ≤ (((rd_T128 l0_3 x105_3).f1) : Int) := of_decide_eq_true (by first | (with_reducible assumption) | assumption)
                   have q183 : ((rd_T128 l0_3 x105_3).f1) < (l0_0.length : Int) := of_decide_eq_true (by first | (with_reducible assumption) | assumption)
                   obtain ⟨ad183, e183, hx183_0⟩ := Kd.at_string HR0_0.out ((rd_T128 l0_3 x105_3).f1) p183 q183
                   have hw183_0 := hx183_0
                   cases e183
                   replace hx183_0 := (HB.out.cell (World.block_lt_of_cell? w _ hx183_0)).trans hx183_0
                   replace p183 := eq_true p183
                   replace q183 := eq_true q183
                   refine start_ (n := 43) (S := fun w' => w'.cell? ⟨gb180, 0, none⟩ = some (.bool false) ∧ w'.cell? ⟨gb180, 1, none⟩ = some (.int .i64 ((rd_T128 l0_3 x105_3).f1)) ∧ w'.cell? ⟨gb180, 2, none⟩ = some (.string ((rd_T128 l0_3 x105_3).f2)) ∧ w'.cell? ⟨gb168, 0, none⟩ = some (.slice (some ad183) l0_0.length c0_0) ∧ w'.cell? ⟨gb168, 1, none⟩ = some (.int .i64 a0_1) ∧ w'.cell? ⟨gb168, 2, none⟩ = some (.slice A0_2 l0_2.length c0_2) ∧ w'.cell? ⟨gb168, 3, none⟩ = some (.slice (some ad179) l0_3.length c0_3) ∧ w'.cell? ⟨gb168, 4, none⟩ = some (.slice A0_4 l0_4.length c0_4) ∧ w'.cell? ⟨gb168, 5, none⟩ = some (.slice A0_5 l0_5.length c0_5) ∧ w'.cell? ⟨gb168, 6, none⟩ = some (.int .i64 a0_6) ∧ w'.cell? (ad183.add (((rd_T128 l0_3 x105_3).f1)).toNat) = some (.string (rdOf ByteArray.empty l0_0 ((rd_T128 l0_3 x105_3).f1)))) (ds := []) (pz 43 0) (by kernel_rfl) rfl rfl ⟨(blk_cell BK180.out 0).trans rfl, (blk_cell BK180.out 1).trans rfl, (blk_cell BK180.out 2).trans rfl, (blk_cell BK168.out 0).trans rfl, (blk_cell BK168.out 1).trans rfl, (blk_cell BK168.out 2).trans rfl, (blk_cell BK168.out 3).trans rfl, (blk_cell BK168.out 4).trans rfl, (blk_cell BK168.out 5).trans rfl, (blk_cell BK168.out 6).trans rfl, ((HB.out.cell (World.block_lt_of_cell? w _ hw183_0)).trans hw183_0)⟩ (fun hHeld => ?_); refine with_tabW spec_GoodWindow.tab13 spec_GoodWindow.bits13 (fun HT_ HW_ => ?_)
                   generalize w109.drew = w110 at BK168 BK180 HB hx183_0 hHeld ⊢
                   refine sR 0 109 (pz 43 1) HT_ ?_
                   refine sT 1 110 (pz 43 2) rfl rfl HT_ HW_ hHeld (by rintro w' ⟨s0, s1, s2, s3, s4, s5, s6, s7, s8, s9, s10⟩; go_simp; with_reducible rfl) ?_
                   refine sR 2 111 (pz 43 3) HT_ ?_
                   refine sR 3 112 (pz 43 4) HT_ ?_
                   refine sR 4 113 (pz 43 5) HT_ ?_
                   refine sR 6 115 #[true, true, true, true, true, false, true, false, false, false, false, false, false, false, false, false, false, false, false, false, false, false, false, false, false, false, false, false, false, false, false, false, false, false, false, false, false, false, false, false, false, false, false] HT_ ?_
                   refine sT 5 114 (pz 43 7) rfl rfl HT_ HW_ hHeld (by rintro w' ⟨s0, s1, s2, s3, s4, s5, s6, s7, s8, s9, s10⟩; go_simp; with_reducible rfl) ?_
                   refine sR 7 116 (pz 43 8) HT_ ?_
                   refine sR 8 117 (pz 43 9) HT_ ?_
                   refine sR 9 118 (pz 43 10) HT_ ?_
                   refine sR 10 119 (pz 43 11) HT_ ?_
                   refine sT 11 120 (pz 43 12) rfl rfl HT_ HW_ hHeld (by rintro w' ⟨s0, s1, s2, s3, s4, s5, s6, s7, s8, s9, s10⟩; go_simp; with_reducible rfl) ?_
                   refine sR 12 121 (pz 43 13) HT_ ?_
                   refine sU 13 122 (pz 43 14) HT_ ?_
                   refine sU 14 123 (pz 43 15) HT_ ?_
                   refine sU 15 124 (pz 43 16) HT_ ?_
                   refine sU 16 125 (pz 43 17) HT_ ?_
                   refine sU 17 126 (pz 43 18) HT_ ?_
                   refine sU 18 127 (pz 43 19) HT_ ?_
                   refine sU 19 128 (pz 43 20) HT_ ?_
                   refine sU 20 129 (pz 43 21) HT_ ?_
                   refine sU 21 130 (pz 43 22) HT_ ?_
                   refine sU 22 131 (pz 43 23) HT_ ?_
                   refine sU 23 132 (pz 43 24) HT_ ?_
                   refine sU 24 133 (pz 43 25) HT_ ?_
                   refine sR 25 134 (pz 43 26) HT_ ?_
                   refine sR 26 135 (pz 43 27) HT_ ?_
                   refine sR 27 136 (pz 43 28) HT_ ?_
                   refine sR 28 137 (pz 43 29) HT_ ?_
                   refine sT 29 138 (pz 43 30) rfl rfl HT_ HW_ hHeld (by rintro w' ⟨s0, s1, s2, s3, s4, s5, s6, s7, s8, s9, s10⟩; go_simp; with_reducible rfl) ?_
                   refine sR 30 139 (pz 43 31) HT_ ?_
                   refine sR 31 140 (pz 43 32) HT_ ?_
                   refine sR 32 141 (pz 43 33) HT_ ?_
                   refine sR 34 143 #[true, true, true, true, true, true, true, true, true, true, true, true, true, true, true, true, true, true, true, true, true, true, true, true, true, true, true, true, true, true, true, true, true, false, true, false, false, false, false, false, false, false, false] HT_ ?_
                   refine sR 36 145 #[true, true, true, true, true, true, true, true, true, true, true, true, true, true, true, true, true, true, true, true, true, true, true, true, true, true, true, true, true, true, true, true, true, false, true, false, true, false, false, false, false, false, false] HT_ ?_
                   refine sT 33 142 #[true, true, true, true, true, true, true, true, true, true, true, true, true, true, true, true, true, true, true, true, true, true, true, true, true, true, true, true, true, true, true, true, true, true, true, false, true, false, false, false, false, false, false] rfl rfl HT_ HW_ hHeld (by rintro w' ⟨s0, s1, s2, s3, s4, s5, s6, s7, s8, s9, s10⟩; go_simp; with_reducible rfl) ?_
                   refine sT 35 144 (pz 43 37) rfl rfl HT_ HW_ hHeld (by rintro w' ⟨s0, s1, s2, s3, s4, s5, s6, s7, s8, s9, s10⟩; go_simp; with_reducible rfl) ?_
                   refine sT 37 146 (pz 43 38) rfl rfl HT_ HW_ hHeld (by rintro w' ⟨s0, s1, s2, s3, s4, s5, s6, s7, s8, s9, s10⟩; go_simp; with_reducible rfl) ?_
                   refine sR 38 147 (pz 43 39) HT_ ?_
                   refine sT 39 148 (pz 43 40) rfl rfl HT_ HW_ hHeld (by rintro w' ⟨s0, s1, s2, s3, s4, s5, s6, s7, s8, s9, s10⟩; go_simp; with_reducible rfl) ?_
                   refine sR 40 149 (pz 43 41) HT_ ?_
                   refine sR 41 150 (pz 43 42) HT_ ?_
                   refine sR 42 151 (pz 43 43) HT_ ?_
                   refine done_ (done_of HT_.out (by kernel_rfl)) ?_
                   try go_wp2
                   go_ret
                   exact ⟨by first | rfl | (simp [errW_none, errW_some] <;> rfl) | (simp [*, errW_none, errW_some] <;> rfl), by repeat (first | (with_reducible first | exact HB.out | apply below_alloc | apply pw_below_drewN | apply below_drew1 | refine below_set ?_ GE168.out | refine below_set ?_ GE180.out) | exact HB.out)⟩
                 ·rw [if_neg c99] at H
                  exact absurd H (by simp)
                ·rw [if_neg c98] at H
                 exact absurd H (by simp)
           ·rw [if_neg c44] at H
            exact absurd H (by simp)
          ·rw [if_neg c43] at H
           exact absurd H (by simp)
         ·rw [if_neg c42] at H
          have c42b0 : decide (x105_3 < (l0_3.length : Int)) = false := decide_eq_false c42
          clear c42
          obtain rfl := Option.some.inj H
          go_wp2
          go_ret
          exact ⟨by first | rfl | (simp [errW_none, errW_some] <;> rfl) | (simp [*, errW_none, errW_some] <;> rfl), by repeat (first | (with_reducible first | exact HB.out | apply below_alloc | apply pw_below_drewN | apply below_drew1 | refine below_set ?_ GE168.out) | exact HB.out)⟩

end Go.Proofs.Ytafkbhkikdndnaa.PFnExactFirstOpen

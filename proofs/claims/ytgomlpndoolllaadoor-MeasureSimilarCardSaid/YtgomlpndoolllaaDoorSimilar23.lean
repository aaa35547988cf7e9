/- Parts of the proof of Similar: words, contracts and plain laws. -/
import Derived.Test.YtgomlpndoolllaaDoorSimilar11
import Derived.Test.YtgomlpndoolllaaDoorSimilar12
import Derived.Test.YtgomlpndoolllaaDoorSimilar13
import Derived.Test.YtgomlpndoolllaaDoorSimilar21
import Derived.Test.YtgomlpndoolllaaDoorSimilar22
section
namespace Go.Proofs.YtgomlpndoolllaaDoor.LSimilar
open Go.RowKit Go.Proofs.YtgomlpndoolllaaDoor.Q Go.Proofs.YtgomlpndoolllaaDoorW.PrintWords Go.Proofs.YtgomlpndoolllaaDoorW.PrintLast Go.Proofs.YtgomlpndoolllaaDoorW.PrintMore
attribute [local go_sem] max2_int min2_int max_two min_two max_three min_three max_four min_four   -- for this text's walks alone
set_option linter.unusedVariables false
set_option linter.unusedSimpArgs false

attribute [local go_sem high] eqA32
/-! ### cleanselaw04_MeasureSimilar: function 6 -/
mutual
def cleanselaw04_MeasureSimilar.j0 : Nat → Bool → Bool → ByteArray → ByteArray → ByteArray → List ByteArray → List ByteArray → Int → Int → Int → Int → Int → Int → Int → Int → Int → Int → Int → Option (Bool)
 | 0, _, _, _, _, _, _, _, _, _, _, _, _, _, _, _, _, _, _ => none
 | k + 1, x3, x54, x102000, x102001, x102002, x102003, x102004, x102005, x102006, x102007, x107000, x107001, x110000, x110001, x113000, x113001, x116000, x116001 => if x54 = true then (some false) else ((measure_Alike.f k x102001 x102000).bind fun bt120 => (if (!(bt120.1 == x107000) || (!(bt120.2 == x107001))) = true then (cleanselaw04_MeasureSimilar.j1 k x3 true x102000 x102001 x102002 x102003 x102004 x102005 x102006 x102007) else ((measure_Jaccard.f k x102004 x102003).bind fun bt122 => (if (!(bt122.1 == x110000) || (!(bt122.2 == x110001))) = true then (cleanselaw04_MeasureSimilar.j1 k x3 true x102000 x102001 x102002 x102003 x102004 x102005 x102006 x102007) else ((measure_Jaro.f k x102001 x102000).bind fun bt124 => (if (!(bt124.1 == x113000) || (!(bt124.2 == x113001))) = true then (cleanselaw04_MeasureSimilar.j1 k x3 true x102000 x102001 x102002 x102003 x102004 x102005 x102006 x102007) else ((measure_Near.f k x102006 x102005 x102007).bind fun bt126 => (cleanselaw04_MeasureSimilar.j1 k x3 (!(bt126.1 == x116000) || (!(bt126.2 == x116001))) x102000 x102001 x102002 x102003 x102004 x102005 x102006 x102007))))))))
def cleanselaw04_MeasureSimilar.j1 : Nat → Bool → Bool → ByteArray → ByteArray → ByteArray → List ByteArray → List ByteArray → Int → Int → Int → Option (Bool)
 | 0, _, _, _, _, _, _, _, _, _, _ => none
 | k + 1, x3, x90, x102000, x102001, x102002, x102003, x102004, x102005, x102006, x102007 => if x90 = true then (some false) else ((cleanselaw04_of.f 1 1).bind fun bt128 => (if x102007 ≥ 0 then (cleanselaw04_MeasureSimilar.j2 k x3 (decide (x102007 < 1000000000)) x102000 x102001 x102002 x102003 x102004 x102005 x102006 x102007 bt128.1 bt128.2) else (cleanselaw04_MeasureSimilar.j2 k x3 false x102000 x102001 x102002 x102003 x102004 x102005 x102006 x102007 bt128.1 bt128.2)))
def cleanselaw04_MeasureSimilar.j2 : Nat → Bool → Bool → ByteArray → ByteArray → ByteArray → List ByteArray → List ByteArray → Int → Int → Int → Int → Int → Option (Bool)
 | 0, _, _, _, _, _, _, _, _, _, _, _, _ => none
 | k + 1, x3, x9, x102000, x102001, x102002, x102003, x102004, x102005, x102006, x102007, x131000, x131001 => if x3 = true then ((measure_Alike.f k x102000 x102000).bind fun bt131 => (if (bt131.1 == x131000 && (bt131.2 == x131001)) = true then ((measure_Jaccard.f k x102003 x102003).bind fun bt133 => (if (bt133.1 == x131000 && (bt133.2 == x131001)) = true then (if (x102000.size : Int) > 200 then ((measure_Near.f k x102005 x102005 x102007).bind fun bt135 => (some ((bt135.1 == x131000 && (bt135.2 == x131001)) == x9))) else ((measure_Jaro.f k x102000 x102000).bind fun bt137 => (if (bt137.1 == x131000 && (bt137.2 == x131001)) = true then ((measure_Near.f k x102005 x102005 x102007).bind fun bt139 => (some ((bt139.1 == x131000 && (bt139.2 == x131001)) == x9))) else (some false)))) else (some false))) else (some false))) else (some false)
end
def cleanselaw04_MeasureSimilar.f (k : Nat) (a0_0 : ByteArray) (a0_1 : ByteArray) (a0_2 : ByteArray) (l0_3 : List ByteArray) (l0_4 : List ByteArray) (a0_5 : Int) (a0_6 : Int) (a0_7 : Int) : Option (Bool) := (cleanselaw04_head.f).bind fun t102 => ((cleanselaw04_small.f k a0_0 a0_1 a0_2 l0_3 l0_4 a0_5 a0_6 a0_7).bind fun t103 => (if t103 = true then ((measure_Alike.f k a0_0 a0_1).bind fun bt104 => ((measure_Jaccard.f k l0_3 l0_4).bind fun bt107 => ((measure_Jaro.f k a0_0 a0_1).bind fun bt110 => ((measure_Near.f k a0_5 a0_6 a0_7).bind fun bt113 => ((cleanselaw04_unit.f k bt104.1 bt104.2).bind fun t116 => (if t116 = true then ((cleanselaw04_unit.f k bt107.1 bt107.2).bind fun t117 => (if t117 = true then ((cleanselaw04_unit.f k bt110.1 bt110.2).bind fun t118 => (if t118 = true then ((cleanselaw04_unit.f k bt113.1 bt113.2).bind fun t119 => (cleanselaw04_MeasureSimilar.j0 k t102 (!t119) a0_0 a0_1 a0_2 l0_3 l0_4 a0_5 a0_6 a0_7 bt104.1 bt104.2 bt107.1 bt107.2 bt110.1 bt110.2 bt113.1 bt113.2)) else (cleanselaw04_MeasureSimilar.j0 k t102 true a0_0 a0_1 a0_2 l0_3 l0_4 a0_5 a0_6 a0_7 bt104.1 bt104.2 bt107.1 bt107.2 bt110.1 bt110.2 bt113.1 bt113.2))) else (cleanselaw04_MeasureSimilar.j0 k t102 true a0_0 a0_1 a0_2 l0_3 l0_4 a0_5 a0_6 a0_7 bt104.1 bt104.2 bt107.1 bt107.2 bt110.1 bt110.2 bt113.1 bt113.2))) else (cleanselaw04_MeasureSimilar.j0 k t102 true a0_0 a0_1 a0_2 l0_3 l0_4 a0_5 a0_6 a0_7 bt104.1 bt104.2 bt107.1 bt107.2 bt110.1 bt110.2 bt113.1 bt113.2))))))) else (some t102)))
def cleanselaw04_MeasureSimilar.T10 : Bool × List (List Nat × List Nat) := (true, [([], []), ([0], [0]), ([], []), ([2], [2]), ([1, 3], [1, 3]), ([], []), ([4, 5], [4, 5]), ([6, 4], [6]), ([7], [7]), ([8, 7], [7, 8]), ([7], [7]), ([10, 7], [7, 10]), ([9, 11, 7, 7], [7, 9, 11]), ([7], [7]), ([12, 13, 7], [7, 12, 13]), ([7, 14], [7, 14]), ([15, 12], [15]), ([16], [16]), ([17, 16], [16, 17]), ([16], [16]), ([19, 16], [16, 19]), ([18, 20, 16, 16], [16, 18, 20]), ([16], [16]), ([21, 22, 16], [16, 21, 22]), ([16, 23], [16, 23]), ([24, 21], [24]), ([25], [25]), ([26, 25], [25, 26]), ([25], [25]), ([28, 25], [25, 28]), ([25], [25]), ([30, 25], [25, 30]), ([27, 29, 31, 25, 25], [25, 27, 29, 31]), ([25], [25]), ([32, 33, 25], [25, 32, 33]), ([25, 34], [25, 34])])
def cleanselaw04_MeasureSimilar.B10 : List Nat := [0, 1, 0, 4, 15, 0, 63, 127, 255, 511, 255, 1279, 4095, 255, 16383, 32767, 65535, 131071, 262143, 131071, 655359, 2097151, 131071, 8388607, 16777215, 33554431, 67108863, 134217727, 67108863, 335544319, 67108863, 1140850687, 4294967295, 67108863, 17179869183, 34359738367]
theorem cleanselaw04_MeasureSimilar.tab10 : rtab .any (opsOf Tryd.f6 10) = cleanselaw04_MeasureSimilar.T10 := by kernel_rfl
theorem cleanselaw04_MeasureSimilar.bits10 : waitsOk cleanselaw04_MeasureSimilar.T10.2 cleanselaw04_MeasureSimilar.B10 = true := by kernel_rfl
def cleanselaw04_MeasureSimilar.T14 : Bool × List (List Nat × List Nat) := (true, [([], []), ([0], [0]), ([1], [1]), ([2, 1], [1, 2]), ([1], [1]), ([4, 1], [1, 4]), ([3, 5, 1, 1], [1, 3, 5]), ([1], [1]), ([6, 7, 1], [1, 6, 7]), ([1, 8], [1, 8]), ([9, 6], [9]), ([10], [10]), ([11, 10], [10, 11]), ([10], [10]), ([13, 10], [10, 13]), ([12, 14, 10, 10], [10, 12, 14]), ([10], [10]), ([15, 16, 10], [10, 15, 16]), ([10, 17], [10, 17]), ([18, 15], [18]), ([19], [19]), ([20, 19], [19, 20]), ([21, 19], [19, 21]), ([22, 19], [19, 22]), ([23, 19, 19], [19, 23]), ([24], [24]), ([25, 24], [24, 25]), ([24], [24]), ([27, 24], [24, 27]), ([26, 28, 24, 24], [24, 26, 28]), ([24], [24]), ([29, 30, 24], [24, 29, 30]), ([24, 31, 19], [19, 24, 31]), ([19, 32], [19, 32]), ([33, 29], [33]), ([34], [34]), ([35, 34], [34, 35]), ([34], [34]), ([37, 34], [34, 37]), ([34], [34]), ([39, 34], [34, 39]), ([36, 38, 40, 34, 34], [34, 36, 38, 40]), ([34], [34]), ([41, 42, 34], [34, 41, 42]), ([34], [34]), ([43, 44, 34], [34, 43, 44]), ([34, 45], [34, 45]), ([46, 41, 0, 1, 2, 3, 4, 5, 6, 7, 8, 9, 10, 11, 12, 13, 14, 15, 16, 17, 18, 19, 20, 21, 22, 23, 24, 25, 26, 27, 28, 29, 30, 31, 32, 33, 34, 35, 36, 37, 38, 39, 40, 41, 42, 43, 44, 45, 46], [46])])
def cleanselaw04_MeasureSimilar.B14 : List Nat := [0, 1, 3, 7, 3, 19, 63, 3, 255, 511, 1023, 2047, 4095, 2047, 10239, 32767, 2047, 131071, 262143, 524287, 1048575, 2097151, 4194303, 8388607, 16777215, 33554431, 67108863, 33554431, 167772159, 536870911, 33554431, 2147483647, 4294967295, 8589934591, 17179869183, 34359738367, 68719476735, 34359738367, 171798691839, 34359738367, 584115552255, 2199023255551, 34359738367, 8796093022207, 34359738367, 35184372088831, 70368744177663, 140737488355327]
theorem cleanselaw04_MeasureSimilar.tab14 : rtab .any (opsOf Tryd.f6 14) = cleanselaw04_MeasureSimilar.T14 := by kernel_rfl
theorem cleanselaw04_MeasureSimilar.bits14 : waitsOk cleanselaw04_MeasureSimilar.T14.2 cleanselaw04_MeasureSimilar.B14 = true := by kernel_rfl
theorem cleanselaw04_MeasureSimilar.j0_true {k : Nat} {x3 : Bool} {x102000 : ByteArray} {x102001 : ByteArray} {x102002 : ByteArray} {x102003 : List ByteArray} {x102004 : List ByteArray} {x102005 : Int} {x102006 : Int} {x102007 : Int} {x107000 : Int} {x107001 : Int} {x110000 : Int} {x110001 : Int} {x113000 : Int} {x113001 : Int} {x116000 : Int} {x116001 : Int} {r : Bool} (h : cleanselaw04_MeasureSimilar.j0 k x3 true x102000 x102001 x102002 x102003 x102004 x102005 x102006 x102007 x107000 x107001 x110000 x110001 x113000 x113001 x116000 x116001 = some r) (hr : r = true) : False := by
 subst hr
 cases k with
 | zero => simp [cleanselaw04_MeasureSimilar.j0] at h
 | succ k => simp [cleanselaw04_MeasureSimilar.j0] at h
theorem cleanselaw04_MeasureSimilar.j1_true {k : Nat} {x3 : Bool} {x102000 : ByteArray} {x102001 : ByteArray} {x102002 : ByteArray} {x102003 : List ByteArray} {x102004 : List ByteArray} {x102005 : Int} {x102006 : Int} {x102007 : Int} {r : Bool} (h : cleanselaw04_MeasureSimilar.j1 k x3 true x102000 x102001 x102002 x102003 x102004 x102005 x102006 x102007 = some r) (hr : r = true) : False := by
 subst hr
 cases k with
 | zero => simp [cleanselaw04_MeasureSimilar.j1] at h
 | succ k => simp [cleanselaw04_MeasureSimilar.j1] at h
set_option maxHeartbeats 8000000 in
set_option maxRecDepth 100000 in
theorem cleanselaw04_MeasureSimilar.calls (k : Nat) (a0_0 : ByteArray) (a0_1 : ByteArray) (a0_2 : ByteArray) (A0_3 : Option Addr) (c0_3 : Nat) (l0_3 : List ByteArray) (A0_4 : Option Addr) (c0_4 : Nat) (l0_4 : List ByteArray) (a0_5 : Int) (a0_6 : Int) (a0_7 : Int) (r : Bool) (w : World) (hr0_3 : Kd.C Kd.string w A0_3 l0_3.length l0_3) (hc0_3 : l0_3.length ≤ c0_3) (hr0_4 : Kd.C Kd.string w A0_4 l0_4.length l0_4) (hc0_4 : l0_4.length ≤ c0_4) (hG : Gl w) (hT : r = true) (h : cleanselaw04_MeasureSimilar.f k a0_0 a0_1 a0_2 l0_3 l0_4 a0_5 a0_6 a0_7 = some r) :
  Calls Tryd.prog 6 #[.agg #[.string a0_0, .string a0_1, .string a0_2, .slice A0_3 l0_3.length c0_3, .slice A0_4 l0_4.length c0_4, .int .i64 a0_5, .int .i64 a0_6, .int .i64 a0_7]] w fun e w' => e = .returned (.bool r) ∧ Below w.heap.size w w' := by
 have HGl := Aside0.mk hG
 clear hG
 have HT := Aside0.mk hT
 clear hT
 have hu24 := Tryd.underlying24
 have hu32 := Tryd.underlying32
 have HR0_3 := Aside0.mk hr0_3
 have HC0_3 := Aside0.mk hc0_3
 clear hr0_3 hc0_3
 have HR0_4 := Aside0.mk hr0_4
 have HC0_4 := Aside0.mk hc0_4
 clear hr0_4 hc0_4
 have HB := Aside0.mk (Below.refl w.heap.size w)
 have H : ((cleanselaw04_head.f).bind fun t102 => ((cleanselaw04_small.f k a0_0 a0_1 a0_2 l0_3 l0_4 a0_5 a0_6 a0_7).bind fun t103 => (if t103 = true then ((measure_Alike.f k a0_0 a0_1).bind fun bt104 => ((measure_Jaccard.f k l0_3 l0_4).bind fun bt107 => ((measure_Jaro.f k a0_0 a0_1).bind fun bt110 => ((measure_Near.f k a0_5 a0_6 a0_7).bind fun bt113 => ((cleanselaw04_unit.f k bt104.1 bt104.2).bind fun t116 => (if t116 = true then ((cleanselaw04_unit.f k bt107.1 bt107.2).bind fun t117 => (if t117 = true then ((cleanselaw04_unit.f k bt110.1 bt110.2).bind fun t118 => (if t118 = true then ((cleanselaw04_unit.f k bt113.1 bt113.2).bind fun t119 => (cleanselaw04_MeasureSimilar.j0 k t102 (!t119) a0_0 a0_1 a0_2 l0_3 l0_4 a0_5 a0_6 a0_7 bt104.1 bt104.2 bt107.1 bt107.2 bt110.1 bt110.2 bt113.1 bt113.2)) else (cleanselaw04_MeasureSimilar.j0 k t102 true a0_0 a0_1 a0_2 l0_3 l0_4 a0_5 a0_6 a0_7 bt104.1 bt104.2 bt107.1 bt107.2 bt110.1 bt110.2 bt113.1 bt113.2))) else (cleanselaw04_MeasureSimilar.j0 k t102 true a0_0 a0_1 a0_2 l0_3 l0_4 a0_5 a0_6 a0_7 bt104.1 bt104.2 bt107.1 bt107.2 bt110.1 bt110.2 bt113.1 bt113.2))) else (cleanselaw04_MeasureSimilar.j0 k t102 true a0_0 a0_1 a0_2 l0_3 l0_4 a0_5 a0_6 a0_7 bt104.1 bt104.2 bt107.1 bt107.2 bt110.1 bt110.2 bt113.1 bt113.2))))))) else (some t102)))) = some r := h
 clear h
 replace H := Option.bind_eq_some_iff.mp H
 obtain ⟨t102, A20, H⟩ := H
 replace H : ((cleanselaw04_small.f k a0_0 a0_1 a0_2 l0_3 l0_4 a0_5 a0_6 a0_7).bind fun t103 => (if t103 = true then ((measure_Alike.f k a0_0 a0_1).bind fun bt104 => ((measure_Jaccard.f k l0_3 l0_4).bind fun bt107 => ((measure_Jaro.f k a0_0 a0_1).bind fun bt110 => ((measure_Near.f k a0_5 a0_6 a0_7).bind fun bt113 => ((cleanselaw04_unit.f k bt104.1 bt104.2).bind fun t116 => (if t116 = true then ((cleanselaw04_unit.f k bt107.1 bt107.2).bind fun t117 => (if t117 = true then ((cleanselaw04_unit.f k bt110.1 bt110.2).bind fun t118 => (if t118 = true then ((cleanselaw04_unit.f k bt113.1 bt113.2).bind fun t119 => (cleanselaw04_MeasureSimilar.j0 k t102 (!t119) a0_0 a0_1 a0_2 l0_3 l0_4 a0_5 a0_6 a0_7 bt104.1 bt104.2 bt107.1 bt107.2 bt110.1 bt110.2 bt113.1 bt113.2)) else (cleanselaw04_MeasureSimilar.j0 k t102 true a0_0 a0_1 a0_2 l0_3 l0_4 a0_5 a0_6 a0_7 bt104.1 bt104.2 bt107.1 bt107.2 bt110.1 bt110.2 bt113.1 bt113.2))) else (cleanselaw04_MeasureSimilar.j0 k t102 true a0_0 a0_1 a0_2 l0_3 l0_4 a0_5 a0_6 a0_7 bt104.1 bt104.2 bt107.1 bt107.2 bt110.1 bt110.2 bt113.1 bt113.2))) else (cleanselaw04_MeasureSimilar.j0 k t102 true a0_0 a0_1 a0_2 l0_3 l0_4 a0_5 a0_6 a0_7 bt104.1 bt104.2 bt107.1 bt107.2 bt110.1 bt110.2 bt113.1 bt113.2))))))) else (some t102))) = some r := H
 have A2 := Aside0.mk A20
 clear A20
 replace H := Option.bind_eq_some_iff.mp H
 obtain ⟨t103, A30, H⟩ := H
 replace H : (if t103 = true then ((measure_Alike.f k a0_0 a0_1).bind fun bt104 => ((measure_Jaccard.f k l0_3 l0_4).bind fun bt107 => ((measure_Jaro.f k a0_0 a0_1).bind fun bt110 => ((measure_Near.f k a0_5 a0_6 a0_7).bind fun bt113 => ((cleanselaw04_unit.f k bt104.1 bt104.2).bind fun t116 => (if t116 = true then ((cleanselaw04_unit.f k bt107.1 bt107.2).bind fun t117 => (if t117 = true then ((cleanselaw04_unit.f k bt110.1 bt110.2).bind fun t118 => (if t118 = true then ((cleanselaw04_unit.f k bt113.1 bt113.2).bind fun t119 => (cleanselaw04_MeasureSimilar.j0 k t102 (!t119) a0_0 a0_1 a0_2 l0_3 l0_4 a0_5 a0_6 a0_7 bt104.1 bt104.2 bt107.1 bt107.2 bt110.1 bt110.2 bt113.1 bt113.2)) else (cleanselaw04_MeasureSimilar.j0 k t102 true a0_0 a0_1 a0_2 l0_3 l0_4 a0_5 a0_6 a0_7 bt104.1 bt104.2 bt107.1 bt107.2 bt110.1 bt110.2 bt113.1 bt113.2))) else (cleanselaw04_MeasureSimilar.j0 k t102 true a0_0 a0_1 a0_2 l0_3 l0_4 a0_5 a0_6 a0_7 bt104.1 bt104.2 bt107.1 bt107.2 bt110.1 bt110.2 bt113.1 bt113.2))) else (cleanselaw04_MeasureSimilar.j0 k t102 true a0_0 a0_1 a0_2 l0_3 l0_4 a0_5 a0_6 a0_7 bt104.1 bt104.2 bt107.1 bt107.2 bt110.1 bt110.2 bt113.1 bt113.2))))))) else (some t102)) = some r := H
 have A3 := Aside0.mk A30
 clear A30
 by_cases c4 : t103 = true
 ·subst c4
  have H1 : ((measure_Alike.f k a0_0 a0_1).bind fun bt104 => ((measure_Jaccard.f k l0_3 l0_4).bind fun bt107 => ((measure_Jaro.f k a0_0 a0_1).bind fun bt110 => ((measure_Near.f k a0_5 a0_6 a0_7).bind fun bt113 => ((cleanselaw04_unit.f k bt104.1 bt104.2).bind fun t116 => (if t116 = true then ((cleanselaw04_unit.f k bt107.1 bt107.2).bind fun t117 => (if t117 = true then ((cleanselaw04_unit.f k bt110.1 bt110.2).bind fun t118 => (if t118 = true then ((cleanselaw04_unit.f k bt113.1 bt113.2).bind fun t119 => (cleanselaw04_MeasureSimilar.j0 k t102 (!t119) a0_0 a0_1 a0_2 l0_3 l0_4 a0_5 a0_6 a0_7 bt104.1 bt104.2 bt107.1 bt107.2 bt110.1 bt110.2 bt113.1 bt113.2)) else (cleanselaw04_MeasureSimilar.j0 k t102 true a0_0 a0_1 a0_2 l0_3 l0_4 a0_5 a0_6 a0_7 bt104.1 bt104.2 bt107.1 bt107.2 bt110.1 bt110.2 bt113.1 bt113.2))) else (cleanselaw04_MeasureSimilar.j0 k t102 true a0_0 a0_1 a0_2 l0_3 l0_4 a0_5 a0_6 a0_7 bt104.1 bt104.2 bt107.1 bt107.2 bt110.1 bt110.2 bt113.1 bt113.2))) else (cleanselaw04_MeasureSimilar.j0 k t102 true a0_0 a0_1 a0_2 l0_3 l0_4 a0_5 a0_6 a0_7 bt104.1 bt104.2 bt107.1 bt107.2 bt110.1 bt110.2 bt113.1 bt113.2))))))) = some r := by rw [if_pos rfl] at H; exact H
  clear H
  have H := H1
  clear H1
  replace H := Option.bind_eq_some_iff.mp H
  obtain ⟨⟨t104, t105⟩, A50, H⟩ := H
  replace H : ((measure_Jaccard.f k l0_3 l0_4).bind fun bt107 => ((measure_Jaro.f k a0_0 a0_1).bind fun bt110 => ((measure_Near.f k a0_5 a0_6 a0_7).bind fun bt113 => ((cleanselaw04_unit.f k t104 t105).bind fun t116 => (if t116 = true then ((cleanselaw04_unit.f k bt107.1 bt107.2).bind fun t117 => (if t117 = true then ((cleanselaw04_unit.f k bt110.1 bt110.2).bind fun t118 => (if t118 = true then ((cleanselaw04_unit.f k bt113.1 bt113.2).bind fun t119 => (cleanselaw04_MeasureSimilar.j0 k t102 (!t119) a0_0 a0_1 a0_2 l0_3 l0_4 a0_5 a0_6 a0_7 t104 t105 bt107.1 bt107.2 bt110.1 bt110.2 bt113.1 bt113.2)) else (cleanselaw04_MeasureSimilar.j0 k t102 true a0_0 a0_1 a0_2 l0_3 l0_4 a0_5 a0_6 a0_7 t104 t105 bt107.1 bt107.2 bt110.1 bt110.2 bt113.1 bt113.2))) else (cleanselaw04_MeasureSimilar.j0 k t102 true a0_0 a0_1 a0_2 l0_3 l0_4 a0_5 a0_6 a0_7 t104 t105 bt107.1 bt107.2 bt110.1 bt110.2 bt113.1 bt113.2))) else (cleanselaw04_MeasureSimilar.j0 k t102 true a0_0 a0_1 a0_2 l0_3 l0_4 a0_5 a0_6 a0_7 t104 t105 bt107.1 bt107.2 bt110.1 bt110.2 bt113.1 bt113.2)))))) = some r := H
  have A5 := Aside0.mk A50
  clear A50
  replace H := Option.bind_eq_some_iff.mp H
  obtain ⟨⟨t107, t108⟩, A60, H⟩ := H
  replace H : ((measure_Jaro.f k a0_0 a0_1).bind fun bt110 => ((measure_Near.f k a0_5 a0_6 a0_7).bind fun bt113 => ((cleanselaw04_unit.f k t104 t105).bind fun t116 => (if t116 = true then ((cleanselaw04_unit.f k t107 t108).bind fun t117 => (if t117 = true then ((cleanselaw04_unit.f k bt110.1 bt110.2).bind fun t118 => (if t118 = true then ((cleanselaw04_unit.f k bt113.1 bt113.2).bind fun t119 => (cleanselaw04_MeasureSimilar.j0 k t102 (!t119) a0_0 a0_1 a0_2 l0_3 l0_4 a0_5 a0_6 a0_7 t104 t105 t107 t108 bt110.1 bt110.2 bt113.1 bt113.2)) else (cleanselaw04_MeasureSimilar.j0 k t102 true a0_0 a0_1 a0_2 l0_3 l0_4 a0_5 a0_6 a0_7 t104 t105 t107 t108 bt110.1 bt110.2 bt113.1 bt113.2))) else (cleanselaw04_MeasureSimilar.j0 k t102 true a0_0 a0_1 a0_2 l0_3 l0_4 a0_5 a0_6 a0_7 t104 t105 t107 t108 bt110.1 bt110.2 bt113.1 bt113.2))) else (cleanselaw04_MeasureSimilar.j0 k t102 true a0_0 a0_1 a0_2 l0_3 l0_4 a0_5 a0_6 a0_7 t104 t105 t107 t108 bt110.1 bt110.2 bt113.1 bt113.2))))) = some r := H
  have A6 := Aside0.mk A60
  clear A60
  replace H := Option.bind_eq_some_iff.mp H
  obtain ⟨⟨t110, t111⟩, A70, H⟩ := H
  replace H : ((measure_Near.f k a0_5 a0_6 a0_7).bind fun bt113 => ((cleanselaw04_unit.f k t104 t105).bind fun t116 => (if t116 = true then ((cleanselaw04_unit.f k t107 t108).bind fun t117 => (if t117 = true then ((cleanselaw04_unit.f k t110 t111).bind fun t118 => (if t118 = true then ((cleanselaw04_unit.f k bt113.1 bt113.2).bind fun t119 => (cleanselaw04_MeasureSimilar.j0 k t102 (!t119) a0_0 a0_1 a0_2 l0_3 l0_4 a0_5 a0_6 a0_7 t104 t105 t107 t108 t110 t111 bt113.1 bt113.2)) else (cleanselaw04_MeasureSimilar.j0 k t102 true a0_0 a0_1 a0_2 l0_3 l0_4 a0_5 a0_6 a0_7 t104 t105 t107 t108 t110 t111 bt113.1 bt113.2))) else (cleanselaw04_MeasureSimilar.j0 k t102 true a0_0 a0_1 a0_2 l0_3 l0_4 a0_5 a0_6 a0_7 t104 t105 t107 t108 t110 t111 bt113.1 bt113.2))) else (cleanselaw04_MeasureSimilar.j0 k t102 true a0_0 a0_1 a0_2 l0_3 l0_4 a0_5 a0_6 a0_7 t104 t105 t107 t108 t110 t111 bt113.1 bt113.2)))) = some r := H
  have A7 := Aside0.mk A70
  clear A70
  replace H := Option.bind_eq_some_iff.mp H
  obtain ⟨⟨t113, t114⟩, A80, H⟩ := H
  replace H : ((cleanselaw04_unit.f k t104 t105).bind fun t116 => (if t116 = true then ((cleanselaw04_unit.f k t107 t108).bind fun t117 => (if t117 = true then ((cleanselaw04_unit.f k t110 t111).bind fun t118 => (if t118 = true then ((cleanselaw04_unit.f k t113 t114).bind fun t119 => (cleanselaw04_MeasureSimilar.j0 k t102 (!t119) a0_0 a0_1 a0_2 l0_3 l0_4 a0_5 a0_6 a0_7 t104 t105 t107 t108 t110 t111 t113 t114)) else (cleanselaw04_MeasureSimilar.j0 k t102 true a0_0 a0_1 a0_2 l0_3 l0_4 a0_5 a0_6 a0_7 t104 t105 t107 t108 t110 t111 t113 t114))) else (cleanselaw04_MeasureSimilar.j0 k t102 true a0_0 a0_1 a0_2 l0_3 l0_4 a0_5 a0_6 a0_7 t104 t105 t107 t108 t110 t111 t113 t114))) else (cleanselaw04_MeasureSimilar.j0 k t102 true a0_0 a0_1 a0_2 l0_3 l0_4 a0_5 a0_6 a0_7 t104 t105 t107 t108 t110 t111 t113 t114))) = some r := H
  have A8 := Aside0.mk A80
  clear A80
  have HC9 := Aside0.mk H
  clear H
  go_enter Tryd.func6, Tryd.ntmps6
  go_upto_region 8 with (first | ((with_reducible refine gate_dst (N := 1) rfl ?_); (try (refine gate_guard (by rfl) ?_; dsimp only)); refine box_event ?hg (N := 1) ?hd (cs := #[.string a0_0, .string a0_1, .string a0_2, .slice A0_3 l0_3.length c0_3, .slice A0_4 l0_4.length c0_4, .int .i64 a0_5, .int .i64 a0_6, .int .i64 a0_7]) (t := 24) ?hr ?_; (case hd => rfl); (case hg => rfl); (case hr => (go_simp; done)); intro gb101 hg w10 hbox hb; have n0_ := Aside0.mk (below_step (by repeat ((with_reducible (exact HB.out)))) hb); have n1_ := Aside0.mk (hbox); have n2_ := Aside0.mk ((by rw [hg]; exact (below_size (by repeat ((with_reducible (exact HB.out))))) : w.heap.size ≤ gb101)); have n3_ := Aside0.mk ((by rw [hg]; exact (below_size (by repeat ((with_reducible (exact HB.out))))) : w.heap.size ≤ gb101)); clear HB; have HB := n0_; have BK101 := n1_; have GW101 := n2_; have GE101 := n3_; clear n0_ n1_ n2_ n3_; clear hb hbox hg) | ((with_reducible refine gate_callee (f := 11) rfl ?_); refine goesL_ (some 10) rfl rfl Tryd.func11 (by kernel_rfl) rfl #[] rfl (by (try simp only [List.map_toArray, List.map_cons, List.map_nil]); done) ?_; (with_reducible refine (cleanselaw04_head.calls  t102 _ ?sGl A2.out).mono ?_); (case sGl => exact Gl.below HGl.out (by repeat ((with_reducible (exact HB.out))))); rintro e w11 ⟨rfl, hb⟩; refine ⟨_, rfl, ?_⟩; have n0_ := Aside0.mk (blk_below (g := gb101) (o := .cells #[.string a0_0, .string a0_1, .string a0_2, .slice A0_3 l0_3.length c0_3, .slice A0_4 l0_4.length c0_4, .int .i64 a0_5, .int .i64 a0_6, .int .i64 a0_7] 24 (0, 0)) (by (with_reducible skip); exact BK101.out) hb); have n1_ := Aside0.mk (below_step (by repeat ((with_reducible (exact HB.out)))) hb); clear BK101; clear HB; have BK101 := n0_; have HB := n1_; clear n0_ n1_; (try clear hb); have hcz12_0 : w11.cell? ⟨gb101, 0, none⟩ = some (.string a0_0) := (blk_cell BK101.out 0).trans rfl; have hcz12_1 : w11.cell? ⟨gb101, 1, none⟩ = some (.string a0_1) := (blk_cell BK101.out 1).trans rfl; have hcz12_2 : w11.cell? ⟨gb101, 2, none⟩ = some (.string a0_2) := (blk_cell BK101.out 2).trans rfl; have hcz12_3 : w11.cell? ⟨gb101, 3, none⟩ = some (.slice A0_3 l0_3.length c0_3) := (blk_cell BK101.out 3).trans rfl; have hcz12_4 : w11.cell? ⟨gb101, 4, none⟩ = some (.slice A0_4 l0_4.length c0_4) := (blk_cell BK101.out 4).trans rfl; have hcz12_5 : w11.cell? ⟨gb101, 5, none⟩ = some (.int .i64 a0_5) := (blk_cell BK101.out 5).trans rfl; have hcz12_6 : w11.cell? ⟨gb101, 6, none⟩ = some (.int .i64 a0_6) := (blk_cell BK101.out 6).trans rfl; have hcz12_7 : w11.cell? ⟨gb101, 7, none⟩ = some (.int .i64 a0_7) := (blk_cell BK101.out 7).trans rfl; have hfz12_0 := blk_frozen BK101.out 0; have hfz12_1 := blk_frozen BK101.out 1; have hfz12_2 := blk_frozen BK101.out 2; have hfz12_3 := blk_frozen BK101.out 3; have hfz12_4 := blk_frozen BK101.out 4; have hfz12_5 := blk_frozen BK101.out 5; have hfz12_6 := blk_frozen BK101.out 6; have hfz12_7 := blk_frozen BK101.out 7) | ((with_reducible refine gate_callee (f := 12) rfl ?_); refine goesL_ (some 12) rfl rfl Tryd.func12 (by kernel_rfl) rfl #[.agg #[.string a0_0, .string a0_1, .string a0_2, .slice A0_3 l0_3.length c0_3, .slice A0_4 l0_4.length c0_4, .int .i64 a0_5, .int .i64 a0_6, .int .i64 a0_7]] rfl (by (try simp only [List.map_toArray, List.map_cons, List.map_nil]); rfl) ?_; (with_reducible refine (cleanselaw04_small.calls k a0_0 a0_1 a0_2 _ _ l0_3 _ _ l0_4 a0_5 a0_6 a0_7 true _ ?side1 ?side2 ?side3 ?side4 A3.out).mono ?_); (case side1 => repeat ((exact (Kd.C_below HR0_3.out HB.out)))); (case side2 => exact HC0_3.out); (case side3 => repeat ((exact (Kd.C_below HR0_4.out HB.out)))); (case side4 => exact HC0_4.out); rintro e w13 ⟨rfl, hb⟩; refine ⟨_, rfl, ?_⟩; have n0_ := Aside0.mk (blk_below (g := gb101) (o := .cells #[.string a0_0, .string a0_1, .string a0_2, .slice A0_3 l0_3.length c0_3, .slice A0_4 l0_4.length c0_4, .int .i64 a0_5, .int .i64 a0_6, .int .i64 a0_7] 24 (0, 0)) (by (with_reducible skip); exact BK101.out) hb); have n1_ := Aside0.mk (below_step (by repeat ((with_reducible (exact HB.out)))) hb); clear BK101; clear HB; have BK101 := n0_; have HB := n1_; clear n0_ n1_; (try clear hb); have hcz14_0 : w13.cell? ⟨gb101, 0, none⟩ = some (.string a0_0) := (blk_cell BK101.out 0).trans rfl; have hcz14_1 : w13.cell? ⟨gb101, 1, none⟩ = some (.string a0_1) := (blk_cell BK101.out 1).trans rfl; have hcz14_2 : w13.cell? ⟨gb101, 2, none⟩ = some (.string a0_2) := (blk_cell BK101.out 2).trans rfl; have hcz14_3 : w13.cell? ⟨gb101, 3, none⟩ = some (.slice A0_3 l0_3.length c0_3) := (blk_cell BK101.out 3).trans rfl; have hcz14_4 : w13.cell? ⟨gb101, 4, none⟩ = some (.slice A0_4 l0_4.length c0_4) := (blk_cell BK101.out 4).trans rfl; have hcz14_5 : w13.cell? ⟨gb101, 5, none⟩ = some (.int .i64 a0_5) := (blk_cell BK101.out 5).trans rfl; have hcz14_6 : w13.cell? ⟨gb101, 6, none⟩ = some (.int .i64 a0_6) := (blk_cell BK101.out 6).trans rfl; have hcz14_7 : w13.cell? ⟨gb101, 7, none⟩ = some (.int .i64 a0_7) := (blk_cell BK101.out 7).trans rfl; have hfz14_0 := blk_frozen BK101.out 0; have hfz14_1 := blk_frozen BK101.out 1; have hfz14_2 := blk_frozen BK101.out 2; have hfz14_3 := blk_frozen BK101.out 3; have hfz14_4 := blk_frozen BK101.out 4; have hfz14_5 := blk_frozen BK101.out 5; have hfz14_6 := blk_frozen BK101.out 6; have hfz14_7 := blk_frozen BK101.out 7) | ((with_reducible refine gate_callee (f := 16) rfl ?_); refine goesL_ (some 19) rfl rfl Tryd.func16 (by kernel_rfl) rfl #[.string a0_0, .string a0_1] rfl (by (try simp only [List.map_toArray, List.map_cons, List.map_nil]); rfl) ?_; (with_reducible refine (measure_Alike.calls k a0_0 a0_1 t104 t105 _ ?sGl A5.out).mono ?_); (case sGl => exact Gl.below HGl.out (by repeat ((with_reducible (exact HB.out))))); rintro e w15 ⟨rfl, hb⟩; refine ⟨_, rfl, ?_⟩; have n0_ := Aside0.mk (blk_below (g := gb101) (o := .cells #[.string a0_0, .string a0_1, .string a0_2, .slice A0_3 l0_3.length c0_3, .slice A0_4 l0_4.length c0_4, .int .i64 a0_5, .int .i64 a0_6, .int .i64 a0_7] 24 (0, 0)) (by (with_reducible skip); exact BK101.out) hb); have n1_ := Aside0.mk (below_step (by repeat ((with_reducible (exact HB.out)))) hb); clear BK101; clear HB; have BK101 := n0_; have HB := n1_; clear n0_ n1_; (try clear hb)) | ((with_reducible refine gate_dst (N := 4) rfl ?_); (try (refine gate_guard (by rfl) ?_; dsimp only)); refine box_event ?hg (N := 4) ?hd (cs := #[.int .i64 0, .int .i64 0]) (t := 32) ?hr ?_; (case hd => rfl); (case hg => rfl); (case hr => (go_simp; done)); intro gb106 hg w16 hbox hb; have n0_ := Aside0.mk (blk_below (g := gb101) (o := .cells #[.string a0_0, .string a0_1, .string a0_2, .slice A0_3 l0_3.length c0_3, .slice A0_4 l0_4.length c0_4, .int .i64 a0_5, .int .i64 a0_6, .int .i64 a0_7] 24 (0, 0)) (by (with_reducible skip); exact BK101.out) hb); have n1_ := Aside0.mk (below_step (by repeat ((with_reducible (exact HB.out)))) hb); have n2_ := Aside0.mk (hbox); have n3_ := Aside0.mk ((by rw [hg]; exact (below_size (by repeat ((with_reducible (exact HB.out))))) : w.heap.size ≤ gb106)); have n4_ := Aside0.mk ((by rw [hg]; exact (below_size (by repeat ((with_reducible (exact HB.out))))) : w.heap.size ≤ gb106)); have n5_ := Aside0.mk ((by rw [hg]; exact Nat.ne_of_lt (blk_lt (g := gb101) (o := .cells #[.string a0_0, .string a0_1, .string a0_2, .slice A0_3 l0_3.length c0_3, .slice A0_4 l0_4.length c0_4, .int .i64 a0_5, .int .i64 a0_6, .int .i64 a0_7] 24 (0, 0)) (by (with_reducible skip); exact BK101.out)) : gb101 ≠ gb106)); have n6_ := Aside0.mk ((by rw [hg]; exact Nat.ne_of_gt (blk_lt (g := gb101) (o := .cells #[.string a0_0, .string a0_1, .string a0_2, .slice A0_3 l0_3.length c0_3, .slice A0_4 l0_4.length c0_4, .int .i64 a0_5, .int .i64 a0_6, .int .i64 a0_7] 24 (0, 0)) (by (with_reducible skip); exact BK101.out)) : gb106 ≠ gb101)); clear BK101; clear HB; have BK101 := n0_; have HB := n1_; have BK106 := n2_; have GW106 := n3_; have GE106 := n4_; have NB101_106 := n5_; have NB106_101 := n6_; clear n0_ n1_ n2_ n3_ n4_ n5_ n6_; clear hb hbox hg; have hnb17 := NB106_101.out; have hnc17 := NB101_106.out; have hcz18_0 : w16.cell? ⟨gb106, 0, none⟩ = some (.int .i64 0) := (blk_cell BK106.out 0).trans rfl; have hcz18_1 : w16.cell? ⟨gb106, 1, none⟩ = some (.int .i64 0) := (blk_cell BK106.out 1).trans rfl; have hfz18_0 := blk_frozen BK106.out 0; have hfz18_1 := blk_frozen BK106.out 1; have hcz19_0 : w16.cell? ⟨gb101, 0, none⟩ = some (.string a0_0) := (blk_cell BK101.out 0).trans rfl; have hcz19_1 : w16.cell? ⟨gb101, 1, none⟩ = some (.string a0_1) := (blk_cell BK101.out 1).trans rfl; have hcz19_2 : w16.cell? ⟨gb101, 2, none⟩ = some (.string a0_2) := (blk_cell BK101.out 2).trans rfl; have hcz19_3 : w16.cell? ⟨gb101, 3, none⟩ = some (.slice A0_3 l0_3.length c0_3) := (blk_cell BK101.out 3).trans rfl; have hcz19_4 : w16.cell? ⟨gb101, 4, none⟩ = some (.slice A0_4 l0_4.length c0_4) := (blk_cell BK101.out 4).trans rfl; have hcz19_5 : w16.cell? ⟨gb101, 5, none⟩ = some (.int .i64 a0_5) := (blk_cell BK101.out 5).trans rfl; have hcz19_6 : w16.cell? ⟨gb101, 6, none⟩ = some (.int .i64 a0_6) := (blk_cell BK101.out 6).trans rfl; have hcz19_7 : w16.cell? ⟨gb101, 7, none⟩ = some (.int .i64 a0_7) := (blk_cell BK101.out 7).trans rfl; have hfz19_0 := blk_frozen BK101.out 0; have hfz19_1 := blk_frozen BK101.out 1; have hfz19_2 := blk_frozen BK101.out 2; have hfz19_3 := blk_frozen BK101.out 3; have hfz19_4 := blk_frozen BK101.out 4; have hfz19_5 := blk_frozen BK101.out 5; have hfz19_6 := blk_frozen BK101.out 6; have hfz19_7 := blk_frozen BK101.out 7) | ((with_reducible refine gate_callee (f := 18) rfl ?_); refine goesL_ (some 24) rfl rfl Tryd.func18 (by kernel_rfl) rfl #[.slice A0_3 l0_3.length c0_3, .slice A0_4 l0_4.length c0_4] rfl (by (try simp only [List.map_toArray, List.map_cons, List.map_nil]); rfl) ?_; (with_reducible refine (measure_Jaccard.calls k _ _ l0_3 _ _ l0_4 t107 t108 _ ?side1 ?side2 ?side3 ?side4 ?sGl A6.out).mono ?_); (case sGl => exact Gl.below HGl.out (by repeat ((with_reducible first | exact HB.out | refine below_set ?_ (Aside0.out (by assumption)))))); (case side1 => exact Kd.C_below HR0_3.out (by repeat ((with_reducible first | exact HB.out | refine below_set ?_ GE106.out)))); (case side2 => exact HC0_3.out); (case side3 => exact Kd.C_below HR0_4.out (by repeat ((with_reducible first | exact HB.out | refine below_set ?_ GE106.out)))); (case side4 => exact HC0_4.out); rintro e w20 ⟨rfl, hb⟩; refine ⟨_, rfl, ?_⟩; have n0_ := Aside0.mk (blk_below (g := gb101) (o := .cells #[.string a0_0, .string a0_1, .string a0_2, .slice A0_3 l0_3.length c0_3, .slice A0_4 l0_4.length c0_4, .int .i64 a0_5, .int .i64 a0_6, .int .i64 a0_7] 24 (0, 0)) (by (with_reducible skip); refine blk_far ?_ NB101_106.out _; (with_reducible skip); refine blk_far ?_ NB101_106.out _; (with_reducible skip); exact BK101.out) hb); have n1_ := Aside0.mk (blk_below (g := gb106) (o := .cells #[.int .i64 t104, .int .i64 t105] 32 (0, 0)) (by (with_reducible skip); refine blk_put (cs := #[.int .i64 t104, .int .i64 0]) ?_ 1 _ rfl; (with_reducible skip); refine blk_put (cs := #[.int .i64 0, .int .i64 0]) ?_ 0 _ rfl; (with_reducible skip); exact BK106.out) hb); have n2_ := Aside0.mk (below_step (by repeat ((with_reducible first | exact HB.out | refine below_set ?_ GE106.out))) hb); clear BK101; clear BK106; clear HB; have BK101 := n0_; have BK106 := n1_; have HB := n2_; clear n0_ n1_ n2_; (try clear hb)) | ((with_reducible refine gate_dst (N := 5) rfl ?_); (try (refine gate_guard (by rfl) ?_; dsimp only)); refine box_event ?hg (N := 5) ?hd (cs := #[.int .i64 0, .int .i64 0]) (t := 32) ?hr ?_; (case hd => rfl); (case hg => rfl); (case hr => (go_simp; done)); intro gb109 hg w21 hbox hb; have n0_ := Aside0.mk (blk_below (g := gb101) (o := .cells #[.string a0_0, .string a0_1, .string a0_2, .slice A0_3 l0_3.length c0_3, .slice A0_4 l0_4.length c0_4, .int .i64 a0_5, .int .i64 a0_6, .int .i64 a0_7] 24 (0, 0)) (by (with_reducible skip); exact BK101.out) hb); have n1_ := Aside0.mk (blk_below (g := gb106) (o := .cells #[.int .i64 t104, .int .i64 t105] 32 (0, 0)) (by (with_reducible skip); exact BK106.out) hb); have n2_ := Aside0.mk (below_step (by repeat ((with_reducible (exact HB.out)))) hb); have n3_ := Aside0.mk (hbox); have n4_ := Aside0.mk ((by rw [hg]; exact (below_size (by repeat ((with_reducible (exact HB.out))))) : w.heap.size ≤ gb109)); have n5_ := Aside0.mk ((by rw [hg]; exact (below_size (by repeat ((with_reducible (exact HB.out))))) : w.heap.size ≤ gb109)); have n6_ := Aside0.mk ((by rw [hg]; exact Nat.ne_of_lt (blk_lt (g := gb101) (o := .cells #[.string a0_0, .string a0_1, .string a0_2, .slice A0_3 l0_3.length c0_3, .slice A0_4 l0_4.length c0_4, .int .i64 a0_5, .int .i64 a0_6, .int .i64 a0_7] 24 (0, 0)) (by (with_reducible skip); exact BK101.out)) : gb101 ≠ gb109)); have n7_ := Aside0.mk ((by rw [hg]; exact Nat.ne_of_gt (blk_lt (g := gb101) (o := .cells #[.string a0_0, .string a0_1, .string a0_2, .slice A0_3 l0_3.length c0_3, .slice A0_4 l0_4.length c0_4, .int .i64 a0_5, .int .i64 a0_6, .int .i64 a0_7] 24 (0, 0)) (by (with_reducible skip); exact BK101.out)) : gb109 ≠ gb101)); have n8_ := Aside0.mk ((by rw [hg]; exact Nat.ne_of_lt (blk_lt (g := gb106) (o := .cells #[.int .i64 t104, .int .i64 t105] 32 (0, 0)) (by (with_reducible skip); exact BK106.out)) : gb106 ≠ gb109)); have n9_ := Aside0.mk ((by rw [hg]; exact Nat.ne_of_gt (blk_lt (g := gb106) (o := .cells #[.int .i64 t104, .int .i64 t105] 32 (0, 0)) (by (with_reducible skip); exact BK106.out)) : gb109 ≠ gb106)); clear BK101; clear BK106; clear HB; have BK101 := n0_; have BK106 := n1_; have HB := n2_; have BK109 := n3_; have GW109 := n4_; have GE109 := n5_; have NB101_109 := n6_; have NB109_101 := n7_; have NB106_109 := n8_; have NB109_106 := n9_; clear n0_ n1_ n2_ n3_ n4_ n5_ n6_ n7_ n8_ n9_; clear hb hbox hg; have hnb22 := NB109_101.out; have hnc22 := NB101_109.out; have hnb23 := NB109_106.out; have hnc23 := NB106_109.out; have hcz24_0 : w21.cell? ⟨gb109, 0, none⟩ = some (.int .i64 0) := (blk_cell BK109.out 0).trans rfl; have hcz24_1 : w21.cell? ⟨gb109, 1, none⟩ = some (.int .i64 0) := (blk_cell BK109.out 1).trans rfl; have hfz24_0 := blk_frozen BK109.out 0; have hfz24_1 := blk_frozen BK109.out 1; have hcz25_0 : w21.cell? ⟨gb101, 0, none⟩ = some (.string a0_0) := (blk_cell BK101.out 0).trans rfl; have hcz25_1 : w21.cell? ⟨gb101, 1, none⟩ = some (.string a0_1) := (blk_cell BK101.out 1).trans rfl; have hcz25_2 : w21.cell? ⟨gb101, 2, none⟩ = some (.string a0_2) := (blk_cell BK101.out 2).trans rfl; have hcz25_3 : w21.cell? ⟨gb101, 3, none⟩ = some (.slice A0_3 l0_3.length c0_3) := (blk_cell BK101.out 3).trans rfl; have hcz25_4 : w21.cell? ⟨gb101, 4, none⟩ = some (.slice A0_4 l0_4.length c0_4) := (blk_cell BK101.out 4).trans rfl; have hcz25_5 : w21.cell? ⟨gb101, 5, none⟩ = some (.int .i64 a0_5) := (blk_cell BK101.out 5).trans rfl; have hcz25_6 : w21.cell? ⟨gb101, 6, none⟩ = some (.int .i64 a0_6) := (blk_cell BK101.out 6).trans rfl; have hcz25_7 : w21.cell? ⟨gb101, 7, none⟩ = some (.int .i64 a0_7) := (blk_cell BK101.out 7).trans rfl; have hfz25_0 := blk_frozen BK101.out 0; have hfz25_1 := blk_frozen BK101.out 1; have hfz25_2 := blk_frozen BK101.out 2; have hfz25_3 := blk_frozen BK101.out 3; have hfz25_4 := blk_frozen BK101.out 4; have hfz25_5 := blk_frozen BK101.out 5; have hfz25_6 := blk_frozen BK101.out 6; have hfz25_7 := blk_frozen BK101.out 7) | ((with_reducible refine gate_callee (f := 22) rfl ?_); refine goesL_ (some 29) rfl rfl Tryd.func22 (by kernel_rfl) rfl #[.string a0_0, .string a0_1] rfl (by (try simp only [List.map_toArray, List.map_cons, List.map_nil]); rfl) ?_; (with_reducible refine (measure_Jaro.calls k a0_0 a0_1 t110 t111 _ ?sGl A7.out).mono ?_); (case sGl => exact Gl.below HGl.out (by repeat ((with_reducible first | exact HB.out | refine below_set ?_ (Aside0.out (by assumption)))))); rintro e w26 ⟨rfl, hb⟩; refine ⟨_, rfl, ?_⟩; have n0_ := Aside0.mk (blk_below (g := gb101) (o := .cells #[.string a0_0, .string a0_1, .string a0_2, .slice A0_3 l0_3.length c0_3, .slice A0_4 l0_4.length c0_4, .int .i64 a0_5, .int .i64 a0_6, .int .i64 a0_7] 24 (0, 0)) (by (with_reducible skip); refine blk_far ?_ NB101_109.out _; (with_reducible skip); refine blk_far ?_ NB101_109.out _; (with_reducible skip); exact BK101.out) hb); have n1_ := Aside0.mk (blk_below (g := gb106) (o := .cells #[.int .i64 t104, .int .i64 t105] 32 (0, 0)) (by (with_reducible skip); refine blk_far ?_ NB106_109.out _; (with_reducible skip); refine blk_far ?_ NB106_109.out _; (with_reducible skip); exact BK106.out) hb); have n2_ := Aside0.mk (blk_below (g := gb109) (o := .cells #[.int .i64 t107, .int .i64 t108] 32 (0, 0)) (by (with_reducible skip); refine blk_put (cs := #[.int .i64 t107, .int .i64 0]) ?_ 1 _ rfl; (with_reducible skip); refine blk_put (cs := #[.int .i64 0, .int .i64 0]) ?_ 0 _ rfl; (with_reducible skip); exact BK109.out) hb); have n3_ := Aside0.mk (below_step (by repeat ((with_reducible first | exact HB.out | refine below_set ?_ GE109.out))) hb); clear BK101; clear BK106; clear BK109; clear HB; have BK101 := n0_; have BK106 := n1_; have BK109 := n2_; have HB := n3_; clear n0_ n1_ n2_ n3_; (try clear hb)) | ((with_reducible refine gate_dst (N := 6) rfl ?_); (try (refine gate_guard (by rfl) ?_; dsimp only)); refine box_event ?hg (N := 6) ?hd (cs := #[.int .i64 0, .int .i64 0]) (t := 32) ?hr ?_; (case hd => rfl); (case hg => rfl); (case hr => (go_simp; done)); intro gb112 hg w27 hbox hb; have n0_ := Aside0.mk (blk_below (g := gb101) (o := .cells #[.string a0_0, .string a0_1, .string a0_2, .slice A0_3 l0_3.length c0_3, .slice A0_4 l0_4.length c0_4, .int .i64 a0_5, .int .i64 a0_6, .int .i64 a0_7] 24 (0, 0)) (by (with_reducible skip); exact BK101.out) hb); have n1_ := Aside0.mk (blk_below (g := gb106) (o := .cells #[.int .i64 t104, .int .i64 t105] 32 (0, 0)) (by (with_reducible skip); exact BK106.out) hb); have n2_ := Aside0.mk (blk_below (g := gb109) (o := .cells #[.int .i64 t107, .int .i64 t108] 32 (0, 0)) (by (with_reducible skip); exact BK109.out) hb); have n3_ := Aside0.mk (below_step (by repeat ((with_reducible (exact HB.out)))) hb); have n4_ := Aside0.mk (hbox); have n5_ := Aside0.mk ((by rw [hg]; exact (below_size (by repeat ((with_reducible (exact HB.out))))) : w.heap.size ≤ gb112)); have n6_ := Aside0.mk ((by rw [hg]; exact (below_size (by repeat ((with_reducible (exact HB.out))))) : w.heap.size ≤ gb112)); have n7_ := Aside0.mk ((by rw [hg]; exact Nat.ne_of_lt (blk_lt (g := gb101) (o := .cells #[.string a0_0, .string a0_1, .string a0_2, .slice A0_3 l0_3.length c0_3, .slice A0_4 l0_4.length c0_4, .int .i64 a0_5, .int .i64 a0_6, .int .i64 a0_7] 24 (0, 0)) (by (with_reducible skip); exact BK101.out)) : gb101 ≠ gb112)); have n8_ := Aside0.mk ((by rw [hg]; exact Nat.ne_of_gt (blk_lt (g := gb101) (o := .cells #[.string a0_0, .string a0_1, .string a0_2, .slice A0_3 l0_3.length c0_3, .slice A0_4 l0_4.length c0_4, .int .i64 a0_5, .int .i64 a0_6, .int .i64 a0_7] 24 (0, 0)) (by (with_reducible skip); exact BK101.out)) : gb112 ≠ gb101)); have n9_ := Aside0.mk ((by rw [hg]; exact Nat.ne_of_lt (blk_lt (g := gb106) (o := .cells #[.int .i64 t104, .int .i64 t105] 32 (0, 0)) (by (with_reducible skip); exact BK106.out)) : gb106 ≠ gb112)); have n10_ := Aside0.mk ((by rw [hg]; exact Nat.ne_of_gt (blk_lt (g := gb106) (o := .cells #[.int .i64 t104, .int .i64 t105] 32 (0, 0)) (by (with_reducible skip); exact BK106.out)) : gb112 ≠ gb106)); have n11_ := Aside0.mk ((by rw [hg]; exact Nat.ne_of_lt (blk_lt (g := gb109) (o := .cells #[.int .i64 t107, .int .i64 t108] 32 (0, 0)) (by (with_reducible skip); exact BK109.out)) : gb109 ≠ gb112)); have n12_ := Aside0.mk ((by rw [hg]; exact Nat.ne_of_gt (blk_lt (g := gb109) (o := .cells #[.int .i64 t107, .int .i64 t108] 32 (0, 0)) (by (with_reducible skip); exact BK109.out)) : gb112 ≠ gb109)); clear BK101; clear BK106; clear BK109; clear HB; have BK101 := n0_; have BK106 := n1_; have BK109 := n2_; have HB := n3_; have BK112 := n4_; have GW112 := n5_; have GE112 := n6_; have NB101_112 := n7_; have NB112_101 := n8_; have NB106_112 := n9_; have NB112_106 := n10_; have NB109_112 := n11_; have NB112_109 := n12_; clear n0_ n1_ n2_ n3_ n4_ n5_ n6_ n7_ n8_ n9_ n10_ n11_ n12_; clear hb hbox hg; have hnb28 := NB112_101.out; have hnc28 := NB101_112.out; have hnb29 := NB112_106.out; have hnc29 := NB106_112.out; have hnb30 := NB112_109.out; have hnc30 := NB109_112.out; have hcz31_0 : w27.cell? ⟨gb112, 0, none⟩ = some (.int .i64 0) := (blk_cell BK112.out 0).trans rfl; have hcz31_1 : w27.cell? ⟨gb112, 1, none⟩ = some (.int .i64 0) := (blk_cell BK112.out 1).trans rfl; have hfz31_0 := blk_frozen BK112.out 0; have hfz31_1 := blk_frozen BK112.out 1; have hcz32_0 : w27.cell? ⟨gb101, 0, none⟩ = some (.string a0_0) := (blk_cell BK101.out 0).trans rfl; have hcz32_1 : w27.cell? ⟨gb101, 1, none⟩ = some (.string a0_1) := (blk_cell BK101.out 1).trans rfl; have hcz32_2 : w27.cell? ⟨gb101, 2, none⟩ = some (.string a0_2) := (blk_cell BK101.out 2).trans rfl; have hcz32_3 : w27.cell? ⟨gb101, 3, none⟩ = some (.slice A0_3 l0_3.length c0_3) := (blk_cell BK101.out 3).trans rfl; have hcz32_4 : w27.cell? ⟨gb101, 4, none⟩ = some (.slice A0_4 l0_4.length c0_4) := (blk_cell BK101.out 4).trans rfl; have hcz32_5 : w27.cell? ⟨gb101, 5, none⟩ = some (.int .i64 a0_5) := (blk_cell BK101.out 5).trans rfl; have hcz32_6 : w27.cell? ⟨gb101, 6, none⟩ = some (.int .i64 a0_6) := (blk_cell BK101.out 6).trans rfl; have hcz32_7 : w27.cell? ⟨gb101, 7, none⟩ = some (.int .i64 a0_7) := (blk_cell BK101.out 7).trans rfl; have hfz32_0 := blk_frozen BK101.out 0; have hfz32_1 := blk_frozen BK101.out 1; have hfz32_2 := blk_frozen BK101.out 2; have hfz32_3 := blk_frozen BK101.out 3; have hfz32_4 := blk_frozen BK101.out 4; have hfz32_5 := blk_frozen BK101.out 5; have hfz32_6 := blk_frozen BK101.out 6; have hfz32_7 := blk_frozen BK101.out 7) | ((with_reducible refine gate_callee (f := 24) rfl ?_); refine goesL_ (some 36) rfl rfl Tryd.func24 (by kernel_rfl) rfl #[.int .i64 a0_5, .int .i64 a0_6, .int .i64 a0_7] rfl (by (try simp only [List.map_toArray, List.map_cons, List.map_nil]); rfl) ?_; (with_reducible refine (measure_Near.calls k a0_5 a0_6 a0_7 t113 t114 _ ?sGl A8.out).mono ?_); (case sGl => exact Gl.below HGl.out (by repeat ((with_reducible first | exact HB.out | refine below_set ?_ (Aside0.out (by assumption)))))); rintro e w33 ⟨rfl, hb⟩; refine ⟨_, rfl, ?_⟩; have n0_ := Aside0.mk (blk_below (g := gb101) (o := .cells #[.string a0_0, .string a0_1, .string a0_2, .slice A0_3 l0_3.length c0_3, .slice A0_4 l0_4.length c0_4, .int .i64 a0_5, .int .i64 a0_6, .int .i64 a0_7] 24 (0, 0)) (by (with_reducible skip); refine blk_far ?_ NB101_112.out _; (with_reducible skip); refine blk_far ?_ NB101_112.out _; (with_reducible skip); exact BK101.out) hb); have n1_ := Aside0.mk (blk_below (g := gb106) (o := .cells #[.int .i64 t104, .int .i64 t105] 32 (0, 0)) (by (with_reducible skip); refine blk_far ?_ NB106_112.out _; (with_reducible skip); refine blk_far ?_ NB106_112.out _; (with_reducible skip); exact BK106.out) hb); have n2_ := Aside0.mk (blk_below (g := gb109) (o := .cells #[.int .i64 t107, .int .i64 t108] 32 (0, 0)) (by (with_reducible skip); refine blk_far ?_ NB109_112.out _; (with_reducible skip); refine blk_far ?_ NB109_112.out _; (with_reducible skip); exact BK109.out) hb); have n3_ := Aside0.mk (blk_below (g := gb112) (o := .cells #[.int .i64 t110, .int .i64 t111] 32 (0, 0)) (by (with_reducible skip); refine blk_put (cs := #[.int .i64 t110, .int .i64 0]) ?_ 1 _ rfl; (with_reducible skip); refine blk_put (cs := #[.int .i64 0, .int .i64 0]) ?_ 0 _ rfl; (with_reducible skip); exact BK112.out) hb); have n4_ := Aside0.mk (below_step (by repeat ((with_reducible first | exact HB.out | refine below_set ?_ GE112.out))) hb); clear BK101; clear BK106; clear BK109; clear BK112; clear HB; have BK101 := n0_; have BK106 := n1_; have BK109 := n2_; have BK112 := n3_; have HB := n4_; clear n0_ n1_ n2_ n3_ n4_; (try clear hb)) | ((with_reducible refine gate_dst (N := 7) rfl ?_); (try (refine gate_guard (by rfl) ?_; dsimp only)); refine box_event ?hg (N := 7) ?hd (cs := #[.int .i64 0, .int .i64 0]) (t := 32) ?hr ?_; (case hd => rfl); (case hg => rfl); (case hr => (go_simp; done)); intro gb115 hg w34 hbox hb; have n0_ := Aside0.mk (blk_below (g := gb101) (o := .cells #[.string a0_0, .string a0_1, .string a0_2, .slice A0_3 l0_3.length c0_3, .slice A0_4 l0_4.length c0_4, .int .i64 a0_5, .int .i64 a0_6, .int .i64 a0_7] 24 (0, 0)) (by (with_reducible skip); exact BK101.out) hb); have n1_ := Aside0.mk (blk_below (g := gb106) (o := .cells #[.int .i64 t104, .int .i64 t105] 32 (0, 0)) (by (with_reducible skip); exact BK106.out) hb); have n2_ := Aside0.mk (blk_below (g := gb109) (o := .cells #[.int .i64 t107, .int .i64 t108] 32 (0, 0)) (by (with_reducible skip); exact BK109.out) hb); have n3_ := Aside0.mk (blk_below (g := gb112) (o := .cells #[.int .i64 t110, .int .i64 t111] 32 (0, 0)) (by (with_reducible skip); exact BK112.out) hb); have n4_ := Aside0.mk (below_step (by repeat ((with_reducible (exact HB.out)))) hb); have n5_ := Aside0.mk (hbox); have n6_ := Aside0.mk ((by rw [hg]; exact (below_size (by repeat ((with_reducible (exact HB.out))))) : w.heap.size ≤ gb115)); have n7_ := Aside0.mk ((by rw [hg]; exact (below_size (by repeat ((with_reducible (exact HB.out))))) : w.heap.size ≤ gb115)); have n8_ := Aside0.mk ((by rw [hg]; exact Nat.ne_of_lt (blk_lt (g := gb101) (o := .cells #[.string a0_0, .string a0_1, .string a0_2, .slice A0_3 l0_3.length c0_3, .slice A0_4 l0_4.length c0_4, .int .i64 a0_5, .int .i64 a0_6, .int .i64 a0_7] 24 (0, 0)) (by (with_reducible skip); exact BK101.out)) : gb101 ≠ gb115)); have n9_ := Aside0.mk ((by rw [hg]; exact Nat.ne_of_gt (blk_lt (g := gb101) (o := .cells #[.string a0_0, .string a0_1, .string a0_2, .slice A0_3 l0_3.length c0_3, .slice A0_4 l0_4.length c0_4, .int .i64 a0_5, .int .i64 a0_6, .int .i64 a0_7] 24 (0, 0)) (by (with_reducible skip); exact BK101.out)) : gb115 ≠ gb101)); have n10_ := Aside0.mk ((by rw [hg]; exact Nat.ne_of_lt (blk_lt (g := gb106) (o := .cells #[.int .i64 t104, .int .i64 t105] 32 (0, 0)) (by (with_reducible skip); exact BK106.out)) : gb106 ≠ gb115)); have n11_ := Aside0.mk ((by rw [hg]; exact Nat.ne_of_gt (blk_lt (g := gb106) (o := .cells #[.int .i64 t104, .int .i64 t105] 32 (0, 0)) (by (with_reducible skip); exact BK106.out)) : gb115 ≠ gb106)); have n12_ := Aside0.mk ((by rw [hg]; exact Nat.ne_of_lt (blk_lt (g := gb109) (o := .cells #[.int .i64 t107, .int .i64 t108] 32 (0, 0)) (by (with_reducible skip); exact BK109.out)) : gb109 ≠ gb115)); have n13_ := Aside0.mk ((by rw [hg]; exact Nat.ne_of_gt (blk_lt (g := gb109) (o := .cells #[.int .i64 t107, .int .i64 t108] 32 (0, 0)) (by (with_reducible skip); exact BK109.out)) : gb115 ≠ gb109)); have n14_ := Aside0.mk ((by rw [hg]; exact Nat.ne_of_lt (blk_lt (g := gb112) (o := .cells #[.int .i64 t110, .int .i64 t111] 32 (0, 0)) (by (with_reducible skip); exact BK112.out)) : gb112 ≠ gb115)); have n15_ := Aside0.mk ((by rw [hg]; exact Nat.ne_of_gt (blk_lt (g := gb112) (o := .cells #[.int .i64 t110, .int .i64 t111] 32 (0, 0)) (by (with_reducible skip); exact BK112.out)) : gb115 ≠ gb112)); clear BK101; clear BK106; clear BK109; clear BK112; clear HB; have BK101 := n0_; have BK106 := n1_; have BK109 := n2_; have BK112 := n3_; have HB := n4_; have BK115 := n5_; have GW115 := n6_; have GE115 := n7_; have NB101_115 := n8_; have NB115_101 := n9_; have NB106_115 := n10_; have NB115_106 := n11_; have NB109_115 := n12_; have NB115_109 := n13_; have NB112_115 := n14_; have NB115_112 := n15_; clear n0_ n1_ n2_ n3_ n4_ n5_ n6_ n7_ n8_ n9_ n10_ n11_ n12_ n13_ n14_ n15_; clear hb hbox hg; have hnb35 := NB115_101.out; have hnc35 := NB101_115.out; have hnb36 := NB115_106.out; have hnc36 := NB106_115.out; have hnb37 := NB115_109.out; have hnc37 := NB109_115.out; have hnb38 := NB115_112.out; have hnc38 := NB112_115.out; have hcz39_0 : w34.cell? ⟨gb115, 0, none⟩ = some (.int .i64 0) := (blk_cell BK115.out 0).trans rfl; have hcz39_1 : w34.cell? ⟨gb115, 1, none⟩ = some (.int .i64 0) := (blk_cell BK115.out 1).trans rfl; have hfz39_0 := blk_frozen BK115.out 0; have hfz39_1 := blk_frozen BK115.out 1))
  go_cut [54] (fun v54 wc => ∃ (kq : Nat) (x54_8 : Bool), v54 = .bool x54_8 ∧ Aside0 (cleanselaw04_MeasureSimilar.j0 kq t102 x54_8 a0_0 a0_1 a0_2 l0_3 l0_4 a0_5 a0_6 a0_7 t104 t105 t107 t108 t110 t111 t113 t114 = some r) ∧ Aside0 (kq ≤ k) ∧ Aside0 (wc.heap[gb101]? = some (.cells #[.string a0_0, .string a0_1, .string a0_2, (.slice A0_3 l0_3.length c0_3), (.slice A0_4 l0_4.length c0_4), .int .i64 a0_5, .int .i64 a0_6, .int .i64 a0_7] 24 (0, 0))) ∧ Aside0 (wc.heap[gb106]? = some (.cells #[.int .i64 t104, .int .i64 t105] 32 (0, 0))) ∧ Aside0 (wc.heap[gb109]? = some (.cells #[.int .i64 t107, .int .i64 t108] 32 (0, 0))) ∧ Aside0 (wc.heap[gb112]? = some (.cells #[.int .i64 t110, .int .i64 t111] 32 (0, 0))) ∧ Aside0 (wc.heap[gb115]? = some (.cells #[.int .i64 t113, .int .i64 t114] 32 (0, 0))) ∧ Aside0 (Below w.heap.size w wc))
  case first =>
   have H := HC9.out
   clear HC9
   replace H := Option.bind_eq_some_iff.mp H
   obtain ⟨t116, A400, H⟩ := H
   replace H : (if t116 = true then ((cleanselaw04_unit.f k t107 t108).bind fun t117 => (if t117 = true then ((cleanselaw04_unit.f k t110 t111).bind fun t118 => (if t118 = true then ((cleanselaw04_unit.f k t113 t114).bind fun t119 => (cleanselaw04_MeasureSimilar.j0 k t102 (!t119) a0_0 a0_1 a0_2 l0_3 l0_4 a0_5 a0_6 a0_7 t104 t105 t107 t108 t110 t111 t113 t114)) else (cleanselaw04_MeasureSimilar.j0 k t102 true a0_0 a0_1 a0_2 l0_3 l0_4 a0_5 a0_6 a0_7 t104 t105 t107 t108 t110 t111 t113 t114))) else (cleanselaw04_MeasureSimilar.j0 k t102 true a0_0 a0_1 a0_2 l0_3 l0_4 a0_5 a0_6 a0_7 t104 t105 t107 t108 t110 t111 t113 t114))) else (cleanselaw04_MeasureSimilar.j0 k t102 true a0_0 a0_1 a0_2 l0_3 l0_4 a0_5 a0_6 a0_7 t104 t105 t107 t108 t110 t111 t113 t114)) = some r := H
   have A40 := Aside0.mk A400
   clear A400
   by_cases c41 : t116 = true
   ·subst c41
    have H1 : ((cleanselaw04_unit.f k t107 t108).bind fun t117 => (if t117 = true then ((cleanselaw04_unit.f k t110 t111).bind fun t118 => (if t118 = true then ((cleanselaw04_unit.f k t113 t114).bind fun t119 => (cleanselaw04_MeasureSimilar.j0 k t102 (!t119) a0_0 a0_1 a0_2 l0_3 l0_4 a0_5 a0_6 a0_7 t104 t105 t107 t108 t110 t111 t113 t114)) else (cleanselaw04_MeasureSimilar.j0 k t102 true a0_0 a0_1 a0_2 l0_3 l0_4 a0_5 a0_6 a0_7 t104 t105 t107 t108 t110 t111 t113 t114))) else (cleanselaw04_MeasureSimilar.j0 k t102 true a0_0 a0_1 a0_2 l0_3 l0_4 a0_5 a0_6 a0_7 t104 t105 t107 t108 t110 t111 t113 t114))) = some r := by rw [if_pos rfl] at H; exact H
    clear H
    have H := H1
    clear H1
    replace H := Option.bind_eq_some_iff.mp H
    obtain ⟨t117, A420, H⟩ := H
    replace H : (if t117 = true then ((cleanselaw04_unit.f k t110 t111).bind fun t118 => (if t118 = true then ((cleanselaw04_unit.f k t113 t114).bind fun t119 => (cleanselaw04_MeasureSimilar.j0 k t102 (!t119) a0_0 a0_1 a0_2 l0_3 l0_4 a0_5 a0_6 a0_7 t104 t105 t107 t108 t110 t111 t113 t114)) else (cleanselaw04_MeasureSimilar.j0 k t102 true a0_0 a0_1 a0_2 l0_3 l0_4 a0_5 a0_6 a0_7 t104 t105 t107 t108 t110 t111 t113 t114))) else (cleanselaw04_MeasureSimilar.j0 k t102 true a0_0 a0_1 a0_2 l0_3 l0_4 a0_5 a0_6 a0_7 t104 t105 t107 t108 t110 t111 t113 t114)) = some r := H
    have A42 := Aside0.mk A420
    clear A420
    by_cases c43 : t117 = true
    ·subst c43
     have H1 : ((cleanselaw04_unit.f k t110 t111).bind fun t118 => (if t118 = true then ((cleanselaw04_unit.f k t113 t114).bind fun t119 => (cleanselaw04_MeasureSimilar.j0 k t102 (!t119) a0_0 a0_1 a0_2 l0_3 l0_4 a0_5 a0_6 a0_7 t104 t105 t107 t108 t110 t111 t113 t114)) else (cleanselaw04_MeasureSimilar.j0 k t102 true a0_0 a0_1 a0_2 l0_3 l0_4 a0_5 a0_6 a0_7 t104 t105 t107 t108 t110 t111 t113 t114))) = some r := by rw [if_pos rfl] at H; exact H
     clear H
     have H := H1
     clear H1
     replace H := Option.bind_eq_some_iff.mp H
     obtain ⟨t118, A440, H⟩ := H
     replace H : (if t118 = true then ((cleanselaw04_unit.f k t113 t114).bind fun t119 => (cleanselaw04_MeasureSimilar.j0 k t102 (!t119) a0_0 a0_1 a0_2 l0_3 l0_4 a0_5 a0_6 a0_7 t104 t105 t107 t108 t110 t111 t113 t114)) else (cleanselaw04_MeasureSimilar.j0 k t102 true a0_0 a0_1 a0_2 l0_3 l0_4 a0_5 a0_6 a0_7 t104 t105 t107 t108 t110 t111 t113 t114)) = some r := H
     have A44 := Aside0.mk A440
     clear A440
     by_cases c45 : t118 = true
     ·subst c45
      have H1 : ((cleanselaw04_unit.f k t113 t114).bind fun t119 => (cleanselaw04_MeasureSimilar.j0 k t102 (!t119) a0_0 a0_1 a0_2 l0_3 l0_4 a0_5 a0_6 a0_7 t104 t105 t107 t108 t110 t111 t113 t114)) = some r := by rw [if_pos rfl] at H; exact H
      clear H
      have H := H1
      clear H1
      replace H := Option.bind_eq_some_iff.mp H
      obtain ⟨t119, A460, H⟩ := H
      replace H : (cleanselaw04_MeasureSimilar.j0 k t102 (!t119) a0_0 a0_1 a0_2 l0_3 l0_4 a0_5 a0_6 a0_7 t104 t105 t107 t108 t110 t111 t113 t114) = some r := H
      have A46 := Aside0.mk A460
      clear A460
      have H' := Aside0.mk H
      clear H
      have hnb47 := NB106_101.out
      have hnc47 := NB101_106.out
      have hnb48 := NB106_109.out
      have hnc48 := NB109_106.out
      have hnb49 := NB106_112.out
      have hnc49 := NB112_106.out
      have hnb50 := NB106_115.out
      have hnc50 := NB115_106.out
      have hcz51_0 : w34.cell? ⟨gb106, 0, none⟩ = some (.int .i64 t104) := (blk_cell BK106.out 0).trans rfl
      have hcz51_1 : w34.cell? ⟨gb106, 1, none⟩ = some (.int .i64 t105) := (blk_cell BK106.out 1).trans rfl
      have hfz51_0 := blk_frozen BK106.out 0
      have hfz51_1 := blk_frozen BK106.out 1
      go_wp2_with (first | ((with_reducible refine gate_callee (f := 26) rfl ?_); refine goesL_ (some 38) rfl rfl Tryd.func26 (by kernel_rfl) rfl #[.agg #[.int .i64 t104, .int .i64 t105]] rfl (by (try simp only [List.map_toArray, List.map_cons, List.map_nil]); rfl) ?_; (with_reducible refine (cleanselaw04_unit.calls k t104 t105 true _ A40.out).mono ?_); rintro e w52 ⟨rfl, hb⟩; refine ⟨_, rfl, ?_⟩; have n0_ := Aside0.mk (blk_below (g := gb101) (o := .cells #[.string a0_0, .string a0_1, .string a0_2, .slice A0_3 l0_3.length c0_3, .slice A0_4 l0_4.length c0_4, .int .i64 a0_5, .int .i64 a0_6, .int .i64 a0_7] 24 (0, 0)) (by (with_reducible skip); refine blk_far ?_ NB101_115.out _; (with_reducible skip); refine blk_far ?_ NB101_115.out _; (with_reducible skip); exact BK101.out) hb); have n1_ := Aside0.mk (blk_below (g := gb106) (o := .cells #[.int .i64 t104, .int .i64 t105] 32 (0, 0)) (by (with_reducible skip); refine blk_far ?_ NB106_115.out _; (with_reducible skip); refine blk_far ?_ NB106_115.out _; (with_reducible skip); exact BK106.out) hb); have n2_ := Aside0.mk (blk_below (g := gb109) (o := .cells #[.int .i64 t107, .int .i64 t108] 32 (0, 0)) (by (with_reducible skip); refine blk_far ?_ NB109_115.out _; (with_reducible skip); refine blk_far ?_ NB109_115.out _; (with_reducible skip); exact BK109.out) hb); have n3_ := Aside0.mk (blk_below (g := gb112) (o := .cells #[.int .i64 t110, .int .i64 t111] 32 (0, 0)) (by (with_reducible skip); refine blk_far ?_ NB112_115.out _; (with_reducible skip); refine blk_far ?_ NB112_115.out _; (with_reducible skip); exact BK112.out) hb); have n4_ := Aside0.mk (blk_below (g := gb115) (o := .cells #[.int .i64 t113, .int .i64 t114] 32 (0, 0)) (by (with_reducible skip); refine blk_put (cs := #[.int .i64 t113, .int .i64 0]) ?_ 1 _ rfl; (with_reducible skip); refine blk_put (cs := #[.int .i64 0, .int .i64 0]) ?_ 0 _ rfl; (with_reducible skip); exact BK115.out) hb); have n5_ := Aside0.mk (below_step (by repeat ((with_reducible first | exact HB.out | refine below_set ?_ GE115.out))) hb); clear BK101; clear BK106; clear BK109; clear BK112; clear BK115; clear HB; have BK101 := n0_; have BK106 := n1_; have BK109 := n2_; have BK112 := n3_; have BK115 := n4_; have HB := n5_; clear n0_ n1_ n2_ n3_ n4_ n5_; (try clear hb); have hnb53 := NB109_101.out; have hnc53 := NB101_109.out; have hnb54 := NB109_112.out; have hnc54 := NB112_109.out; have hnb55 := NB109_115.out; have hnc55 := NB115_109.out; have hcz56_0 : w52.cell? ⟨gb109, 0, none⟩ = some (.int .i64 t107) := (blk_cell BK109.out 0).trans rfl; have hcz56_1 : w52.cell? ⟨gb109, 1, none⟩ = some (.int .i64 t108) := (blk_cell BK109.out 1).trans rfl; have hfz56_0 := blk_frozen BK109.out 0; have hfz56_1 := blk_frozen BK109.out 1) | (go_at_call 26; (with_reducible refine (cleanselaw04_unit.calls k t107 t108 true _ A42.out).mono ?_); rintro e w57 ⟨rfl, hb⟩; have n0_ := Aside0.mk (blk_below (g := gb101) (o := .cells #[.string a0_0, .string a0_1, .string a0_2, .slice A0_3 l0_3.length c0_3, .slice A0_4 l0_4.length c0_4, .int .i64 a0_5, .int .i64 a0_6, .int .i64 a0_7] 24 (0, 0)) (by (with_reducible skip); exact BK101.out) hb); have n1_ := Aside0.mk (blk_below (g := gb106) (o := .cells #[.int .i64 t104, .int .i64 t105] 32 (0, 0)) (by (with_reducible skip); exact BK106.out) hb); have n2_ := Aside0.mk (blk_below (g := gb109) (o := .cells #[.int .i64 t107, .int .i64 t108] 32 (0, 0)) (by (with_reducible skip); exact BK109.out) hb); have n3_ := Aside0.mk (blk_below (g := gb112) (o := .cells #[.int .i64 t110, .int .i64 t111] 32 (0, 0)) (by (with_reducible skip); exact BK112.out) hb); have n4_ := Aside0.mk (blk_below (g := gb115) (o := .cells #[.int .i64 t113, .int .i64 t114] 32 (0, 0)) (by (with_reducible skip); exact BK115.out) hb); have n5_ := Aside0.mk (below_step (by repeat ((with_reducible (exact HB.out)))) hb); clear BK101; clear BK106; clear BK109; clear BK112; clear BK115; clear HB; have BK101 := n0_; have BK106 := n1_; have BK109 := n2_; have BK112 := n3_; have BK115 := n4_; have HB := n5_; clear n0_ n1_ n2_ n3_ n4_ n5_; (try clear hb); have hnb58 := NB112_101.out; have hnc58 := NB101_112.out; have hnb59 := NB112_115.out; have hnc59 := NB115_112.out; have hcz60_0 : w57.cell? ⟨gb112, 0, none⟩ = some (.int .i64 t110) := (blk_cell BK112.out 0).trans rfl; have hcz60_1 : w57.cell? ⟨gb112, 1, none⟩ = some (.int .i64 t111) := (blk_cell BK112.out 1).trans rfl; have hfz60_0 := blk_frozen BK112.out 0; have hfz60_1 := blk_frozen BK112.out 1) | (go_at_call 26; (with_reducible refine (cleanselaw04_unit.calls k t110 t111 true _ A44.out).mono ?_); rintro e w61 ⟨rfl, hb⟩; have n0_ := Aside0.mk (blk_below (g := gb101) (o := .cells #[.string a0_0, .string a0_1, .string a0_2, .slice A0_3 l0_3.length c0_3, .slice A0_4 l0_4.length c0_4, .int .i64 a0_5, .int .i64 a0_6, .int .i64 a0_7] 24 (0, 0)) (by (with_reducible skip); exact BK101.out) hb); have n1_ := Aside0.mk (blk_below (g := gb106) (o := .cells #[.int .i64 t104, .int .i64 t105] 32 (0, 0)) (by (with_reducible skip); exact BK106.out) hb); have n2_ := Aside0.mk (blk_below (g := gb109) (o := .cells #[.int .i64 t107, .int .i64 t108] 32 (0, 0)) (by (with_reducible skip); exact BK109.out) hb); have n3_ := Aside0.mk (blk_below (g := gb112) (o := .cells #[.int .i64 t110, .int .i64 t111] 32 (0, 0)) (by (with_reducible skip); exact BK112.out) hb); have n4_ := Aside0.mk (blk_below (g := gb115) (o := .cells #[.int .i64 t113, .int .i64 t114] 32 (0, 0)) (by (with_reducible skip); exact BK115.out) hb); have n5_ := Aside0.mk (below_step (by repeat ((with_reducible (exact HB.out)))) hb); clear BK101; clear BK106; clear BK109; clear BK112; clear BK115; clear HB; have BK101 := n0_; have BK106 := n1_; have BK109 := n2_; have BK112 := n3_; have BK115 := n4_; have HB := n5_; clear n0_ n1_ n2_ n3_ n4_ n5_; (try clear hb); have hnb62 := NB115_101.out; have hnc62 := NB101_115.out; have hcz63_0 : w61.cell? ⟨gb115, 0, none⟩ = some (.int .i64 t113) := (blk_cell BK115.out 0).trans rfl; have hcz63_1 : w61.cell? ⟨gb115, 1, none⟩ = some (.int .i64 t114) := (blk_cell BK115.out 1).trans rfl; have hfz63_0 := blk_frozen BK115.out 0; have hfz63_1 := blk_frozen BK115.out 1) | (go_at_call 26; (with_reducible refine (cleanselaw04_unit.calls k t113 t114 t119 _ A46.out).mono ?_); rintro e w64 ⟨rfl, hb⟩; have n0_ := Aside0.mk (blk_below (g := gb101) (o := .cells #[.string a0_0, .string a0_1, .string a0_2, .slice A0_3 l0_3.length c0_3, .slice A0_4 l0_4.length c0_4, .int .i64 a0_5, .int .i64 a0_6, .int .i64 a0_7] 24 (0, 0)) (by (with_reducible skip); exact BK101.out) hb); have n1_ := Aside0.mk (blk_below (g := gb106) (o := .cells #[.int .i64 t104, .int .i64 t105] 32 (0, 0)) (by (with_reducible skip); exact BK106.out) hb); have n2_ := Aside0.mk (blk_below (g := gb109) (o := .cells #[.int .i64 t107, .int .i64 t108] 32 (0, 0)) (by (with_reducible skip); exact BK109.out) hb); have n3_ := Aside0.mk (blk_below (g := gb112) (o := .cells #[.int .i64 t110, .int .i64 t111] 32 (0, 0)) (by (with_reducible skip); exact BK112.out) hb); have n4_ := Aside0.mk (blk_below (g := gb115) (o := .cells #[.int .i64 t113, .int .i64 t114] 32 (0, 0)) (by (with_reducible skip); exact BK115.out) hb); have n5_ := Aside0.mk (below_step (by repeat ((with_reducible (exact HB.out)))) hb); clear BK101; clear BK106; clear BK109; clear BK112; clear BK115; clear HB; have BK101 := n0_; have BK106 := n1_; have BK109 := n2_; have BK112 := n3_; have BK115 := n4_; have HB := n5_; clear n0_ n1_ n2_ n3_ n4_ n5_; (try clear hb)))
      go_meet
      case rel => exact ⟨_, (!t119), (by rfl), H', ⟨by omega⟩, ⟨by (with_reducible skip); exact BK101.out⟩, ⟨by (with_reducible skip); exact BK106.out⟩, ⟨by (with_reducible skip); exact BK109.out⟩, ⟨by (with_reducible skip); exact BK112.out⟩, ⟨by (with_reducible skip); exact BK115.out⟩, ⟨by repeat ((with_reducible (exact HB.out)))⟩⟩
     ·replace c45 := Bool.eq_false_iff.mpr c45
      subst c45
      have H1 : (cleanselaw04_MeasureSimilar.j0 k t102 true a0_0 a0_1 a0_2 l0_3 l0_4 a0_5 a0_6 a0_7 t104 t105 t107 t108 t110 t111 t113 t114) = some r := by rw [if_neg (show ¬ (false = true) by decide)] at H; exact H
      clear H
      have H := H1
      clear H1
      exact (cleanselaw04_MeasureSimilar.j0_true H HT.out).elim
    ·replace c43 := Bool.eq_false_iff.mpr c43
     subst c43
     have H1 : (cleanselaw04_MeasureSimilar.j0 k t102 true a0_0 a0_1 a0_2 l0_3 l0_4 a0_5 a0_6 a0_7 t104 t105 t107 t108 t110 t111 t113 t114) = some r := by rw [if_neg (show ¬ (false = true) by decide)] at H; exact H
     clear H
     have H := H1
     clear H1
     exact (cleanselaw04_MeasureSimilar.j0_true H HT.out).elim
   ·replace c41 := Bool.eq_false_iff.mpr c41
    subst c41
    have H1 : (cleanselaw04_MeasureSimilar.j0 k t102 true a0_0 a0_1 a0_2 l0_3 l0_4 a0_5 a0_6 a0_7 t104 t105 t107 t108 t110 t111 t113 t114) = some r := by rw [if_neg (show ¬ (false = true) by decide)] at H; exact H
    clear H
    have H := H1
    clear H1
    exact (cleanselaw04_MeasureSimilar.j0_true H HT.out).elim
  case rest =>
   clear HC9
   clear hcz12_0 hcz12_1 hcz12_2 hcz12_3 hcz12_4 hcz12_5 hcz12_6 hcz12_7 hcz14_0 hcz14_1 hcz14_2 hcz14_3 hcz14_4 hcz14_5 hcz14_6 hcz14_7 hcz18_0 hcz18_1 hcz19_0 hcz19_1 hcz19_2 hcz19_3 hcz19_4 hcz19_5 hcz19_6 hcz19_7 hcz24_0 hcz24_1 hcz25_0 hcz25_1 hcz25_2 hcz25_3 hcz25_4 hcz25_5 hcz25_6 hcz25_7 hcz31_0 hcz31_1 hcz32_0 hcz32_1 hcz32_2 hcz32_3 hcz32_4 hcz32_5 hcz32_6 hcz32_7 hcz39_0 hcz39_1
   clear hfz12_0 hfz12_1 hfz12_2 hfz12_3 hfz12_4 hfz12_5 hfz12_6 hfz12_7 hfz14_0 hfz14_1 hfz14_2 hfz14_3 hfz14_4 hfz14_5 hfz14_6 hfz14_7 hfz18_0 hfz18_1 hfz19_0 hfz19_1 hfz19_2 hfz19_3 hfz19_4 hfz19_5 hfz19_6 hfz19_7 hfz24_0 hfz24_1 hfz25_0 hfz25_1 hfz25_2 hfz25_3 hfz25_4 hfz25_5 hfz25_6 hfz25_7 hfz31_0 hfz31_1 hfz32_0 hfz32_1 hfz32_2 hfz32_3 hfz32_4 hfz32_5 hfz32_6 hfz32_7 hfz39_0 hfz39_1
   obtain ⟨kq, x54_8, rfl, HA, HJ8, BK101, BK106, BK109, BK112, BK115, HB⟩ := hcut
   cases kq with
   | zero => exact absurd HA.out (by simp [cleanselaw04_MeasureSimilar.j0])
   | succ kj8 =>
    have H := HA.out
    clear HA
    simp only [cleanselaw04_MeasureSimilar.j0] at H
    by_cases c65 : x54_8 = true
    ·subst c65
     have H1 : (some false) = some r := by rw [if_pos rfl] at H; exact H
     clear H
     have H := H1
     clear H1
     exact absurd ((Option.some.inj H).trans HT.out) (by decide)
    ·replace c65 := Bool.eq_false_iff.mpr c65
     subst c65
     have H1 : ((measure_Alike.f kj8 a0_1 a0_0).bind fun bt120 => (if (!(bt120.1 == t104) || (!(bt120.2 == t105))) = true then (cleanselaw04_MeasureSimilar.j1 kj8 t102 true a0_0 a0_1 a0_2 l0_3 l0_4 a0_5 a0_6 a0_7) else ((measure_Jaccard.f kj8 l0_4 l0_3).bind fun bt122 => (if (!(bt122.1 == t107) || (!(bt122.2 == t108))) = true then (cleanselaw04_MeasureSimilar.j1 kj8 t102 true a0_0 a0_1 a0_2 l0_3 l0_4 a0_5 a0_6 a0_7) else ((measure_Jaro.f kj8 a0_1 a0_0).bind fun bt124 => (if (!(bt124.1 == t110) || (!(bt124.2 == t111))) = true then (cleanselaw04_MeasureSimilar.j1 kj8 t102 true a0_0 a0_1 a0_2 l0_3 l0_4 a0_5 a0_6 a0_7) else ((measure_Near.f kj8 a0_6 a0_5 a0_7).bind fun bt126 => (cleanselaw04_MeasureSimilar.j1 kj8 t102 (!(bt126.1 == t113) || (!(bt126.2 == t114))) a0_0 a0_1 a0_2 l0_3 l0_4 a0_5 a0_6 a0_7)))))))) = some r := by rw [if_neg (show ¬ (false = true) by decide)] at H; exact H
     clear H
     have H := H1
     clear H1
     have HC66 := Aside0.mk H
     clear H
     go_upto_region 10 with (fail)
     go_cut [90] (fun v90 wc => ∃ (kq : Nat) (x90_65 : Bool), v90 = .bool x90_65 ∧ Aside0 (cleanselaw04_MeasureSimilar.j1 kq t102 x90_65 a0_0 a0_1 a0_2 l0_3 l0_4 a0_5 a0_6 a0_7 = some r) ∧ Aside0 (kq ≤ kj8) ∧ Aside0 (wc.heap[gb101]? = some (.cells #[.string a0_0, .string a0_1, .string a0_2, (.slice A0_3 l0_3.length c0_3), (.slice A0_4 l0_4.length c0_4), .int .i64 a0_5, .int .i64 a0_6, .int .i64 a0_7] 24 (0, 0))) ∧ Aside0 (wc.heap[gb106]? = some (.cells #[.int .i64 t104, .int .i64 t105] 32 (0, 0))) ∧ Aside0 (wc.heap[gb109]? = some (.cells #[.int .i64 t107, .int .i64 t108] 32 (0, 0))) ∧ Aside0 (wc.heap[gb112]? = some (.cells #[.int .i64 t110, .int .i64 t111] 32 (0, 0))) ∧ Aside0 (wc.heap[gb115]? = some (.cells #[.int .i64 t113, .int .i64 t114] 32 (0, 0))) ∧ Aside0 (Below w.heap.size w wc))
     case first =>
      have H := HC66.out
      clear HC66
      replace H := Option.bind_eq_some_iff.mp H
      obtain ⟨⟨t120, t121⟩, A670, H⟩ := H
      replace H : (if (!(t120 == t104) || (!(t121 == t105))) = true then (cleanselaw04_MeasureSimilar.j1 kj8 t102 true a0_0 a0_1 a0_2 l0_3 l0_4 a0_5 a0_6 a0_7) else ((measure_Jaccard.f kj8 l0_4 l0_3).bind fun bt122 => (if (!(bt122.1 == t107) || (!(bt122.2 == t108))) = true then (cleanselaw04_MeasureSimilar.j1 kj8 t102 true a0_0 a0_1 a0_2 l0_3 l0_4 a0_5 a0_6 a0_7) else ((measure_Jaro.f kj8 a0_1 a0_0).bind fun bt124 => (if (!(bt124.1 == t110) || (!(bt124.2 == t111))) = true then (cleanselaw04_MeasureSimilar.j1 kj8 t102 true a0_0 a0_1 a0_2 l0_3 l0_4 a0_5 a0_6 a0_7) else ((measure_Near.f kj8 a0_6 a0_5 a0_7).bind fun bt126 => (cleanselaw04_MeasureSimilar.j1 kj8 t102 (!(bt126.1 == t113) || (!(bt126.2 == t114))) a0_0 a0_1 a0_2 l0_3 l0_4 a0_5 a0_6 a0_7))))))) = some r := H
      have A67 := Aside0.mk A670
      clear A670
      by_cases c68 : (!(t120 == t104) || (!(t121 == t105))) = true
      ·rw [if_pos c68] at H
       have c68b0 : (!(t120 == t104) || (!(t121 == t105))) = true := c68
       clear c68
       exact (cleanselaw04_MeasureSimilar.j1_true H HT.out).elim
      ·rw [if_neg c68] at H
       have c68b0 : (!(t120 == t104) || (!(t121 == t105))) = false := by simpa using c68
       clear c68
       replace H := Option.bind_eq_some_iff.mp H
       obtain ⟨⟨t122, t123⟩, A690, H⟩ := H
       replace H : (if (!(t122 == t107) || (!(t123 == t108))) = true then (cleanselaw04_MeasureSimilar.j1 kj8 t102 true a0_0 a0_1 a0_2 l0_3 l0_4 a0_5 a0_6 a0_7) else ((measure_Jaro.f kj8 a0_1 a0_0).bind fun bt124 => (if (!(bt124.1 == t110) || (!(bt124.2 == t111))) = true then (cleanselaw04_MeasureSimilar.j1 kj8 t102 true a0_0 a0_1 a0_2 l0_3 l0_4 a0_5 a0_6 a0_7) else ((measure_Near.f kj8 a0_6 a0_5 a0_7).bind fun bt126 => (cleanselaw04_MeasureSimilar.j1 kj8 t102 (!(bt126.1 == t113) || (!(bt126.2 == t114))) a0_0 a0_1 a0_2 l0_3 l0_4 a0_5 a0_6 a0_7))))) = some r := H
       have A69 := Aside0.mk A690
       clear A690
       by_cases c70 : (!(t122 == t107) || (!(t123 == t108))) = true
       ·rw [if_pos c70] at H
        have c70b0 : (!(t122 == t107) || (!(t123 == t108))) = true := c70
        clear c70
        exact (cleanselaw04_MeasureSimilar.j1_true H HT.out).elim
       ·rw [if_neg c70] at H
        have c70b0 : (!(t122 == t107) || (!(t123 == t108))) = false := by simpa using c70
        clear c70
        replace H := Option.bind_eq_some_iff.mp H
        obtain ⟨⟨t124, t125⟩, A710, H⟩ := H
        replace H : (if (!(t124 == t110) || (!(t125 == t111))) = true then (cleanselaw04_MeasureSimilar.j1 kj8 t102 true a0_0 a0_1 a0_2 l0_3 l0_4 a0_5 a0_6 a0_7) else ((measure_Near.f kj8 a0_6 a0_5 a0_7).bind fun bt126 => (cleanselaw04_MeasureSimilar.j1 kj8 t102 (!(bt126.1 == t113) || (!(bt126.2 == t114))) a0_0 a0_1 a0_2 l0_3 l0_4 a0_5 a0_6 a0_7))) = some r := H
        have A71 := Aside0.mk A710
        clear A710
        by_cases c72 : (!(t124 == t110) || (!(t125 == t111))) = true
        ·rw [if_pos c72] at H
         have c72b0 : (!(t124 == t110) || (!(t125 == t111))) = true := c72
         clear c72
         exact (cleanselaw04_MeasureSimilar.j1_true H HT.out).elim
        ·rw [if_neg c72] at H
         have c72b0 : (!(t124 == t110) || (!(t125 == t111))) = false := by simpa using c72
         clear c72
         replace H := Option.bind_eq_some_iff.mp H
         obtain ⟨⟨t126, t127⟩, A730, H⟩ := H
         replace H : (cleanselaw04_MeasureSimilar.j1 kj8 t102 (!(t126 == t113) || (!(t127 == t114))) a0_0 a0_1 a0_2 l0_3 l0_4 a0_5 a0_6 a0_7) = some r := H
         have A73 := Aside0.mk A730
         clear A730
         have H' := Aside0.mk H
         clear H
         try go_wp2
         have n0_ := Aside0.mk (blk_drew BK101.out)
         have n1_ := Aside0.mk (blk_drew BK106.out)
         have n2_ := Aside0.mk (blk_drew BK109.out)
         have n3_ := Aside0.mk (blk_drew BK112.out)
         have n4_ := Aside0.mk (blk_drew BK115.out)
         have n5_ := Aside0.mk (below_drew1 HB.out)
         clear BK101
         clear BK106
         clear BK109
         clear BK112
         clear BK115
         clear HB
         have BK101 := n0_
         have BK106 := n1_
         have BK109 := n2_
         have BK112 := n3_
         have BK115 := n4_
         have HB := n5_
         clear n0_ n1_ n2_ n3_ n4_ n5_
         refine start_ (n := 36) (S := fun w' => w'.cell? ⟨gb101, 0, none⟩ = some (.string a0_0) ∧ w'.cell? ⟨gb101, 1, none⟩ = some (.string a0_1) ∧ w'.cell? ⟨gb101, 2, none⟩ = some (.string a0_2) ∧ w'.cell? ⟨gb101, 3, none⟩ = some (.slice A0_3 l0_3.length c0_3) ∧ w'.cell? ⟨gb101, 4, none⟩ = some (.slice A0_4 l0_4.length c0_4) ∧ w'.cell? ⟨gb101, 5, none⟩ = some (.int .i64 a0_5) ∧ w'.cell? ⟨gb101, 6, none⟩ = some (.int .i64 a0_6) ∧ w'.cell? ⟨gb101, 7, none⟩ = some (.int .i64 a0_7) ∧ w'.cell? ⟨gb106, 0, none⟩ = some (.int .i64 t104) ∧ w'.cell? ⟨gb106, 1, none⟩ = some (.int .i64 t105) ∧ w'.cell? ⟨gb109, 0, none⟩ = some (.int .i64 t107) ∧ w'.cell? ⟨gb109, 1, none⟩ = some (.int .i64 t108) ∧ w'.cell? ⟨gb112, 0, none⟩ = some (.int .i64 t110) ∧ w'.cell? ⟨gb112, 1, none⟩ = some (.int .i64 t111) ∧ w'.cell? ⟨gb115, 0, none⟩ = some (.int .i64 t113) ∧ w'.cell? ⟨gb115, 1, none⟩ = some (.int .i64 t114)) (ds := []) #[false, false, false, false, false, false, false, false, false, false, false, false, false, false, false, false, false, false, false, false, false, false, false, false, false, false, false, false, false, false, false, false, false, false, false, false] (by kernel_rfl) rfl rfl ⟨(blk_cell BK101.out 0).trans rfl, (blk_cell BK101.out 1).trans rfl, (blk_cell BK101.out 2).trans rfl, (blk_cell BK101.out 3).trans rfl, (blk_cell BK101.out 4).trans rfl, (blk_cell BK101.out 5).trans rfl, (blk_cell BK101.out 6).trans rfl, (blk_cell BK101.out 7).trans rfl, (blk_cell BK106.out 0).trans rfl, (blk_cell BK106.out 1).trans rfl, (blk_cell BK109.out 0).trans rfl, (blk_cell BK109.out 1).trans rfl, (blk_cell BK112.out 0).trans rfl, (blk_cell BK112.out 1).trans rfl, (blk_cell BK115.out 0).trans rfl, (blk_cell BK115.out 1).trans rfl⟩ (fun hHeld => ?_); refine with_tabW cleanselaw04_MeasureSimilar.tab10 cleanselaw04_MeasureSimilar.bits10 (fun HT_ HW_ => ?_)
         generalize wc.drew = w74 at BK101 BK106 BK109 BK112 BK115 HB hHeld ⊢
         refine pure_ (i := 0) (N := some 55) (v := ?_) (a' := ?_) #[true, false, false, false, false, false, false, false, false, false, false, false, false, false, false, false, false, false, false, false, false, false, false, false, false, false, false, false, false, false, false, false, false, false, false, false] rfl rfl (any_of HT_.out (by kernel_rfl)) (fun _ _ _ h => h) (Or.inl ⟨by rfl, ?_⟩) ?_ ?_
         rotate_left
         ·intro w'
          go_simp
          with_reducible rfl
         rotate_left
         ·simp only [Act.put, List.setIfInBounds_toArray, List.set_cons_zero, List.set_cons_succ, i64_w, i32_w]
          rfl
         refine pure_ (i := 2) (N := some 57) (v := ?_) (a' := ?_) #[true, false, true, false, false, false, false, false, false, false, false, false, false, false, false, false, false, false, false, false, false, false, false, false, false, false, false, false, false, false, false, false, false, false, false, false] rfl rfl (any_of HT_.out (by kernel_rfl)) (fun _ _ _ h => h) (Or.inl ⟨by rfl, ?_⟩) ?_ ?_
         rotate_left
         ·intro w'
          go_simp
          with_reducible rfl
         rotate_left
         ·simp only [Act.put, List.setIfInBounds_toArray, List.set_cons_zero, List.set_cons_succ, i64_w, i32_w]
          rfl
         refine take_ (i := 1) (N := some 56) (v := ?_) (a' := ?_) #[true, true, true, false, false, false, false, false, false, false, false, false, false, false, false, false, false, false, false, false, false, false, false, false, false, false, false, false, false, false, false, false, false, false, false, false] rfl rfl (take_ofW HT_.out HW_.out (by kernel_rfl)) (fun _ _ _ h => h) (Or.inl ⟨by rfl, ?_⟩) hHeld ?_ ?_
         rotate_left
         ·rintro w' ⟨s0, s1, s2, s3, s4, s5, s6, s7, s8, s9, s10, s11, s12, s13, s14, s15⟩
          go_simp
          with_reducible rfl
         rotate_left
         ·simp only [Act.put, List.setIfInBounds_toArray, List.set_cons_zero, List.set_cons_succ, i64_w, i32_w]
          rfl
         refine take_ (i := 3) (N := some 58) (v := ?_) (a' := ?_) #[true, true, true, true, false, false, false, false, false, false, false, false, false, false, false, false, false, false, false, false, false, false, false, false, false, false, false, false, false, false, false, false, false, false, false, false] rfl rfl (take_ofW HT_.out HW_.out (by kernel_rfl)) (fun _ _ _ h => h) (Or.inl ⟨by rfl, ?_⟩) hHeld ?_ ?_
         rotate_left
         ·rintro w' ⟨s0, s1, s2, s3, s4, s5, s6, s7, s8, s9, s10, s11, s12, s13, s14, s15⟩
          go_simp
          with_reducible rfl
         rotate_left
         ·simp only [Act.put, List.setIfInBounds_toArray, List.set_cons_zero, List.set_cons_succ, i64_w, i32_w]
          rfl
         refine take_ (i := 5) (N := some 60) (v := ?_) (a' := ?_) #[true, true, true, true, false, true, false, false, false, false, false, false, false, false, false, false, false, false, false, false, false, false, false, false, false, false, false, false, false, false, false, false, false, false, false, false] rfl rfl (take_ofW HT_.out HW_.out (by kernel_rfl)) (fun _ _ _ h => h) (Or.inl ⟨by rfl, ?_⟩) hHeld ?_ ?_
         rotate_left
         ·rintro w' ⟨s0, s1, s2, s3, s4, s5, s6, s7, s8, s9, s10, s11, s12, s13, s14, s15⟩
          go_simp
          with_reducible rfl
         rotate_left
         ·simp only [Act.put, List.setIfInBounds_toArray, List.set_cons_zero, List.set_cons_succ, i64_w, i32_w]
          rfl
         refine one_ (i := 4) (N := some 59) #[true, true, true, true, true, true, false, false, false, false, false, false, false, false, false, false, false, false, false, false, false, false, false, false, false, false, false, false, false, false, false, false, false, false, false, false] rfl rfl (one_of HT_.out (by kernel_rfl)) (by decide) (fun K hK => ?_)
         refine goes_ Tryd.func16 (by kernel_rfl) rfl #[.string a0_1, .string a0_0] (by rfl) rfl rfl (by (try simp only [List.map_toArray, List.map_cons, List.map_nil]); rfl) ?_
         with_reducible refine (measure_Alike.calls kj8 a0_1 a0_0 t120 t121 _ ?sGl A67.out).mono ?_
         case sGl => exact Gl.below HGl.out (by repeat ((with_reducible (exact HB.out))))
         rintro e w75 ⟨rfl, hb⟩
         refine ⟨_, rfl, ?_⟩
         have n0_ := Aside0.mk (blk_below (g := gb101) (o := .cells #[.string a0_0, .string a0_1, .string a0_2, .slice A0_3 l0_3.length c0_3, .slice A0_4 l0_4.length c0_4, .int .i64 a0_5, .int .i64 a0_6, .int .i64 a0_7] 24 (0, 0)) (by (with_reducible skip); exact BK101.out) hb)
         have n1_ := Aside0.mk (blk_below (g := gb106) (o := .cells #[.int .i64 t104, .int .i64 t105] 32 (0, 0)) (by (with_reducible skip); exact BK106.out) hb)
         have n2_ := Aside0.mk (blk_below (g := gb109) (o := .cells #[.int .i64 t107, .int .i64 t108] 32 (0, 0)) (by (with_reducible skip); exact BK109.out) hb)
         have n3_ := Aside0.mk (blk_below (g := gb112) (o := .cells #[.int .i64 t110, .int .i64 t111] 32 (0, 0)) (by (with_reducible skip); exact BK112.out) hb)
         have n4_ := Aside0.mk (blk_below (g := gb115) (o := .cells #[.int .i64 t113, .int .i64 t114] 32 (0, 0)) (by (with_reducible skip); exact BK115.out) hb)
         have n5_ := Aside0.mk (below_step (by repeat ((with_reducible (exact HB.out)))) hb)
         clear BK101
         clear BK106
         clear BK109
         clear BK112
         clear BK115
         clear HB
         have BK101 := n0_
         have BK106 := n1_
         have BK109 := n2_
         have BK112 := n3_
         have BK115 := n4_
         have HB := n5_
         clear n0_ n1_ n2_ n3_ n4_ n5_
         (try clear hb)
         refine hK.out _ _ ⟨(blk_cell BK101.out 0).trans rfl, (blk_cell BK101.out 1).trans rfl, (blk_cell BK101.out 2).trans rfl, (blk_cell BK101.out 3).trans rfl, (blk_cell BK101.out 4).trans rfl, (blk_cell BK101.out 5).trans rfl, (blk_cell BK101.out 6).trans rfl, (blk_cell BK101.out 7).trans rfl, (blk_cell BK106.out 0).trans rfl, (blk_cell BK106.out 1).trans rfl, (blk_cell BK109.out 0).trans rfl, (blk_cell BK109.out 1).trans rfl, (blk_cell BK112.out 0).trans rfl, (blk_cell BK112.out 1).trans rfl, (blk_cell BK115.out 0).trans rfl, (blk_cell BK115.out 1).trans rfl⟩ (fun hHeld => ?_)
         clear hK K
         refine norm_ (a' := ?_) ?_ ?_
         rotate_left
         ·show Act.put _ (some 59) _ = _
          simp only [Act.put, List.setIfInBounds_toArray, List.set_cons_zero, List.set_cons_succ, i64_w, i32_w]
          rfl
         refine pure_ (i := 6) (N := some 61) (v := ?_) (a' := ?_) #[true, true, true, true, true, true, true, false, false, false, false, false, false, false, false, false, false, false, false, false, false, false, false, false, false, false, false, false, false, false, false, false, false, false, false, false] rfl rfl (any_of HT_.out (by kernel_rfl)) (fun _ _ _ h => h) (Or.inl ⟨by rfl, ?_⟩) ?_ ?_
         rotate_left
         ·intro w'
          go_simp
          with_reducible rfl
         rotate_left
         ·simp only [Act.put, List.setIfInBounds_toArray, List.set_cons_zero, List.set_cons_succ, i64_w, i32_w]
          rfl
         refine pure_ (i := 7) (N := some 62) (v := ?_) (a' := ?_) #[true, true, true, true, true, true, true, true, false, false, false, false, false, false, false, false, false, false, false, false, false, false, false, false, false, false, false, false, false, false, false, false, false, false, false, false] rfl rfl (any_of HT_.out (by kernel_rfl)) (fun _ _ _ h => h) (Or.inl ⟨by rfl, ?_⟩) ?_ ?_
         rotate_left
         ·intro w'
          go_simp
          with_reducible rfl
         rotate_left
         ·simp only [Act.put, List.setIfInBounds_toArray, List.set_cons_zero, List.set_cons_succ, i64_w, i32_w]
          rfl
         refine pure_ (i := 8) (N := some 63) (v := ?_) (a' := ?_) #[true, true, true, true, true, true, true, true, true, false, false, false, false, false, false, false, false, false, false, false, false, false, false, false, false, false, false, false, false, false, false, false, false, false, false, false] rfl rfl (any_of HT_.out (by kernel_rfl)) (fun _ _ _ h => h) (Or.inl ⟨by rfl, ?_⟩) ?_ ?_
         rotate_left
         ·intro w'
          go_simp
          with_reducible rfl
         rotate_left
         ·simp only [Act.put, List.setIfInBounds_toArray, List.set_cons_zero, List.set_cons_succ, i64_w, i32_w]
          rfl
         refine pure_ (i := 10) (N := some 65) (v := ?_) (a' := ?_) #[true, true, true, true, true, true, true, true, true, false, true, false, false, false, false, false, false, false, false, false, false, false, false, false, false, false, false, false, false, false, false, false, false, false, false, false] rfl rfl (any_of HT_.out (by kernel_rfl)) (fun _ _ _ h => h) (Or.inl ⟨by rfl, ?_⟩) ?_ ?_
         rotate_left
         ·intro w'
          go_simp
          with_reducible rfl
         rotate_left
         ·simp only [Act.put, List.setIfInBounds_toArray, List.set_cons_zero, List.set_cons_succ, i64_w, i32_w]
          rfl
         refine take_ (i := 9) (N := some 64) (v := ?_) (a' := ?_) #[true, true, true, true, true, true, true, true, true, true, true, false, false, false, false, false, false, false, false, false, false, false, false, false, false, false, false, false, false, false, false, false, false, false, false, false] rfl rfl (take_ofW HT_.out HW_.out (by kernel_rfl)) (fun _ _ _ h => h) (Or.inl ⟨by rfl, ?_⟩) hHeld ?_ ?_
         rotate_left
         ·rintro w' ⟨s0, s1, s2, s3, s4, s5, s6, s7, s8, s9, s10, s11, s12, s13, s14, s15⟩
          go_simp
          with_reducible rfl
         rotate_left
         ·simp only [Act.put, List.setIfInBounds_toArray, List.set_cons_zero, List.set_cons_succ, i64_w, i32_w]
          rfl
         refine take_ (i := 11) (N := some 66) (v := ?_) (a' := ?_) #[true, true, true, true, true, true, true, true, true, true, true, true, false, false, false, false, false, false, false, false, false, false, false, false, false, false, false, false, false, false, false, false, false, false, false, false] rfl rfl (take_ofW HT_.out HW_.out (by kernel_rfl)) (fun _ _ _ h => h) (Or.inl ⟨by rfl, ?_⟩) hHeld ?_ ?_
         rotate_left
         ·rintro w' ⟨s0, s1, s2, s3, s4, s5, s6, s7, s8, s9, s10, s11, s12, s13, s14, s15⟩
          go_simp
          with_reducible rfl
         rotate_left
         ·simp only [Act.put, List.setIfInBounds_toArray, List.set_cons_zero, List.set_cons_succ, i64_w, i32_w]
          rfl
         refine take_ (i := 13) (N := some 68) (v := ?_) (a' := ?_) #[true, true, true, true, true, true, true, true, true, true, true, true, false, true, false, false, false, false, false, false, false, false, false, false, false, false, false, false, false, false, false, false, false, false, false, false] rfl rfl (take_ofW HT_.out HW_.out (by kernel_rfl)) (fun _ _ _ h => h) (Or.inl ⟨by rfl, ?_⟩) hHeld ?_ ?_
         rotate_left
         ·rintro w' ⟨s0, s1, s2, s3, s4, s5, s6, s7, s8, s9, s10, s11, s12, s13, s14, s15⟩
          go_simp
          with_reducible rfl
         rotate_left
         ·simp only [Act.put, List.setIfInBounds_toArray, List.set_cons_zero, List.set_cons_succ, i64_w, i32_w]
          rfl
         refine one_ (i := 12) (N := some 67) #[true, true, true, true, true, true, true, true, true, true, true, true, true, true, false, false, false, false, false, false, false, false, false, false, false, false, false, false, false, false, false, false, false, false, false, false] rfl rfl (one_of HT_.out (by kernel_rfl)) (by decide) (fun K hK => ?_)
         refine goes_ Tryd.func18 (by kernel_rfl) rfl #[.slice A0_4 l0_4.length c0_4, .slice A0_3 l0_3.length c0_3] (by rfl) rfl rfl (by (try simp only [List.map_toArray, List.map_cons, List.map_nil]); rfl) ?_
         with_reducible refine (measure_Jaccard.calls kj8 _ _ l0_4 _ _ l0_3 t122 t123 _ ?side1 ?side2 ?side3 ?side4 ?sGl A69.out).mono ?_
         case sGl => exact Gl.below HGl.out (by repeat ((with_reducible (exact HB.out))))
         (case side1 => repeat ((exact (Kd.C_below HR0_4.out HB.out))))
         (case side2 => exact HC0_4.out)
         (case side3 => repeat ((exact (Kd.C_below HR0_3.out HB.out))))
         (case side4 => exact HC0_3.out)
         rintro e w76 ⟨rfl, hb⟩
         refine ⟨_, rfl, ?_⟩
         have n0_ := Aside0.mk (blk_below (g := gb101) (o := .cells #[.string a0_0, .string a0_1, .string a0_2, .slice A0_3 l0_3.length c0_3, .slice A0_4 l0_4.length c0_4, .int .i64 a0_5, .int .i64 a0_6, .int .i64 a0_7] 24 (0, 0)) (by (with_reducible skip); exact BK101.out) hb)
         have n1_ := Aside0.mk (blk_below (g := gb106) (o := .cells #[.int .i64 t104, .int .i64 t105] 32 (0, 0)) (by (with_reducible skip); exact BK106.out) hb)
         have n2_ := Aside0.mk (blk_below (g := gb109) (o := .cells #[.int .i64 t107, .int .i64 t108] 32 (0, 0)) (by (with_reducible skip); exact BK109.out) hb)
         have n3_ := Aside0.mk (blk_below (g := gb112) (o := .cells #[.int .i64 t110, .int .i64 t111] 32 (0, 0)) (by (with_reducible skip); exact BK112.out) hb)
         have n4_ := Aside0.mk (blk_below (g := gb115) (o := .cells #[.int .i64 t113, .int .i64 t114] 32 (0, 0)) (by (with_reducible skip); exact BK115.out) hb)
         have n5_ := Aside0.mk (below_step (by repeat ((with_reducible (exact HB.out)))) hb)
         clear BK101
         clear BK106
         clear BK109
         clear BK112
         clear BK115
         clear HB
         have BK101 := n0_
         have BK106 := n1_
         have BK109 := n2_
         have BK112 := n3_
         have BK115 := n4_
         have HB := n5_
         clear n0_ n1_ n2_ n3_ n4_ n5_
         (try clear hb)
         refine hK.out _ _ ⟨(blk_cell BK101.out 0).trans rfl, (blk_cell BK101.out 1).trans rfl, (blk_cell BK101.out 2).trans rfl, (blk_cell BK101.out 3).trans rfl, (blk_cell BK101.out 4).trans rfl, (blk_cell BK101.out 5).trans rfl, (blk_cell BK101.out 6).trans rfl, (blk_cell BK101.out 7).trans rfl, (blk_cell BK106.out 0).trans rfl, (blk_cell BK106.out 1).trans rfl, (blk_cell BK109.out 0).trans rfl, (blk_cell BK109.out 1).trans rfl, (blk_cell BK112.out 0).trans rfl, (blk_cell BK112.out 1).trans rfl, (blk_cell BK115.out 0).trans rfl, (blk_cell BK115.out 1).trans rfl⟩ (fun hHeld => ?_)
         clear hK K
         refine norm_ (a' := ?_) ?_ ?_
         rotate_left
         ·show Act.put _ (some 67) _ = _
          simp only [Act.put, List.setIfInBounds_toArray, List.set_cons_zero, List.set_cons_succ, i64_w, i32_w]
          rfl
         refine pure_ (i := 14) (N := some 69) (v := ?_) (a' := ?_) #[true, true, true, true, true, true, true, true, true, true, true, true, true, true, true, false, false, false, false, false, false, false, false, false, false, false, false, false, false, false, false, false, false, false, false, false] rfl rfl (any_of HT_.out (by kernel_rfl)) (fun _ _ _ h => h) (Or.inl ⟨by rfl, ?_⟩) ?_ ?_
         rotate_left
         ·intro w'
          go_simp
          with_reducible rfl
         rotate_left
         ·simp only [Act.put, List.setIfInBounds_toArray, List.set_cons_zero, List.set_cons_succ, i64_w, i32_w]
          rfl
         refine pure_ (i := 15) (N := some 70) (v := ?_) (a' := ?_) #[true, true, true, true, true, true, true, true, true, true, true, true, true, true, true, true, false, false, false, false, false, false, false, false, false, false, false, false, false, false, false, false, false, false, false, false] rfl rfl (any_of HT_.out (by kernel_rfl)) (fun _ _ _ h => h) (Or.inl ⟨by rfl, ?_⟩) ?_ ?_
         rotate_left
         ·intro w'
          go_simp
          with_reducible rfl
         rotate_left
         ·simp only [Act.put, List.setIfInBounds_toArray, List.set_cons_zero, List.set_cons_succ, i64_w, i32_w]
          rfl
         refine pure_ (i := 16) (N := some 71) (v := ?_) (a' := ?_) #[true, true, true, true, true, true, true, true, true, true, true, true, true, true, true, true, true, false, false, false, false, false, false, false, false, false, false, false, false, false, false, false, false, false, false, false] rfl rfl (any_of HT_.out (by kernel_rfl)) (fun _ _ _ h => h) (Or.inl ⟨by rfl, ?_⟩) ?_ ?_
         rotate_left
         ·intro w'
          go_simp
          with_reducible rfl
         rotate_left
         ·simp only [Act.put, List.setIfInBounds_toArray, List.set_cons_zero, List.set_cons_succ, i64_w, i32_w]
          rfl
         refine pure_ (i := 17) (N := some 72) (v := ?_) (a' := ?_) #[true, true, true, true, true, true, true, true, true, true, true, true, true, true, true, true, true, true, false, false, false, false, false, false, false, false, false, false, false, false, false, false, false, false, false, false] rfl rfl (any_of HT_.out (by kernel_rfl)) (fun _ _ _ h => h) (Or.inl ⟨by rfl, ?_⟩) ?_ ?_
         rotate_left
         ·intro w'
          go_simp
          with_reducible rfl
         rotate_left
         ·simp only [Act.put, List.setIfInBounds_toArray, List.set_cons_zero, List.set_cons_succ, i64_w, i32_w]
          rfl
         refine pure_ (i := 19) (N := some 74) (v := ?_) (a' := ?_) #[true, true, true, true, true, true, true, true, true, true, true, true, true, true, true, true, true, true, false, true, false, false, false, false, false, false, false, false, false, false, false, false, false, false, false, false] rfl rfl (any_of HT_.out (by kernel_rfl)) (fun _ _ _ h => h) (Or.inl ⟨by rfl, ?_⟩) ?_ ?_
         rotate_left
         ·intro w'
          go_simp
          with_reducible rfl
         rotate_left
         ·simp only [Act.put, List.setIfInBounds_toArray, List.set_cons_zero, List.set_cons_succ, i64_w, i32_w]
          rfl
         refine take_ (i := 18) (N := some 73) (v := ?_) (a' := ?_) #[true, true, true, true, true, true, true, true, true, true, true, true, true, true, true, true, true, true, true, true, false, false, false, false, false, false, false, false, false, false, false, false, false, false, false, false] rfl rfl (take_ofW HT_.out HW_.out (by kernel_rfl)) (fun _ _ _ h => h) (Or.inl ⟨by rfl, ?_⟩) hHeld ?_ ?_
         rotate_left
         ·rintro w' ⟨s0, s1, s2, s3, s4, s5, s6, s7, s8, s9, s10, s11, s12, s13, s14, s15⟩
          go_simp
          with_reducible rfl
         rotate_left
         ·simp only [Act.put, List.setIfInBounds_toArray, List.set_cons_zero, List.set_cons_succ, i64_w, i32_w]
          rfl
         refine take_ (i := 20) (N := some 75) (v := ?_) (a' := ?_) #[true, true, true, true, true, true, true, true, true, true, true, true, true, true, true, true, true, true, true, true, true, false, false, false, false, false, false, false, false, false, false, false, false, false, false, false] rfl rfl (take_ofW HT_.out HW_.out (by kernel_rfl)) (fun _ _ _ h => h) (Or.inl ⟨by rfl, ?_⟩) hHeld ?_ ?_
         rotate_left
         ·rintro w' ⟨s0, s1, s2, s3, s4, s5, s6, s7, s8, s9, s10, s11, s12, s13, s14, s15⟩
          go_simp
          with_reducible rfl
         rotate_left
         ·simp only [Act.put, List.setIfInBounds_toArray, List.set_cons_zero, List.set_cons_succ, i64_w, i32_w]
          rfl
         refine take_ (i := 22) (N := some 77) (v := ?_) (a' := ?_) #[true, true, true, true, true, true, true, true, true, true, true, true, true, true, true, true, true, true, true, true, true, false, true, false, false, false, false, false, false, false, false, false, false, false, false, false] rfl rfl (take_ofW HT_.out HW_.out (by kernel_rfl)) (fun _ _ _ h => h) (Or.inl ⟨by rfl, ?_⟩) hHeld ?_ ?_
         rotate_left
         ·rintro w' ⟨s0, s1, s2, s3, s4, s5, s6, s7, s8, s9, s10, s11, s12, s13, s14, s15⟩
          go_simp
          with_reducible rfl
         rotate_left
         ·simp only [Act.put, List.setIfInBounds_toArray, List.set_cons_zero, List.set_cons_succ, i64_w, i32_w]
          rfl
         refine one_ (i := 21) (N := some 76) #[true, true, true, true, true, true, true, true, true, true, true, true, true, true, true, true, true, true, true, true, true, true, true, false, false, false, false, false, false, false, false, false, false, false, false, false] rfl rfl (one_of HT_.out (by kernel_rfl)) (by decide) (fun K hK => ?_)
         refine goes_ Tryd.func22 (by kernel_rfl) rfl #[.string a0_1, .string a0_0] (by rfl) rfl rfl (by (try simp only [List.map_toArray, List.map_cons, List.map_nil]); rfl) ?_
         with_reducible refine (measure_Jaro.calls kj8 a0_1 a0_0 t124 t125 _ ?sGl A71.out).mono ?_
         case sGl => exact Gl.below HGl.out (by repeat ((with_reducible (exact HB.out))))
         rintro e w77 ⟨rfl, hb⟩
         refine ⟨_, rfl, ?_⟩
         have n0_ := Aside0.mk (blk_below (g := gb101) (o := .cells #[.string a0_0, .string a0_1, .string a0_2, .slice A0_3 l0_3.length c0_3, .slice A0_4 l0_4.length c0_4, .int .i64 a0_5, .int .i64 a0_6, .int .i64 a0_7] 24 (0, 0)) (by (with_reducible skip); exact BK101.out) hb)
         have n1_ := Aside0.mk (blk_below (g := gb106) (o := .cells #[.int .i64 t104, .int .i64 t105] 32 (0, 0)) (by (with_reducible skip); exact BK106.out) hb)
         have n2_ := Aside0.mk (blk_below (g := gb109) (o := .cells #[.int .i64 t107, .int .i64 t108] 32 (0, 0)) (by (with_reducible skip); exact BK109.out) hb)
         have n3_ := Aside0.mk (blk_below (g := gb112) (o := .cells #[.int .i64 t110, .int .i64 t111] 32 (0, 0)) (by (with_reducible skip); exact BK112.out) hb)
         have n4_ := Aside0.mk (blk_below (g := gb115) (o := .cells #[.int .i64 t113, .int .i64 t114] 32 (0, 0)) (by (with_reducible skip); exact BK115.out) hb)
         have n5_ := Aside0.mk (below_step (by repeat ((with_reducible (exact HB.out)))) hb)
         clear BK101
         clear BK106
         clear BK109
         clear BK112
         clear BK115
         clear HB
         have BK101 := n0_
         have BK106 := n1_
         have BK109 := n2_
         have BK112 := n3_
         have BK115 := n4_
         have HB := n5_
         clear n0_ n1_ n2_ n3_ n4_ n5_
         (try clear hb)
         refine hK.out _ _ ⟨(blk_cell BK101.out 0).trans rfl, (blk_cell BK101.out 1).trans rfl, (blk_cell BK101.out 2).trans rfl, (blk_cell BK101.out 3).trans rfl, (blk_cell BK101.out 4).trans rfl, (blk_cell BK101.out 5).trans rfl, (blk_cell BK101.out 6).trans rfl, (blk_cell BK101.out 7).trans rfl, (blk_cell BK106.out 0).trans rfl, (blk_cell BK106.out 1).trans rfl, (blk_cell BK109.out 0).trans rfl, (blk_cell BK109.out 1).trans rfl, (blk_cell BK112.out 0).trans rfl, (blk_cell BK112.out 1).trans rfl, (blk_cell BK115.out 0).trans rfl, (blk_cell BK115.out 1).trans rfl⟩ (fun hHeld => ?_)
         clear hK K
         refine norm_ (a' := ?_) ?_ ?_
         rotate_left
         ·show Act.put _ (some 76) _ = _
          simp only [Act.put, List.setIfInBounds_toArray, List.set_cons_zero, List.set_cons_succ, i64_w, i32_w]
          rfl
         refine pure_ (i := 23) (N := some 78) (v := ?_) (a' := ?_) #[true, true, true, true, true, true, true, true, true, true, true, true, true, true, true, true, true, true, true, true, true, true, true, true, false, false, false, false, false, false, false, false, false, false, false, false] rfl rfl (any_of HT_.out (by kernel_rfl)) (fun _ _ _ h => h) (Or.inl ⟨by rfl, ?_⟩) ?_ ?_
         rotate_left
         ·intro w'
          go_simp
          with_reducible rfl
         rotate_left
         ·simp only [Act.put, List.setIfInBounds_toArray, List.set_cons_zero, List.set_cons_succ, i64_w, i32_w]
          rfl
         refine pure_ (i := 24) (N := some 79) (v := ?_) (a' := ?_) #[true, true, true, true, true, true, true, true, true, true, true, true, true, true, true, true, true, true, true, true, true, true, true, true, true, false, false, false, false, false, false, false, false, false, false, false] rfl rfl (any_of HT_.out (by kernel_rfl)) (fun _ _ _ h => h) (Or.inl ⟨by rfl, ?_⟩) ?_ ?_
         rotate_left
         ·intro w'
          go_simp
          with_reducible rfl
         rotate_left
         ·simp only [Act.put, List.setIfInBounds_toArray, List.set_cons_zero, List.set_cons_succ, i64_w, i32_w]
          rfl
         refine pure_ (i := 25) (N := some 80) (v := ?_) (a' := ?_) #[true, true, true, true, true, true, true, true, true, true, true, true, true, true, true, true, true, true, true, true, true, true, true, true, true, true, false, false, false, false, false, false, false, false, false, false] rfl rfl (any_of HT_.out (by kernel_rfl)) (fun _ _ _ h => h) (Or.inl ⟨by rfl, ?_⟩) ?_ ?_
         rotate_left
         ·intro w'
          go_simp
          with_reducible rfl
         rotate_left
         ·simp only [Act.put, List.setIfInBounds_toArray, List.set_cons_zero, List.set_cons_succ, i64_w, i32_w]
          rfl
         refine pure_ (i := 26) (N := some 81) (v := ?_) (a' := ?_) #[true, true, true, true, true, true, true, true, true, true, true, true, true, true, true, true, true, true, true, true, true, true, true, true, true, true, true, false, false, false, false, false, false, false, false, false] rfl rfl (any_of HT_.out (by kernel_rfl)) (fun _ _ _ h => h) (Or.inl ⟨by rfl, ?_⟩) ?_ ?_
         rotate_left
         ·intro w'
          go_simp
          with_reducible rfl
         rotate_left
         ·simp only [Act.put, List.setIfInBounds_toArray, List.set_cons_zero, List.set_cons_succ, i64_w, i32_w]
          rfl
         refine pure_ (i := 28) (N := some 83) (v := ?_) (a' := ?_) #[true, true, true, true, true, true, true, true, true, true, true, true, true, true, true, true, true, true, true, true, true, true, true, true, true, true, true, false, true, false, false, false, false, false, false, false] rfl rfl (any_of HT_.out (by kernel_rfl)) (fun _ _ _ h => h) (Or.inl ⟨by rfl, ?_⟩) ?_ ?_
         rotate_left
         ·intro w'
          go_simp
          with_reducible rfl
         rotate_left
         ·simp only [Act.put, List.setIfInBounds_toArray, List.set_cons_zero, List.set_cons_succ, i64_w, i32_w]
          rfl
         refine pure_ (i := 30) (N := some 85) (v := ?_) (a' := ?_) #[true, true, true, true, true, true, true, true, true, true, true, true, true, true, true, true, true, true, true, true, true, true, true, true, true, true, true, false, true, false, true, false, false, false, false, false] rfl rfl (any_of HT_.out (by kernel_rfl)) (fun _ _ _ h => h) (Or.inl ⟨by rfl, ?_⟩) ?_ ?_
         rotate_left
         ·intro w'
          go_simp
          with_reducible rfl
         rotate_left
         ·simp only [Act.put, List.setIfInBounds_toArray, List.set_cons_zero, List.set_cons_succ, i64_w, i32_w]
          rfl
         refine take_ (i := 27) (N := some 82) (v := ?_) (a' := ?_) #[true, true, true, true, true, true, true, true, true, true, true, true, true, true, true, true, true, true, true, true, true, true, true, true, true, true, true, true, true, false, true, false, false, false, false, false] rfl rfl (take_ofW HT_.out HW_.out (by kernel_rfl)) (fun _ _ _ h => h) (Or.inl ⟨by rfl, ?_⟩) hHeld ?_ ?_
         rotate_left
         ·rintro w' ⟨s0, s1, s2, s3, s4, s5, s6, s7, s8, s9, s10, s11, s12, s13, s14, s15⟩
          go_simp
          with_reducible rfl
         rotate_left
         ·simp only [Act.put, List.setIfInBounds_toArray, List.set_cons_zero, List.set_cons_succ, i64_w, i32_w]
          rfl
         refine take_ (i := 29) (N := some 84) (v := ?_) (a' := ?_) #[true, true, true, true, true, true, true, true, true, true, true, true, true, true, true, true, true, true, true, true, true, true, true, true, true, true, true, true, true, true, true, false, false, false, false, false] rfl rfl (take_ofW HT_.out HW_.out (by kernel_rfl)) (fun _ _ _ h => h) (Or.inl ⟨by rfl, ?_⟩) hHeld ?_ ?_
         rotate_left
         ·rintro w' ⟨s0, s1, s2, s3, s4, s5, s6, s7, s8, s9, s10, s11, s12, s13, s14, s15⟩
          go_simp
          with_reducible rfl
         rotate_left
         ·simp only [Act.put, List.setIfInBounds_toArray, List.set_cons_zero, List.set_cons_succ, i64_w, i32_w]
          rfl
         refine take_ (i := 31) (N := some 86) (v := ?_) (a' := ?_) #[true, true, true, true, true, true, true, true, true, true, true, true, true, true, true, true, true, true, true, true, true, true, true, true, true, true, true, true, true, true, true, true, false, false, false, false] rfl rfl (take_ofW HT_.out HW_.out (by kernel_rfl)) (fun _ _ _ h => h) (Or.inl ⟨by rfl, ?_⟩) hHeld ?_ ?_
         rotate_left
         ·rintro w' ⟨s0, s1, s2, s3, s4, s5, s6, s7, s8, s9, s10, s11, s12, s13, s14, s15⟩
          go_simp
          with_reducible rfl
         rotate_left
         ·simp only [Act.put, List.setIfInBounds_toArray, List.set_cons_zero, List.set_cons_succ, i64_w, i32_w]
          rfl
         refine take_ (i := 33) (N := some 88) (v := ?_) (a' := ?_) #[true, true, true, true, true, true, true, true, true, true, true, true, true, true, true, true, true, true, true, true, true, true, true, true, true, true, true, true, true, true, true, true, false, true, false, false] rfl rfl (take_ofW HT_.out HW_.out (by kernel_rfl)) (fun _ _ _ h => h) (Or.inl ⟨by rfl, ?_⟩) hHeld ?_ ?_
         rotate_left
         ·rintro w' ⟨s0, s1, s2, s3, s4, s5, s6, s7, s8, s9, s10, s11, s12, s13, s14, s15⟩
          go_simp
          with_reducible rfl
         rotate_left
         ·simp only [Act.put, List.setIfInBounds_toArray, List.set_cons_zero, List.set_cons_succ, i64_w, i32_w]
          rfl
         refine one_ (i := 32) (N := some 87) #[true, true, true, true, true, true, true, true, true, true, true, true, true, true, true, true, true, true, true, true, true, true, true, true, true, true, true, true, true, true, true, true, true, true, false, false] rfl rfl (one_of HT_.out (by kernel_rfl)) (by decide) (fun K hK => ?_)
         refine goes_ Tryd.func24 (by kernel_rfl) rfl #[.int .i64 a0_6, .int .i64 a0_5, .int .i64 a0_7] (by rfl) rfl rfl (by (try simp only [List.map_toArray, List.map_cons, List.map_nil]); rfl) ?_
         with_reducible refine (measure_Near.calls kj8 a0_6 a0_5 a0_7 t126 t127 _ ?sGl A73.out).mono ?_
         case sGl => exact Gl.below HGl.out (by repeat ((with_reducible (exact HB.out))))
         rintro e w78 ⟨rfl, hb⟩
         refine ⟨_, rfl, ?_⟩
         have n0_ := Aside0.mk (blk_below (g := gb101) (o := .cells #[.string a0_0, .string a0_1, .string a0_2, .slice A0_3 l0_3.length c0_3, .slice A0_4 l0_4.length c0_4, .int .i64 a0_5, .int .i64 a0_6, .int .i64 a0_7] 24 (0, 0)) (by (with_reducible skip); exact BK101.out) hb)
         have n1_ := Aside0.mk (blk_below (g := gb106) (o := .cells #[.int .i64 t104, .int .i64 t105] 32 (0, 0)) (by (with_reducible skip); exact BK106.out) hb)
         have n2_ := Aside0.mk (blk_below (g := gb109) (o := .cells #[.int .i64 t107, .int .i64 t108] 32 (0, 0)) (by (with_reducible skip); exact BK109.out) hb)
         have n3_ := Aside0.mk (blk_below (g := gb112) (o := .cells #[.int .i64 t110, .int .i64 t111] 32 (0, 0)) (by (with_reducible skip); exact BK112.out) hb)
         have n4_ := Aside0.mk (blk_below (g := gb115) (o := .cells #[.int .i64 t113, .int .i64 t114] 32 (0, 0)) (by (with_reducible skip); exact BK115.out) hb)
         have n5_ := Aside0.mk (below_step (by repeat ((with_reducible (exact HB.out)))) hb)
         clear BK101
         clear BK106
         clear BK109
         clear BK112
         clear BK115
         clear HB
         have BK101 := n0_
         have BK106 := n1_
         have BK109 := n2_
         have BK112 := n3_
         have BK115 := n4_
         have HB := n5_
         clear n0_ n1_ n2_ n3_ n4_ n5_
         (try clear hb)
         refine hK.out _ _ ⟨(blk_cell BK101.out 0).trans rfl, (blk_cell BK101.out 1).trans rfl, (blk_cell BK101.out 2).trans rfl, (blk_cell BK101.out 3).trans rfl, (blk_cell BK101.out 4).trans rfl, (blk_cell BK101.out 5).trans rfl, (blk_cell BK101.out 6).trans rfl, (blk_cell BK101.out 7).trans rfl, (blk_cell BK106.out 0).trans rfl, (blk_cell BK106.out 1).trans rfl, (blk_cell BK109.out 0).trans rfl, (blk_cell BK109.out 1).trans rfl, (blk_cell BK112.out 0).trans rfl, (blk_cell BK112.out 1).trans rfl, (blk_cell BK115.out 0).trans rfl, (blk_cell BK115.out 1).trans rfl⟩ (fun hHeld => ?_)
         clear hK K
         refine norm_ (a' := ?_) ?_ ?_
         rotate_left
         ·show Act.put _ (some 87) _ = _
          simp only [Act.put, List.setIfInBounds_toArray, List.set_cons_zero, List.set_cons_succ, i64_w, i32_w]
          rfl
         refine pure_ (i := 34) (N := some 89) (v := ?_) (a' := ?_) #[true, true, true, true, true, true, true, true, true, true, true, true, true, true, true, true, true, true, true, true, true, true, true, true, true, true, true, true, true, true, true, true, true, true, true, false] rfl rfl (any_of HT_.out (by kernel_rfl)) (fun _ _ _ h => h) (Or.inl ⟨by rfl, ?_⟩) ?_ ?_
         rotate_left
         ·intro w'
          go_simp
          with_reducible rfl
         rotate_left
         ·simp only [Act.put, List.setIfInBounds_toArray, List.set_cons_zero, List.set_cons_succ, i64_w, i32_w]
          rfl
         refine pure_ (i := 35) (N := some 90) (v := ?_) (a' := ?_) #[true, true, true, true, true, true, true, true, true, true, true, true, true, true, true, true, true, true, true, true, true, true, true, true, true, true, true, true, true, true, true, true, true, true, true, true] rfl rfl (any_of HT_.out (by kernel_rfl)) (fun _ _ _ h => h) (Or.inl ⟨by rfl, ?_⟩) ?_ ?_
         rotate_left
         ·intro w'
          go_simp
          with_reducible rfl
         rotate_left
         ·simp only [Act.put, List.setIfInBounds_toArray, List.set_cons_zero, List.set_cons_succ, i64_w, i32_w]
          rfl
         refine done_ (done_of HT_.out (by kernel_rfl)) ?_
         try go_wp2
         go_meet
         case rel => exact ⟨_, ((!(t126 == t113) || (!(t127 == t114)))), (by rfl), H', ⟨by have := HJ8.out; omega⟩, ⟨by (with_reducible skip); exact BK101.out⟩, ⟨by (with_reducible skip); exact BK106.out⟩, ⟨by (with_reducible skip); exact BK109.out⟩, ⟨by (with_reducible skip); exact BK112.out⟩, ⟨by (with_reducible skip); exact BK115.out⟩, ⟨by repeat ((with_reducible (exact HB.out)))⟩⟩
     case rest =>
      clear HC66
      obtain ⟨kq, x90_65, rfl, HA, HJ65, BK101, BK106, BK109, BK112, BK115, HB⟩ := hcut
      cases kq with
      | zero => exact absurd HA.out (by simp [cleanselaw04_MeasureSimilar.j1])
      | succ kj65 =>
       have H := HA.out
       clear HA
       simp only [cleanselaw04_MeasureSimilar.j1] at H
       by_cases c79 : x90_65 = true
       ·subst c79
        have H1 : (some false) = some r := by rw [if_pos rfl] at H; exact H
        clear H
        have H := H1
        clear H1
        exact absurd ((Option.some.inj H).trans HT.out) (by decide)
       ·replace c79 := Bool.eq_false_iff.mpr c79
        subst c79
        have H1 : ((cleanselaw04_of.f 1 1).bind fun bt128 => (if a0_7 ≥ 0 then (cleanselaw04_MeasureSimilar.j2 kj65 t102 (decide (a0_7 < 1000000000)) a0_0 a0_1 a0_2 l0_3 l0_4 a0_5 a0_6 a0_7 bt128.1 bt128.2) else (cleanselaw04_MeasureSimilar.j2 kj65 t102 false a0_0 a0_1 a0_2 l0_3 l0_4 a0_5 a0_6 a0_7 bt128.1 bt128.2))) = some r := by rw [if_neg (show ¬ (false = true) by decide)] at H; exact H
        clear H
        have H := H1
        clear H1
        replace H := Option.bind_eq_some_iff.mp H
        obtain ⟨⟨t128, t129⟩, A800, H⟩ := H
        replace H : (if a0_7 ≥ 0 then (cleanselaw04_MeasureSimilar.j2 kj65 t102 (decide (a0_7 < 1000000000)) a0_0 a0_1 a0_2 l0_3 l0_4 a0_5 a0_6 a0_7 t128 t129) else (cleanselaw04_MeasureSimilar.j2 kj65 t102 false a0_0 a0_1 a0_2 l0_3 l0_4 a0_5 a0_6 a0_7 t128 t129)) = some r := H
        have A80 := Aside0.mk A800
        clear A800
        have HC81 := Aside0.mk H
        clear H
        go_upto_region 13 with (first | ((with_reducible refine gate_callee (f := 27) rfl ?_); refine goesL_ (some 91) rfl rfl Tryd.func27 (by kernel_rfl) rfl #[.int .i64 1, .int .i64 1] rfl (by (try simp only [List.map_toArray, List.map_cons, List.map_nil]); rfl) ?_; (with_reducible refine (cleanselaw04_of.calls 1 1 t128 t129 _ A80.out).mono ?_); rintro e w82 ⟨rfl, hb⟩; refine ⟨_, rfl, ?_⟩; have n0_ := Aside0.mk (blk_below (g := gb101) (o := .cells #[.string a0_0, .string a0_1, .string a0_2, .slice A0_3 l0_3.length c0_3, .slice A0_4 l0_4.length c0_4, .int .i64 a0_5, .int .i64 a0_6, .int .i64 a0_7] 24 (0, 0)) (by (with_reducible skip); exact BK101.out) hb); have n1_ := Aside0.mk (blk_below (g := gb106) (o := .cells #[.int .i64 t104, .int .i64 t105] 32 (0, 0)) (by (with_reducible skip); exact BK106.out) hb); have n2_ := Aside0.mk (blk_below (g := gb109) (o := .cells #[.int .i64 t107, .int .i64 t108] 32 (0, 0)) (by (with_reducible skip); exact BK109.out) hb); have n3_ := Aside0.mk (blk_below (g := gb112) (o := .cells #[.int .i64 t110, .int .i64 t111] 32 (0, 0)) (by (with_reducible skip); exact BK112.out) hb); have n4_ := Aside0.mk (blk_below (g := gb115) (o := .cells #[.int .i64 t113, .int .i64 t114] 32 (0, 0)) (by (with_reducible skip); exact BK115.out) hb); have n5_ := Aside0.mk (below_step (by repeat ((with_reducible (exact HB.out)))) hb); clear BK101; clear BK106; clear BK109; clear BK112; clear BK115; clear HB; have BK101 := n0_; have BK106 := n1_; have BK109 := n2_; have BK112 := n3_; have BK115 := n4_; have HB := n5_; clear n0_ n1_ n2_ n3_ n4_ n5_; (try clear hb)) | ((with_reducible refine gate_dst (N := 8) rfl ?_); (try (refine gate_guard (by rfl) ?_; dsimp only)); refine box_event ?hg (N := 8) ?hd (cs := #[.int .i64 0, .int .i64 0]) (t := 32) ?hr ?_; (case hd => rfl); (case hg => rfl); (case hr => (go_simp; done)); intro gb130 hg w83 hbox hb; have n0_ := Aside0.mk (blk_below (g := gb101) (o := .cells #[.string a0_0, .string a0_1, .string a0_2, .slice A0_3 l0_3.length c0_3, .slice A0_4 l0_4.length c0_4, .int .i64 a0_5, .int .i64 a0_6, .int .i64 a0_7] 24 (0, 0)) (by (with_reducible skip); exact BK101.out) hb); have n1_ := Aside0.mk (blk_below (g := gb106) (o := .cells #[.int .i64 t104, .int .i64 t105] 32 (0, 0)) (by (with_reducible skip); exact BK106.out) hb); have n2_ := Aside0.mk (blk_below (g := gb109) (o := .cells #[.int .i64 t107, .int .i64 t108] 32 (0, 0)) (by (with_reducible skip); exact BK109.out) hb); have n3_ := Aside0.mk (blk_below (g := gb112) (o := .cells #[.int .i64 t110, .int .i64 t111] 32 (0, 0)) (by (with_reducible skip); exact BK112.out) hb); have n4_ := Aside0.mk (blk_below (g := gb115) (o := .cells #[.int .i64 t113, .int .i64 t114] 32 (0, 0)) (by (with_reducible skip); exact BK115.out) hb); have n5_ := Aside0.mk (below_step (by repeat ((with_reducible (exact HB.out)))) hb); have n6_ := Aside0.mk (hbox); have n7_ := Aside0.mk ((by rw [hg]; exact (below_size (by repeat ((with_reducible (exact HB.out))))) : w.heap.size ≤ gb130)); have n8_ := Aside0.mk ((by rw [hg]; exact (below_size (by repeat ((with_reducible (exact HB.out))))) : w.heap.size ≤ gb130)); have n9_ := Aside0.mk ((by rw [hg]; exact Nat.ne_of_lt (blk_lt (g := gb101) (o := .cells #[.string a0_0, .string a0_1, .string a0_2, .slice A0_3 l0_3.length c0_3, .slice A0_4 l0_4.length c0_4, .int .i64 a0_5, .int .i64 a0_6, .int .i64 a0_7] 24 (0, 0)) (by (with_reducible skip); exact BK101.out)) : gb101 ≠ gb130)); have n10_ := Aside0.mk ((by rw [hg]; exact Nat.ne_of_gt (blk_lt (g := gb101) (o := .cells #[.string a0_0, .string a0_1, .string a0_2, .slice A0_3 l0_3.length c0_3, .slice A0_4 l0_4.length c0_4, .int .i64 a0_5, .int .i64 a0_6, .int .i64 a0_7] 24 (0, 0)) (by (with_reducible skip); exact BK101.out)) : gb130 ≠ gb101)); have n11_ := Aside0.mk ((by rw [hg]; exact Nat.ne_of_lt (blk_lt (g := gb106) (o := .cells #[.int .i64 t104, .int .i64 t105] 32 (0, 0)) (by (with_reducible skip); exact BK106.out)) : gb106 ≠ gb130)); have n12_ := Aside0.mk ((by rw [hg]; exact Nat.ne_of_gt (blk_lt (g := gb106) (o := .cells #[.int .i64 t104, .int .i64 t105] 32 (0, 0)) (by (with_reducible skip); exact BK106.out)) : gb130 ≠ gb106)); have n13_ := Aside0.mk ((by rw [hg]; exact Nat.ne_of_lt (blk_lt (g := gb109) (o := .cells #[.int .i64 t107, .int .i64 t108] 32 (0, 0)) (by (with_reducible skip); exact BK109.out)) : gb109 ≠ gb130)); have n14_ := Aside0.mk ((by rw [hg]; exact Nat.ne_of_gt (blk_lt (g := gb109) (o := .cells #[.int .i64 t107, .int .i64 t108] 32 (0, 0)) (by (with_reducible skip); exact BK109.out)) : gb130 ≠ gb109)); have n15_ := Aside0.mk ((by rw [hg]; exact Nat.ne_of_lt (blk_lt (g := gb112) (o := .cells #[.int .i64 t110, .int .i64 t111] 32 (0, 0)) (by (with_reducible skip); exact BK112.out)) : gb112 ≠ gb130)); have n16_ := Aside0.mk ((by rw [hg]; exact Nat.ne_of_gt (blk_lt (g := gb112) (o := .cells #[.int .i64 t110, .int .i64 t111] 32 (0, 0)) (by (with_reducible skip); exact BK112.out)) : gb130 ≠ gb112)); have n17_ := Aside0.mk ((by rw [hg]; exact Nat.ne_of_lt (blk_lt (g := gb115) (o := .cells #[.int .i64 t113, .int .i64 t114] 32 (0, 0)) (by (with_reducible skip); exact BK115.out)) : gb115 ≠ gb130)); have n18_ := Aside0.mk ((by rw [hg]; exact Nat.ne_of_gt (blk_lt (g := gb115) (o := .cells #[.int .i64 t113, .int .i64 t114] 32 (0, 0)) (by (with_reducible skip); exact BK115.out)) : gb130 ≠ gb115)); clear BK101; clear BK106; clear BK109; clear BK112; clear BK115; clear HB; have BK101 := n0_; have BK106 := n1_; have BK109 := n2_; have BK112 := n3_; have BK115 := n4_; have HB := n5_; have BK130 := n6_; have GW130 := n7_; have GE130 := n8_; have NB101_130 := n9_; have NB130_101 := n10_; have NB106_130 := n11_; have NB130_106 := n12_; have NB109_130 := n13_; have NB130_109 := n14_; have NB112_130 := n15_; have NB130_112 := n16_; have NB115_130 := n17_; have NB130_115 := n18_; clear n0_ n1_ n2_ n3_ n4_ n5_ n6_ n7_ n8_ n9_ n10_ n11_ n12_ n13_ n14_ n15_ n16_ n17_ n18_; clear hb hbox hg; have hnb84 := NB130_101.out; have hnc84 := NB101_130.out; have hnb85 := NB130_106.out; have hnc85 := NB106_130.out; have hnb86 := NB130_109.out; have hnc86 := NB109_130.out; have hnb87 := NB130_112.out; have hnc87 := NB112_130.out; have hnb88 := NB130_115.out; have hnc88 := NB115_130.out; have hcz89_0 : w83.cell? ⟨gb130, 0, none⟩ = some (.int .i64 0) := (blk_cell BK130.out 0).trans rfl; have hcz89_1 : w83.cell? ⟨gb130, 1, none⟩ = some (.int .i64 0) := (blk_cell BK130.out 1).trans rfl; have hfz89_0 := blk_frozen BK130.out 0; have hfz89_1 := blk_frozen BK130.out 1))
        go_cut [9] (fun v9 wc => ∃ (kq : Nat) (x9_80 : Bool), v9 = .bool x9_80 ∧ Aside0 (cleanselaw04_MeasureSimilar.j2 kq t102 x9_80 a0_0 a0_1 a0_2 l0_3 l0_4 a0_5 a0_6 a0_7 t128 t129 = some r) ∧ Aside0 (kq ≤ kj65) ∧ Aside0 (wc.heap[gb101]? = some (.cells #[.string a0_0, .string a0_1, .string a0_2, (.slice A0_3 l0_3.length c0_3), (.slice A0_4 l0_4.length c0_4), .int .i64 a0_5, .int .i64 a0_6, .int .i64 a0_7] 24 (0, 0))) ∧ Aside0 (wc.heap[gb106]? = some (.cells #[.int .i64 t104, .int .i64 t105] 32 (0, 0))) ∧ Aside0 (wc.heap[gb109]? = some (.cells #[.int .i64 t107, .int .i64 t108] 32 (0, 0))) ∧ Aside0 (wc.heap[gb112]? = some (.cells #[.int .i64 t110, .int .i64 t111] 32 (0, 0))) ∧ Aside0 (wc.heap[gb115]? = some (.cells #[.int .i64 t113, .int .i64 t114] 32 (0, 0))) ∧ Aside0 (wc.heap[gb130]? = some (.cells #[.int .i64 t128, .int .i64 t129] 32 (0, 0))) ∧ Aside0 (Below w.heap.size w wc))
        case first =>
         have H := HC81.out
         clear HC81
         by_cases c90 : a0_7 ≥ 0
         ·rw [if_pos c90] at H
          have c90b0 : decide (0 ≤ a0_7) = true := decide_eq_true c90
          clear c90
          have H' := Aside0.mk H
          clear H
          have hnb91 := NB101_106.out
          have hnc91 := NB106_101.out
          have hnb92 := NB101_109.out
          have hnc92 := NB109_101.out
          have hnb93 := NB101_112.out
          have hnc93 := NB112_101.out
          have hnb94 := NB101_115.out
          have hnc94 := NB115_101.out
          have hnb95 := NB101_130.out
          have hnc95 := NB130_101.out
          have hcz96_0 : w83.cell? ⟨gb101, 0, none⟩ = some (.string a0_0) := (blk_cell BK101.out 0).trans rfl
          have hcz96_1 : w83.cell? ⟨gb101, 1, none⟩ = some (.string a0_1) := (blk_cell BK101.out 1).trans rfl
          have hcz96_2 : w83.cell? ⟨gb101, 2, none⟩ = some (.string a0_2) := (blk_cell BK101.out 2).trans rfl
          have hcz96_3 : w83.cell? ⟨gb101, 3, none⟩ = some (.slice A0_3 l0_3.length c0_3) := (blk_cell BK101.out 3).trans rfl
          have hcz96_4 : w83.cell? ⟨gb101, 4, none⟩ = some (.slice A0_4 l0_4.length c0_4) := (blk_cell BK101.out 4).trans rfl
          have hcz96_5 : w83.cell? ⟨gb101, 5, none⟩ = some (.int .i64 a0_5) := (blk_cell BK101.out 5).trans rfl
          have hcz96_6 : w83.cell? ⟨gb101, 6, none⟩ = some (.int .i64 a0_6) := (blk_cell BK101.out 6).trans rfl
          have hcz96_7 : w83.cell? ⟨gb101, 7, none⟩ = some (.int .i64 a0_7) := (blk_cell BK101.out 7).trans rfl
          have hfz96_0 := blk_frozen BK101.out 0
          have hfz96_1 := blk_frozen BK101.out 1
          have hfz96_2 := blk_frozen BK101.out 2
          have hfz96_3 := blk_frozen BK101.out 3
          have hfz96_4 := blk_frozen BK101.out 4
          have hfz96_5 := blk_frozen BK101.out 5
          have hfz96_6 := blk_frozen BK101.out 6
          have hfz96_7 := blk_frozen BK101.out 7
          go_wp2
          go_meet
          case rel => exact ⟨_, (decide (a0_7 < 1000000000)), (by rfl), H', ⟨by have := HJ8.out; have := HJ65.out; omega⟩, ⟨by (with_reducible skip); refine blk_far ?_ NB101_130.out _; (with_reducible skip); refine blk_far ?_ NB101_130.out _; (with_reducible skip); exact BK101.out⟩, ⟨by (with_reducible skip); refine blk_far ?_ NB106_130.out _; (with_reducible skip); refine blk_far ?_ NB106_130.out _; (with_reducible skip); exact BK106.out⟩, ⟨by (with_reducible skip); refine blk_far ?_ NB109_130.out _; (with_reducible skip); refine blk_far ?_ NB109_130.out _; (with_reducible skip); exact BK109.out⟩, ⟨by (with_reducible skip); refine blk_far ?_ NB112_130.out _; (with_reducible skip); refine blk_far ?_ NB112_130.out _; (with_reducible skip); exact BK112.out⟩, ⟨by (with_reducible skip); refine blk_far ?_ NB115_130.out _; (with_reducible skip); refine blk_far ?_ NB115_130.out _; (with_reducible skip); exact BK115.out⟩, ⟨by (with_reducible skip); refine blk_put (cs := #[.int .i64 t128, .int .i64 0]) ?_ 1 _ rfl; (with_reducible skip); refine blk_put (cs := #[.int .i64 0, .int .i64 0]) ?_ 0 _ rfl; (with_reducible skip); exact BK130.out⟩, ⟨by repeat ((with_reducible first | exact HB.out | refine below_set ?_ GE130.out))⟩⟩
         ·rw [if_neg c90] at H
          have c90b0 : decide (0 ≤ a0_7) = false := decide_eq_false c90
          clear c90
          have H' := Aside0.mk H
          clear H
          have hnb97 := NB101_106.out
          have hnc97 := NB106_101.out
          have hnb98 := NB101_109.out
          have hnc98 := NB109_101.out
          have hnb99 := NB101_112.out
          have hnc99 := NB112_101.out
          have hnb100 := NB101_115.out
          have hnc100 := NB115_101.out
          have hnb101 := NB101_130.out
          have hnc101 := NB130_101.out
          have hcz102_0 : w83.cell? ⟨gb101, 0, none⟩ = some (.string a0_0) := (blk_cell BK101.out 0).trans rfl
          have hcz102_1 : w83.cell? ⟨gb101, 1, none⟩ = some (.string a0_1) := (blk_cell BK101.out 1).trans rfl
          have hcz102_2 : w83.cell? ⟨gb101, 2, none⟩ = some (.string a0_2) := (blk_cell BK101.out 2).trans rfl
          have hcz102_3 : w83.cell? ⟨gb101, 3, none⟩ = some (.slice A0_3 l0_3.length c0_3) := (blk_cell BK101.out 3).trans rfl
          have hcz102_4 : w83.cell? ⟨gb101, 4, none⟩ = some (.slice A0_4 l0_4.length c0_4) := (blk_cell BK101.out 4).trans rfl
          have hcz102_5 : w83.cell? ⟨gb101, 5, none⟩ = some (.int .i64 a0_5) := (blk_cell BK101.out 5).trans rfl
          have hcz102_6 : w83.cell? ⟨gb101, 6, none⟩ = some (.int .i64 a0_6) := (blk_cell BK101.out 6).trans rfl
          have hcz102_7 : w83.cell? ⟨gb101, 7, none⟩ = some (.int .i64 a0_7) := (blk_cell BK101.out 7).trans rfl
          have hfz102_0 := blk_frozen BK101.out 0
          have hfz102_1 := blk_frozen BK101.out 1
          have hfz102_2 := blk_frozen BK101.out 2
          have hfz102_3 := blk_frozen BK101.out 3
          have hfz102_4 := blk_frozen BK101.out 4
          have hfz102_5 := blk_frozen BK101.out 5
          have hfz102_6 := blk_frozen BK101.out 6
          have hfz102_7 := blk_frozen BK101.out 7
          go_wp2
          go_meet
          case rel => exact ⟨_, (false), (by rfl), H', ⟨by have := HJ8.out; have := HJ65.out; omega⟩, ⟨by (with_reducible skip); refine blk_far ?_ NB101_130.out _; (with_reducible skip); refine blk_far ?_ NB101_130.out _; (with_reducible skip); exact BK101.out⟩, ⟨by (with_reducible skip); refine blk_far ?_ NB106_130.out _; (with_reducible skip); refine blk_far ?_ NB106_130.out _; (with_reducible skip); exact BK106.out⟩, ⟨by (with_reducible skip); refine blk_far ?_ NB109_130.out _; (with_reducible skip); refine blk_far ?_ NB109_130.out _; (with_reducible skip); exact BK109.out⟩, ⟨by (with_reducible skip); refine blk_far ?_ NB112_130.out _; (with_reducible skip); refine blk_far ?_ NB112_130.out _; (with_reducible skip); exact BK112.out⟩, ⟨by (with_reducible skip); refine blk_far ?_ NB115_130.out _; (with_reducible skip); refine blk_far ?_ NB115_130.out _; (with_reducible skip); exact BK115.out⟩, ⟨by (with_reducible skip); refine blk_put (cs := #[.int .i64 t128, .int .i64 0]) ?_ 1 _ rfl; (with_reducible skip); refine blk_put (cs := #[.int .i64 0, .int .i64 0]) ?_ 0 _ rfl; (with_reducible skip); exact BK130.out⟩, ⟨by repeat ((with_reducible first | exact HB.out | refine below_set ?_ GE130.out))⟩⟩
        case rest =>
         clear HC81
         clear hcz89_0 hcz89_1
         clear hfz89_0 hfz89_1
         obtain ⟨kq, x9_80, rfl, HA, HJ80, BK101, BK106, BK109, BK112, BK115, BK130, HB⟩ := hcut
         cases kq with
         | zero => exact absurd HA.out (by simp [cleanselaw04_MeasureSimilar.j2])
         | succ kj80 =>
          have H := HA.out
          clear HA
          simp only [cleanselaw04_MeasureSimilar.j2] at H
          by_cases c103 : t102 = true
          ·subst c103
           have H1 : ((measure_Alike.f kj80 a0_0 a0_0).bind fun bt131 => (if (bt131.1 == t128 && (bt131.2 == t129)) = true then ((measure_Jaccard.f kj80 l0_3 l0_3).bind fun bt133 => (if (bt133.1 == t128 && (bt133.2 == t129)) = true then (if (a0_0.size : Int) > 200 then ((measure_Near.f kj80 a0_5 a0_5 a0_7).bind fun bt135 => (some ((bt135.1 == t128 && (bt135.2 == t129)) == x9_80))) else ((measure_Jaro.f kj80 a0_0 a0_0).bind fun bt137 => (if (bt137.1 == t128 && (bt137.2 == t129)) = true then ((measure_Near.f kj80 a0_5 a0_5 a0_7).bind fun bt139 => (some ((bt139.1 == t128 && (bt139.2 == t129)) == x9_80))) else (some false)))) else (some false))) else (some false))) = some r := by rw [if_pos rfl] at H; exact H
           clear H
           have H := H1
           clear H1
           replace H := Option.bind_eq_some_iff.mp H
           obtain ⟨⟨t131, t132⟩, A1040, H⟩ := H
           replace H : (if (t131 == t128 && (t132 == t129)) = true then ((measure_Jaccard.f kj80 l0_3 l0_3).bind fun bt133 => (if (bt133.1 == t128 && (bt133.2 == t129)) = true then (if (a0_0.size : Int) > 200 then ((measure_Near.f kj80 a0_5 a0_5 a0_7).bind fun bt135 => (some ((bt135.1 == t128 && (bt135.2 == t129)) == x9_80))) else ((measure_Jaro.f kj80 a0_0 a0_0).bind fun bt137 => (if (bt137.1 == t128 && (bt137.2 == t129)) = true then ((measure_Near.f kj80 a0_5 a0_5 a0_7).bind fun bt139 => (some ((bt139.1 == t128 && (bt139.2 == t129)) == x9_80))) else (some false)))) else (some false))) else (some false)) = some r := H
           have A104 := Aside0.mk A1040
           clear A1040
           by_cases c105 : (t131 == t128 && (t132 == t129)) = true
           ·rw [if_pos c105] at H
            have c105b0 : (t131 == t128 && (t132 == t129)) = true := c105
            (try (have c105b1 : decide (t131 = t128 && (t132 == t129)) = true := by simpa using c105))
            (try (have c105b2 : (t131 == t128 && (t132 == t129)) = true := by simpa using c105))
            clear c105
            replace H := Option.bind_eq_some_iff.mp H
            obtain ⟨⟨t133, t134⟩, A1060, H⟩ := H
            replace H : (if (t133 == t128 && (t134 == t129)) = true then (if (a0_0.size : Int) > 200 then ((measure_Near.f kj80 a0_5 a0_5 a0_7).bind fun bt135 => (some ((bt135.1 == t128 && (bt135.2 == t129)) == x9_80))) else ((measure_Jaro.f kj80 a0_0 a0_0).bind fun bt137 => (if (bt137.1 == t128 && (bt137.2 == t129)) = true then ((measure_Near.f kj80 a0_5 a0_5 a0_7).bind fun bt139 => (some ((bt139.1 == t128 && (bt139.2 == t129)) == x9_80))) else (some false)))) else (some false)) = some r := H
            have A106 := Aside0.mk A1060
            clear A1060
            by_cases c107 : (t133 == t128 && (t134 == t129)) = true
            ·rw [if_pos c107] at H
             have c107b0 : (t133 == t128 && (t134 == t129)) = true := c107
             (try (have c107b1 : decide (t133 = t128 && (t134 == t129)) = true := by simpa using c107))
             (try (have c107b2 : (t133 == t128 && (t134 == t129)) = true := by simpa using c107))
             clear c107
             by_cases c108 : (a0_0.size : Int) > 200
             ·rw [if_pos c108] at H
              have c108b0 : decide (200 < (a0_0.size : Int)) = true := decide_eq_true c108
              have c108b1 : decide (200 < a0_0.size) = true := decide_eq_true (by omega)
              clear c108
              replace H := Option.bind_eq_some_iff.mp H
              obtain ⟨⟨t135, t136⟩, A1090, H⟩ := H
              replace H : (some ((t135 == t128 && (t136 == t129)) == x9_80)) = some r := H
              have A109 := Aside0.mk A1090
              clear A1090
              obtain rfl := Option.some.inj H
              try go_wp2
              have n0_ := Aside0.mk (blk_drew BK101.out)
              have n1_ := Aside0.mk (blk_drew BK106.out)
              have n2_ := Aside0.mk (blk_drew BK109.out)
              have n3_ := Aside0.mk (blk_drew BK112.out)
              have n4_ := Aside0.mk (blk_drew BK115.out)
              have n5_ := Aside0.mk (blk_drew BK130.out)
              have n6_ := Aside0.mk (below_drew1 HB.out)
              clear BK101
              clear BK106
              clear BK109
              clear BK112
              clear BK115
              clear BK130
              clear HB
              have BK101 := n0_
              have BK106 := n1_
              have BK109 := n2_
              have BK112 := n3_
              have BK115 := n4_
              have BK130 := n5_
              have HB := n6_
              clear n0_ n1_ n2_ n3_ n4_ n5_ n6_
              refine start_ (n := 48) (S := fun w' => w'.cell? ⟨gb101, 0, none⟩ = some (.string a0_0) ∧ w'.cell? ⟨gb101, 1, none⟩ = some (.string a0_1) ∧ w'.cell? ⟨gb101, 2, none⟩ = some (.string a0_2) ∧ w'.cell? ⟨gb101, 3, none⟩ = some (.slice A0_3 l0_3.length c0_3) ∧ w'.cell? ⟨gb101, 4, none⟩ = some (.slice A0_4 l0_4.length c0_4) ∧ w'.cell? ⟨gb101, 5, none⟩ = some (.int .i64 a0_5) ∧ w'.cell? ⟨gb101, 6, none⟩ = some (.int .i64 a0_6) ∧ w'.cell? ⟨gb101, 7, none⟩ = some (.int .i64 a0_7) ∧ w'.cell? ⟨gb130, 0, none⟩ = some (.int .i64 t128) ∧ w'.cell? ⟨gb130, 1, none⟩ = some (.int .i64 t129)) (ds := []) #[false, false, false, false, false, false, false, false, false, false, false, false, false, false, false, false, false, false, false, false, false, false, false, false, false, false, false, false, false, false, false, false, false, false, false, false, false, false, false, false, false, false, false, false, false, false, false, false] (by kernel_rfl) rfl rfl ⟨(blk_cell BK101.out 0).trans rfl, (blk_cell BK101.out 1).trans rfl, (blk_cell BK101.out 2).trans rfl, (blk_cell BK101.out 3).trans rfl, (blk_cell BK101.out 4).trans rfl, (blk_cell BK101.out 5).trans rfl, (blk_cell BK101.out 6).trans rfl, (blk_cell BK101.out 7).trans rfl, (blk_cell BK130.out 0).trans rfl, (blk_cell BK130.out 1).trans rfl⟩ (fun hHeld => ?_); refine with_tabW cleanselaw04_MeasureSimilar.tab14 cleanselaw04_MeasureSimilar.bits14 (fun HT_ HW_ => ?_)
              generalize wc.drew = w110 at BK101 BK106 BK109 BK112 BK115 BK130 HB hHeld ⊢
              refine pure_ (i := 0) (N := some 100) (v := ?_) (a' := ?_) #[true, false, false, false, false, false, false, false, false, false, false, false, false, false, false, false, false, false, false, false, false, false, false, false, false, false, false, false, false, false, false, false, false, false, false, false, false, false, false, false, false, false, false, false, false, false, false, false] rfl rfl (any_of HT_.out (by kernel_rfl)) (fun _ _ _ h => h) (Or.inl ⟨by rfl, ?_⟩) ?_ ?_
              rotate_left
              ·intro w'
               go_simp
               with_reducible rfl
              rotate_left
              ·simp only [Act.put, List.setIfInBounds_toArray, List.set_cons_zero, List.set_cons_succ, i64_w, i32_w]
               rfl
              refine pure_ (i := 1) (N := some 101) (v := ?_) (a' := ?_) #[true, true, false, false, false, false, false, false, false, false, false, false, false, false, false, false, false, false, false, false, false, false, false, false, false, false, false, false, false, false, false, false, false, false, false, false, false, false, false, false, false, false, false, false, false, false, false, false] rfl rfl (any_of HT_.out (by kernel_rfl)) (fun _ _ _ h => h) (Or.inl ⟨by rfl, ?_⟩) ?_ ?_
              rotate_left
              ·intro w'
               go_simp
               with_reducible rfl
              rotate_left
              ·simp only [Act.put, List.setIfInBounds_toArray, List.set_cons_zero, List.set_cons_succ, i64_w, i32_w]
               rfl
              refine pure_ (i := 2) (N := some 102) (v := ?_) (a' := ?_) #[true, true, true, false, false, false, false, false, false, false, false, false, false, false, false, false, false, false, false, false, false, false, false, false, false, false, false, false, false, false, false, false, false, false, false, false, false, false, false, false, false, false, false, false, false, false, false, false] rfl rfl (any_of HT_.out (by kernel_rfl)) (fun _ _ _ h => h) (Or.inl ⟨by rfl, ?_⟩) ?_ ?_
              rotate_left
              ·intro w'
               go_simp
               with_reducible rfl
              rotate_left
              ·simp only [Act.put, List.setIfInBounds_toArray, List.set_cons_zero, List.set_cons_succ, i64_w, i32_w]
               rfl
              refine pure_ (i := 4) (N := some 104) (v := ?_) (a' := ?_) #[true, true, true, false, true, false, false, false, false, false, false, false, false, false, false, false, false, false, false, false, false, false, false, false, false, false, false, false, false, false, false, false, false, false, false, false, false, false, false, false, false, false, false, false, false, false, false, false] rfl rfl (any_of HT_.out (by kernel_rfl)) (fun _ _ _ h => h) (Or.inl ⟨by rfl, ?_⟩) ?_ ?_
              rotate_left
              ·intro w'
               go_simp
               with_reducible rfl
              rotate_left
              ·simp only [Act.put, List.setIfInBounds_toArray, List.set_cons_zero, List.set_cons_succ, i64_w, i32_w]
               rfl
              refine take_ (i := 3) (N := some 103) (v := ?_) (a' := ?_) #[true, true, true, true, true, false, false, false, false, false, false, false, false, false, false, false, false, false, false, false, false, false, false, false, false, false, false, false, false, false, false, false, false, false, false, false, false, false, false, false, false, false, false, false, false, false, false, false] rfl rfl (take_ofW HT_.out HW_.out (by kernel_rfl)) (fun _ _ _ h => h) (Or.inl ⟨by rfl, ?_⟩) hHeld ?_ ?_
              rotate_left
              ·rintro w' ⟨s0, s1, s2, s3, s4, s5, s6, s7, s8, s9⟩
               go_simp
               with_reducible rfl
              rotate_left
              ·simp only [Act.put, List.setIfInBounds_toArray, List.set_cons_zero, List.set_cons_succ, i64_w, i32_w]
               rfl
              refine take_ (i := 5) (N := some 105) (v := ?_) (a' := ?_) #[true, true, true, true, true, true, false, false, false, false, false, false, false, false, false, false, false, false, false, false, false, false, false, false, false, false, false, false, false, false, false, false, false, false, false, false, false, false, false, false, false, false, false, false, false, false, false, false] rfl rfl (take_ofW HT_.out HW_.out (by kernel_rfl)) (fun _ _ _ h => h) (Or.inl ⟨by rfl, ?_⟩) hHeld ?_ ?_
              rotate_left
              ·rintro w' ⟨s0, s1, s2, s3, s4, s5, s6, s7, s8, s9⟩
               go_simp
               with_reducible rfl
              rotate_left
              ·simp only [Act.put, List.setIfInBounds_toArray, List.set_cons_zero, List.set_cons_succ, i64_w, i32_w]
               rfl
              refine take_ (i := 7) (N := some 107) (v := ?_) (a' := ?_) #[true, true, true, true, true, true, false, true, false, false, false, false, false, false, false, false, false, false, false, false, false, false, false, false, false, false, false, false, false, false, false, false, false, false, false, false, false, false, false, false, false, false, false, false, false, false, false, false] rfl rfl (take_ofW HT_.out HW_.out (by kernel_rfl)) (fun _ _ _ h => h) (Or.inl ⟨by rfl, ?_⟩) hHeld ?_ ?_
              rotate_left
              ·rintro w' ⟨s0, s1, s2, s3, s4, s5, s6, s7, s8, s9⟩
               go_simp
               with_reducible rfl
              rotate_left
              ·simp only [Act.put, List.setIfInBounds_toArray, List.set_cons_zero, List.set_cons_succ, i64_w, i32_w]
               rfl
              refine one_ (i := 6) (N := some 106) #[true, true, true, true, true, true, true, true, false, false, false, false, false, false, false, false, false, false, false, false, false, false, false, false, false, false, false, false, false, false, false, false, false, false, false, false, false, false, false, false, false, false, false, false, false, false, false, false] rfl rfl (one_of HT_.out (by kernel_rfl)) (by decide) (fun K hK => ?_)
              refine goes_ Tryd.func16 (by kernel_rfl) rfl #[.string a0_0, .string a0_0] (by rfl) rfl rfl (by (try simp only [List.map_toArray, List.map_cons, List.map_nil]); rfl) ?_
              with_reducible refine (measure_Alike.calls kj80 a0_0 a0_0 t131 t132 _ ?sGl A104.out).mono ?_
              case sGl => exact Gl.below HGl.out (by repeat ((with_reducible (exact HB.out))))
              rintro e w111 ⟨rfl, hb⟩
              refine ⟨_, rfl, ?_⟩
              have n0_ := Aside0.mk (blk_below (g := gb101) (o := .cells #[.string a0_0, .string a0_1, .string a0_2, .slice A0_3 l0_3.length c0_3, .slice A0_4 l0_4.length c0_4, .int .i64 a0_5, .int .i64 a0_6, .int .i64 a0_7] 24 (0, 0)) (by (with_reducible skip); exact BK101.out) hb)
              have n1_ := Aside0.mk (blk_below (g := gb106) (o := .cells #[.int .i64 t104, .int .i64 t105] 32 (0, 0)) (by (with_reducible skip); exact BK106.out) hb)
              have n2_ := Aside0.mk (blk_below (g := gb109) (o := .cells #[.int .i64 t107, .int .i64 t108] 32 (0, 0)) (by (with_reducible skip); exact BK109.out) hb)
              have n3_ := Aside0.mk (blk_below (g := gb112) (o := .cells #[.int .i64 t110, .int .i64 t111] 32 (0, 0)) (by (with_reducible skip); exact BK112.out) hb)
              have n4_ := Aside0.mk (blk_below (g := gb115) (o := .cells #[.int .i64 t113, .int .i64 t114] 32 (0, 0)) (by (with_reducible skip); exact BK115.out) hb)
              have n5_ := Aside0.mk (blk_below (g := gb130) (o := .cells #[.int .i64 t128, .int .i64 t129] 32 (0, 0)) (by (with_reducible skip); exact BK130.out) hb)
              have n6_ := Aside0.mk (below_step (by repeat ((with_reducible (exact HB.out)))) hb)
              clear BK101
              clear BK106
              clear BK109
              clear BK112
              clear BK115
              clear BK130
              clear HB
              have BK101 := n0_
              have BK106 := n1_
              have BK109 := n2_
              have BK112 := n3_
              have BK115 := n4_
              have BK130 := n5_
              have HB := n6_
              clear n0_ n1_ n2_ n3_ n4_ n5_ n6_
              (try clear hb)
              refine hK.out _ _ ⟨(blk_cell BK101.out 0).trans rfl, (blk_cell BK101.out 1).trans rfl, (blk_cell BK101.out 2).trans rfl, (blk_cell BK101.out 3).trans rfl, (blk_cell BK101.out 4).trans rfl, (blk_cell BK101.out 5).trans rfl, (blk_cell BK101.out 6).trans rfl, (blk_cell BK101.out 7).trans rfl, (blk_cell BK130.out 0).trans rfl, (blk_cell BK130.out 1).trans rfl⟩ (fun hHeld => ?_)
              clear hK K
              refine norm_ (a' := ?_) ?_ ?_
              rotate_left
              ·show Act.put _ (some 106) _ = _
               simp only [Act.put, List.setIfInBounds_toArray, List.set_cons_zero, List.set_cons_succ, i64_w, i32_w]
               rfl
              refine pure_ (i := 8) (N := some 108) (v := ?_) (a' := ?_) #[true, true, true, true, true, true, true, true, true, false, false, false, false, false, false, false, false, false, false, false, false, false, false, false, false, false, false, false, false, false, false, false, false, false, false, false, false, false, false, false, false, false, false, false, false, false, false, false] rfl rfl (any_of HT_.out (by kernel_rfl)) (fun _ _ _ h => h) (Or.inl ⟨by rfl, ?_⟩) ?_ ?_
              rotate_left
              ·intro w'
               go_simp
               with_reducible rfl
              rotate_left
              ·simp only [Act.put, List.setIfInBounds_toArray, List.set_cons_zero, List.set_cons_succ, i64_w, i32_w]
               rfl
              refine pure_ (i := 9) (N := some 109) (v := ?_) (a' := ?_) #[true, true, true, true, true, true, true, true, true, true, false, false, false, false, false, false, false, false, false, false, false, false, false, false, false, false, false, false, false, false, false, false, false, false, false, false, false, false, false, false, false, false, false, false, false, false, false, false] rfl rfl (any_of HT_.out (by kernel_rfl)) (fun _ _ _ h => h) (Or.inl ⟨by rfl, ?_⟩) ?_ ?_
              rotate_left
              ·intro w'
               go_simp
               with_reducible rfl
              rotate_left
              ·simp only [Act.put, List.setIfInBounds_toArray, List.set_cons_zero, List.set_cons_succ, i64_w, i32_w]
               rfl
              refine pure_ (i := 10) (N := some 110) (v := ?_) (a' := ?_) #[true, true, true, true, true, true, true, true, true, true, true, false, false, false, false, false, false, false, false, false, false, false, false, false, false, false, false, false, false, false, false, false, false, false, false, false, false, false, false, false, false, false, false, false, false, false, false, false] rfl rfl (any_of HT_.out (by kernel_rfl)) (fun _ _ _ h => h) (Or.inl ⟨by rfl, ?_⟩) ?_ ?_
              rotate_left
              ·intro w'
               go_simp
               with_reducible rfl
              rotate_left
              ·simp only [Act.put, List.setIfInBounds_toArray, List.set_cons_zero, List.set_cons_succ, i64_w, i32_w]
               rfl
              refine pure_ (i := 11) (N := some 111) (v := ?_) (a' := ?_) #[true, true, true, true, true, true, true, true, true, true, true, true, false, false, false, false, false, false, false, false, false, false, false, false, false, false, false, false, false, false, false, false, false, false, false, false, false, false, false, false, false, false, false, false, false, false, false, false] rfl rfl (any_of HT_.out (by kernel_rfl)) (fun _ _ _ h => h) (Or.inl ⟨by rfl, ?_⟩) ?_ ?_
              rotate_left
              ·intro w'
               go_simp
               with_reducible rfl
              rotate_left
              ·simp only [Act.put, List.setIfInBounds_toArray, List.set_cons_zero, List.set_cons_succ, i64_w, i32_w]
               rfl
              refine pure_ (i := 13) (N := some 113) (v := ?_) (a' := ?_) #[true, true, true, true, true, true, true, true, true, true, true, true, false, true, false, false, false, false, false, false, false, false, false, false, false, false, false, false, false, false, false, false, false, false, false, false, false, false, false, false, false, false, false, false, false, false, false, false] rfl rfl (any_of HT_.out (by kernel_rfl)) (fun _ _ _ h => h) (Or.inl ⟨by rfl, ?_⟩) ?_ ?_
              rotate_left
              ·intro w'
               go_simp
               with_reducible rfl
              rotate_left
              ·simp only [Act.put, List.setIfInBounds_toArray, List.set_cons_zero, List.set_cons_succ, i64_w, i32_w]
               rfl
              refine take_ (i := 12) (N := some 112) (v := ?_) (a' := ?_) #[true, true, true, true, true, true, true, true, true, true, true, true, true, true, false, false, false, false, false, false, false, false, false, false, false, false, false, false, false, false, false, false, false, false, false, false, false, false, false, false, false, false, false, false, false, false, false, false] rfl rfl (take_ofW HT_.out HW_.out (by kernel_rfl)) (fun _ _ _ h => h) (Or.inl ⟨by rfl, ?_⟩) hHeld ?_ ?_
              rotate_left
              ·rintro w' ⟨s0, s1, s2, s3, s4, s5, s6, s7, s8, s9⟩
               go_simp
               with_reducible rfl
              rotate_left
              ·simp only [Act.put, List.setIfInBounds_toArray, List.set_cons_zero, List.set_cons_succ, i64_w, i32_w]
               rfl
              refine take_ (i := 14) (N := some 114) (v := ?_) (a' := ?_) #[true, true, true, true, true, true, true, true, true, true, true, true, true, true, true, false, false, false, false, false, false, false, false, false, false, false, false, false, false, false, false, false, false, false, false, false, false, false, false, false, false, false, false, false, false, false, false, false] rfl rfl (take_ofW HT_.out HW_.out (by kernel_rfl)) (fun _ _ _ h => h) (Or.inl ⟨by rfl, ?_⟩) hHeld ?_ ?_
              rotate_left
              ·rintro w' ⟨s0, s1, s2, s3, s4, s5, s6, s7, s8, s9⟩
               go_simp
               with_reducible rfl
              rotate_left
              ·simp only [Act.put, List.setIfInBounds_toArray, List.set_cons_zero, List.set_cons_succ, i64_w, i32_w]
               rfl
              refine take_ (i := 16) (N := some 116) (v := ?_) (a' := ?_) #[true, true, true, true, true, true, true, true, true, true, true, true, true, true, true, false, true, false, false, false, false, false, false, false, false, false, false, false, false, false, false, false, false, false, false, false, false, false, false, false, false, false, false, false, false, false, false, false] rfl rfl (take_ofW HT_.out HW_.out (by kernel_rfl)) (fun _ _ _ h => h) (Or.inl ⟨by rfl, ?_⟩) hHeld ?_ ?_
              rotate_left
              ·rintro w' ⟨s0, s1, s2, s3, s4, s5, s6, s7, s8, s9⟩
               go_simp
               with_reducible rfl
              rotate_left
              ·simp only [Act.put, List.setIfInBounds_toArray, List.set_cons_zero, List.set_cons_succ, i64_w, i32_w]
               rfl
              refine one_ (i := 15) (N := some 115) #[true, true, true, true, true, true, true, true, true, true, true, true, true, true, true, true, true, false, false, false, false, false, false, false, false, false, false, false, false, false, false, false, false, false, false, false, false, false, false, false, false, false, false, false, false, false, false, false] rfl rfl (one_of HT_.out (by kernel_rfl)) (by decide) (fun K hK => ?_)
              refine goes_ Tryd.func18 (by kernel_rfl) rfl #[.slice A0_3 l0_3.length c0_3, .slice A0_3 l0_3.length c0_3] (by rfl) rfl rfl (by (try simp only [List.map_toArray, List.map_cons, List.map_nil]); rfl) ?_
              with_reducible refine (measure_Jaccard.calls kj80 _ _ l0_3 _ _ l0_3 t133 t134 _ ?side1 ?side2 ?side3 ?side4 ?sGl A106.out).mono ?_
              case sGl => exact Gl.below HGl.out (by repeat ((with_reducible (exact HB.out))))
              (case side1 => repeat ((exact (Kd.C_below HR0_3.out HB.out))))
              (case side2 => exact HC0_3.out)
              (case side3 => repeat ((exact (Kd.C_below HR0_3.out HB.out))))
              (case side4 => exact HC0_3.out)
              rintro e w112 ⟨rfl, hb⟩
              refine ⟨_, rfl, ?_⟩
              have n0_ := Aside0.mk (blk_below (g := gb101) (o := .cells #[.string a0_0, .string a0_1, .string a0_2, .slice A0_3 l0_3.length c0_3, .slice A0_4 l0_4.length c0_4, .int .i64 a0_5, .int .i64 a0_6, .int .i64 a0_7] 24 (0, 0)) (by (with_reducible skip); exact BK101.out) hb)
              have n1_ := Aside0.mk (blk_below (g := gb106) (o := .cells #[.int .i64 t104, .int .i64 t105] 32 (0, 0)) (by (with_reducible skip); exact BK106.out) hb)
              have n2_ := Aside0.mk (blk_below (g := gb109) (o := .cells #[.int .i64 t107, .int .i64 t108] 32 (0, 0)) (by (with_reducible skip); exact BK109.out) hb)
              have n3_ := Aside0.mk (blk_below (g := gb112) (o := .cells #[.int .i64 t110, .int .i64 t111] 32 (0, 0)) (by (with_reducible skip); exact BK112.out) hb)
              have n4_ := Aside0.mk (blk_below (g := gb115) (o := .cells #[.int .i64 t113, .int .i64 t114] 32 (0, 0)) (by (with_reducible skip); exact BK115.out) hb)
              have n5_ := Aside0.mk (blk_below (g := gb130) (o := .cells #[.int .i64 t128, .int .i64 t129] 32 (0, 0)) (by (with_reducible skip); exact BK130.out) hb)
              have n6_ := Aside0.mk (below_step (by repeat ((with_reducible (exact HB.out)))) hb)
              clear BK101
              clear BK106
              clear BK109
              clear BK112
              clear BK115
              clear BK130
              clear HB
              have BK101 := n0_
              have BK106 := n1_
              have BK109 := n2_
              have BK112 := n3_
              have BK115 := n4_
              have BK130 := n5_
              have HB := n6_
              clear n0_ n1_ n2_ n3_ n4_ n5_ n6_
              (try clear hb)
              refine hK.out _ _ ⟨(blk_cell BK101.out 0).trans rfl, (blk_cell BK101.out 1).trans rfl, (blk_cell BK101.out 2).trans rfl, (blk_cell BK101.out 3).trans rfl, (blk_cell BK101.out 4).trans rfl, (blk_cell BK101.out 5).trans rfl, (blk_cell BK101.out 6).trans rfl, (blk_cell BK101.out 7).trans rfl, (blk_cell BK130.out 0).trans rfl, (blk_cell BK130.out 1).trans rfl⟩ (fun hHeld => ?_)
              clear hK K
              refine norm_ (a' := ?_) ?_ ?_
              rotate_left
              ·show Act.put _ (some 115) _ = _
               simp only [Act.put, List.setIfInBounds_toArray, List.set_cons_zero, List.set_cons_succ, i64_w, i32_w]
               rfl
              refine pure_ (i := 17) (N := some 117) (v := ?_) (a' := ?_) #[true, true, true, true, true, true, true, true, true, true, true, true, true, true, true, true, true, true, false, false, false, false, false, false, false, false, false, false, false, false, false, false, false, false, false, false, false, false, false, false, false, false, false, false, false, false, false, false] rfl rfl (any_of HT_.out (by kernel_rfl)) (fun _ _ _ h => h) (Or.inl ⟨by rfl, ?_⟩) ?_ ?_
              rotate_left
              ·intro w'
               go_simp
               with_reducible rfl
              rotate_left
              ·simp only [Act.put, List.setIfInBounds_toArray, List.set_cons_zero, List.set_cons_succ, i64_w, i32_w]
               rfl
              refine pure_ (i := 18) (N := some 118) (v := ?_) (a' := ?_) #[true, true, true, true, true, true, true, true, true, true, true, true, true, true, true, true, true, true, true, false, false, false, false, false, false, false, false, false, false, false, false, false, false, false, false, false, false, false, false, false, false, false, false, false, false, false, false, false] rfl rfl (any_of HT_.out (by kernel_rfl)) (fun _ _ _ h => h) (Or.inl ⟨by rfl, ?_⟩) ?_ ?_
              rotate_left
              ·intro w'
               go_simp
               with_reducible rfl
              rotate_left
              ·simp only [Act.put, List.setIfInBounds_toArray, List.set_cons_zero, List.set_cons_succ, i64_w, i32_w]
               rfl
              refine pure_ (i := 19) (N := some 119) (v := ?_) (a' := ?_) #[true, true, true, true, true, true, true, true, true, true, true, true, true, true, true, true, true, true, true, true, false, false, false, false, false, false, false, false, false, false, false, false, false, false, false, false, false, false, false, false, false, false, false, false, false, false, false, false] rfl rfl (any_of HT_.out (by kernel_rfl)) (fun _ _ _ h => h) (Or.inl ⟨by rfl, ?_⟩) ?_ ?_
              rotate_left
              ·intro w'
               go_simp
               with_reducible rfl
              rotate_left
              ·simp only [Act.put, List.setIfInBounds_toArray, List.set_cons_zero, List.set_cons_succ, i64_w, i32_w]
               rfl
              refine pure_ (i := 20) (N := some 120) (v := ?_) (a' := ?_) #[true, true, true, true, true, true, true, true, true, true, true, true, true, true, true, true, true, true, true, true, true, false, false, false, false, false, false, false, false, false, false, false, false, false, false, false, false, false, false, false, false, false, false, false, false, false, false, false] rfl rfl (any_of HT_.out (by kernel_rfl)) (fun _ _ _ h => h) (Or.inl ⟨by rfl, ?_⟩) ?_ ?_
              rotate_left
              ·intro w'
               go_simp
               with_reducible rfl
              rotate_left
              ·simp only [Act.put, List.setIfInBounds_toArray, List.set_cons_zero, List.set_cons_succ, i64_w, i32_w]
               rfl
              refine take_ (i := 21) (N := some 121) (v := ?_) (a' := ?_) #[true, true, true, true, true, true, true, true, true, true, true, true, true, true, true, true, true, true, true, true, true, true, false, false, false, false, false, false, false, false, false, false, false, false, false, false, false, false, false, false, false, false, false, false, false, false, false, false] rfl rfl (take_ofW HT_.out HW_.out (by kernel_rfl)) (fun _ _ _ h => h) (Or.inl ⟨by rfl, ?_⟩) hHeld ?_ ?_
              rotate_left
              ·rintro w' ⟨s0, s1, s2, s3, s4, s5, s6, s7, s8, s9⟩
               go_simp
               with_reducible rfl
              rotate_left
              ·simp only [Act.put, List.setIfInBounds_toArray, List.set_cons_zero, List.set_cons_succ, i64_w, i32_w]
               rfl
              refine pure_ (i := 22) (N := some 122) (v := ?_) (a' := ?_) #[true, true, true, true, true, true, true, true, true, true, true, true, true, true, true, true, true, true, true, true, true, true, true, false, false, false, false, false, false, false, false, false, false, false, false, false, false, false, false, false, false, false, false, false, false, false, false, false] rfl rfl (any_of HT_.out (by kernel_rfl)) (fun _ _ _ h => h) (Or.inl ⟨by rfl, ?_⟩) ?_ ?_
              rotate_left
              ·intro w'
               go_simp
               with_reducible rfl
              rotate_left
              ·simp only [Act.put, List.setIfInBounds_toArray, List.set_cons_zero, List.set_cons_succ, i64_w, i32_w]
               rfl
              refine pure_ (i := 23) (N := some 123) (v := ?_) (a' := ?_) #[true, true, true, true, true, true, true, true, true, true, true, true, true, true, true, true, true, true, true, true, true, true, true, true, false, false, false, false, false, false, false, false, false, false, false, false, false, false, false, false, false, false, false, false, false, false, false, false] rfl rfl (any_of HT_.out (by kernel_rfl)) (fun _ _ _ h => h) (Or.inl ⟨by rfl, ?_⟩) ?_ ?_
              rotate_left
              ·intro w'
               go_simp
               with_reducible rfl
              rotate_left
              ·simp only [Act.put, List.setIfInBounds_toArray, List.set_cons_zero, List.set_cons_succ, i64_w, i32_w]
               rfl
              refine pure_ (i := 24) (N := some 124) (v := ?_) (a' := ?_) #[true, true, true, true, true, true, true, true, true, true, true, true, true, true, true, true, true, true, true, true, true, true, true, true, true, false, false, false, false, false, false, false, false, false, false, false, false, false, false, false, false, false, false, false, false, false, false, false] rfl rfl (any_of HT_.out (by kernel_rfl)) (fun _ _ _ h => h) (Or.inl ⟨by rfl, ?_⟩) ?_ ?_
              rotate_left
              ·intro w'
               go_simp
               with_reducible rfl
              rotate_left
              ·simp only [Act.put, List.setIfInBounds_toArray, List.set_cons_zero, List.set_cons_succ, i64_w, i32_w]
               rfl
              refine pure_ (i := 25) (N := some 125) (v := undef) (a' := ?_) #[true, true, true, true, true, true, true, true, true, true, true, true, true, true, true, true, true, true, true, true, true, true, true, true, true, true, false, false, false, false, false, false, false, false, false, false, false, false, false, false, false, false, false, false, false, false, false, false] rfl rfl (any_of HT_.out (by kernel_rfl)) (fun _ _ _ h => h) (Or.inr ⟨by rfl, rfl⟩) ?_ ?_
              rotate_left
              ·simp only [Act.put, List.setIfInBounds_toArray, List.set_cons_zero, List.set_cons_succ, i64_w, i32_w]
               rfl
              refine pure_ (i := 26) (N := some 126) (v := undef) (a' := ?_) #[true, true, true, true, true, true, true, true, true, true, true, true, true, true, true, true, true, true, true, true, true, true, true, true, true, true, true, false, false, false, false, false, false, false, false, false, false, false, false, false, false, false, false, false, false, false, false, false] rfl rfl (any_of HT_.out (by kernel_rfl)) (fun _ _ _ h => h) (Or.inr ⟨by rfl, rfl⟩) ?_ ?_
              rotate_left
              ·simp only [Act.put, List.setIfInBounds_toArray, List.set_cons_zero, List.set_cons_succ, i64_w, i32_w]
               rfl
              refine pure_ (i := 27) (N := some 127) (v := undef) (a' := ?_) #[true, true, true, true, true, true, true, true, true, true, true, true, true, true, true, true, true, true, true, true, true, true, true, true, true, true, true, true, false, false, false, false, false, false, false, false, false, false, false, false, false, false, false, false, false, false, false, false] rfl rfl (any_of HT_.out (by kernel_rfl)) (fun _ _ _ h => h) (Or.inr ⟨by rfl, rfl⟩) ?_ ?_
              rotate_left
              ·simp only [Act.put, List.setIfInBounds_toArray, List.set_cons_zero, List.set_cons_succ, i64_w, i32_w]
               rfl
              refine pure_ (i := 28) (N := some 128) (v := undef) (a' := ?_) #[true, true, true, true, true, true, true, true, true, true, true, true, true, true, true, true, true, true, true, true, true, true, true, true, true, true, true, true, true, false, false, false, false, false, false, false, false, false, false, false, false, false, false, false, false, false, false, false] rfl rfl (any_of HT_.out (by kernel_rfl)) (fun _ _ _ h => h) (Or.inr ⟨by rfl, rfl⟩) ?_ ?_
              rotate_left
              ·simp only [Act.put, List.setIfInBounds_toArray, List.set_cons_zero, List.set_cons_succ, i64_w, i32_w]
               rfl
              refine pure_ (i := 29) (N := some 129) (v := undef) (a' := ?_) #[true, true, true, true, true, true, true, true, true, true, true, true, true, true, true, true, true, true, true, true, true, true, true, true, true, true, true, true, true, true, false, false, false, false, false, false, false, false, false, false, false, false, false, false, false, false, false, false] rfl rfl (any_of HT_.out (by kernel_rfl)) (fun _ _ _ h => h) (Or.inr ⟨by rfl, rfl⟩) ?_ ?_
              rotate_left
              ·simp only [Act.put, List.setIfInBounds_toArray, List.set_cons_zero, List.set_cons_succ, i64_w, i32_w]
               rfl
              refine pure_ (i := 30) (N := some 130) (v := undef) (a' := ?_) #[true, true, true, true, true, true, true, true, true, true, true, true, true, true, true, true, true, true, true, true, true, true, true, true, true, true, true, true, true, true, true, false, false, false, false, false, false, false, false, false, false, false, false, false, false, false, false, false] rfl rfl (any_of HT_.out (by kernel_rfl)) (fun _ _ _ h => h) (Or.inr ⟨by rfl, rfl⟩) ?_ ?_
              rotate_left
              ·simp only [Act.put, List.setIfInBounds_toArray, List.set_cons_zero, List.set_cons_succ, i64_w, i32_w]
               rfl
              refine pure_ (i := 31) (N := some 131) (v := undef) (a' := ?_) #[true, true, true, true, true, true, true, true, true, true, true, true, true, true, true, true, true, true, true, true, true, true, true, true, true, true, true, true, true, true, true, true, false, false, false, false, false, false, false, false, false, false, false, false, false, false, false, false] rfl rfl (any_of HT_.out (by kernel_rfl)) (fun _ _ _ h => h) (Or.inr ⟨by rfl, rfl⟩) ?_ ?_
              rotate_left
              ·simp only [Act.put, List.setIfInBounds_toArray, List.set_cons_zero, List.set_cons_succ, i64_w, i32_w]
               rfl
              refine pure_ (i := 32) (N := some 132) (v := ?_) (a' := ?_) #[true, true, true, true, true, true, true, true, true, true, true, true, true, true, true, true, true, true, true, true, true, true, true, true, true, true, true, true, true, true, true, true, true, false, false, false, false, false, false, false, false, false, false, false, false, false, false, false] rfl rfl (any_of HT_.out (by kernel_rfl)) (fun _ _ _ h => h) (Or.inl ⟨by rfl, ?_⟩) ?_ ?_
              rotate_left
              ·intro w'
               go_simp
               with_reducible rfl
              rotate_left
              ·simp only [Act.put, List.setIfInBounds_toArray, List.set_cons_zero, List.set_cons_succ, i64_w, i32_w]
               rfl
              refine pure_ (i := 33) (N := some 133) (v := ?_) (a' := ?_) #[true, true, true, true, true, true, true, true, true, true, true, true, true, true, true, true, true, true, true, true, true, true, true, true, true, true, true, true, true, true, true, true, true, true, false, false, false, false, false, false, false, false, false, false, false, false, false, false] rfl rfl (any_of HT_.out (by kernel_rfl)) (fun _ _ _ h => h) (Or.inl ⟨by rfl, ?_⟩) ?_ ?_
              rotate_left
              ·intro w'
               go_simp
               with_reducible rfl
              rotate_left
              ·simp only [Act.put, List.setIfInBounds_toArray, List.set_cons_zero, List.set_cons_succ, i64_w, i32_w]
               rfl
              refine pure_ (i := 34) (N := some 134) (v := ?_) (a' := ?_) #[true, true, true, true, true, true, true, true, true, true, true, true, true, true, true, true, true, true, true, true, true, true, true, true, true, true, true, true, true, true, true, true, true, true, true, false, false, false, false, false, false, false, false, false, false, false, false, false] rfl rfl (any_of HT_.out (by kernel_rfl)) (fun _ _ _ h => h) (Or.inl ⟨by rfl, ?_⟩) ?_ ?_
              rotate_left
              ·intro w'
               go_simp
               with_reducible rfl
              rotate_left
              ·simp only [Act.put, List.setIfInBounds_toArray, List.set_cons_zero, List.set_cons_succ, i64_w, i32_w]
               rfl
              refine pure_ (i := 35) (N := some 135) (v := ?_) (a' := ?_) #[true, true, true, true, true, true, true, true, true, true, true, true, true, true, true, true, true, true, true, true, true, true, true, true, true, true, true, true, true, true, true, true, true, true, true, true, false, false, false, false, false, false, false, false, false, false, false, false] rfl rfl (any_of HT_.out (by kernel_rfl)) (fun _ _ _ h => h) (Or.inl ⟨by rfl, ?_⟩) ?_ ?_
              rotate_left
              ·intro w'
               go_simp
               with_reducible rfl
              rotate_left
              ·simp only [Act.put, List.setIfInBounds_toArray, List.set_cons_zero, List.set_cons_succ, i64_w, i32_w]
               rfl
              refine pure_ (i := 37) (N := some 137) (v := ?_) (a' := ?_) #[true, true, true, true, true, true, true, true, true, true, true, true, true, true, true, true, true, true, true, true, true, true, true, true, true, true, true, true, true, true, true, true, true, true, true, true, false, true, false, false, false, false, false, false, false, false, false, false] rfl rfl (any_of HT_.out (by kernel_rfl)) (fun _ _ _ h => h) (Or.inl ⟨by rfl, ?_⟩) ?_ ?_
              rotate_left
              ·intro w'
               go_simp
               with_reducible rfl
              rotate_left
              ·simp only [Act.put, List.setIfInBounds_toArray, List.set_cons_zero, List.set_cons_succ, i64_w, i32_w]
               rfl
              refine pure_ (i := 39) (N := some 139) (v := ?_) (a' := ?_) #[true, true, true, true, true, true, true, true, true, true, true, true, true, true, true, true, true, true, true, true, true, true, true, true, true, true, true, true, true, true, true, true, true, true, true, true, false, true, false, true, false, false, false, false, false, false, false, false] rfl rfl (any_of HT_.out (by kernel_rfl)) (fun _ _ _ h => h) (Or.inl ⟨by rfl, ?_⟩) ?_ ?_
              rotate_left
              ·intro w'
               go_simp
               with_reducible rfl
              rotate_left
              ·simp only [Act.put, List.setIfInBounds_toArray, List.set_cons_zero, List.set_cons_succ, i64_w, i32_w]
               rfl
              refine pure_ (i := 44) (N := some 144) (v := ?_) (a' := ?_) #[true, true, true, true, true, true, true, true, true, true, true, true, true, true, true, true, true, true, true, true, true, true, true, true, true, true, true, true, true, true, true, true, true, true, true, true, false, true, false, true, false, false, false, false, true, false, false, false] rfl rfl (any_of HT_.out (by kernel_rfl)) (fun _ _ _ h => h) (Or.inl ⟨by rfl, ?_⟩) ?_ ?_
              rotate_left
              ·intro w'
               go_simp
               with_reducible rfl
              rotate_left
              ·simp only [Act.put, List.setIfInBounds_toArray, List.set_cons_zero, List.set_cons_succ, i64_w, i32_w]
               rfl
              refine take_ (i := 36) (N := some 136) (v := ?_) (a' := ?_) #[true, true, true, true, true, true, true, true, true, true, true, true, true, true, true, true, true, true, true, true, true, true, true, true, true, true, true, true, true, true, true, true, true, true, true, true, true, true, false, true, false, false, false, false, true, false, false, false] rfl rfl (take_ofW HT_.out HW_.out (by kernel_rfl)) (fun _ _ _ h => h) (Or.inl ⟨by rfl, ?_⟩) hHeld ?_ ?_
              rotate_left
              ·rintro w' ⟨s0, s1, s2, s3, s4, s5, s6, s7, s8, s9⟩
               go_simp
               with_reducible rfl
              rotate_left
              ·simp only [Act.put, List.setIfInBounds_toArray, List.set_cons_zero, List.set_cons_succ, i64_w, i32_w]
               rfl
              refine take_ (i := 38) (N := some 138) (v := ?_) (a' := ?_) #[true, true, true, true, true, true, true, true, true, true, true, true, true, true, true, true, true, true, true, true, true, true, true, true, true, true, true, true, true, true, true, true, true, true, true, true, true, true, true, true, false, false, false, false, true, false, false, false] rfl rfl (take_ofW HT_.out HW_.out (by kernel_rfl)) (fun _ _ _ h => h) (Or.inl ⟨by rfl, ?_⟩) hHeld ?_ ?_
              rotate_left
              ·rintro w' ⟨s0, s1, s2, s3, s4, s5, s6, s7, s8, s9⟩
               go_simp
               with_reducible rfl
              rotate_left
              ·simp only [Act.put, List.setIfInBounds_toArray, List.set_cons_zero, List.set_cons_succ, i64_w, i32_w]
               rfl
              refine take_ (i := 40) (N := some 140) (v := ?_) (a' := ?_) #[true, true, true, true, true, true, true, true, true, true, true, true, true, true, true, true, true, true, true, true, true, true, true, true, true, true, true, true, true, true, true, true, true, true, true, true, true, true, true, true, true, false, false, false, true, false, false, false] rfl rfl (take_ofW HT_.out HW_.out (by kernel_rfl)) (fun _ _ _ h => h) (Or.inl ⟨by rfl, ?_⟩) hHeld ?_ ?_
              rotate_left
              ·rintro w' ⟨s0, s1, s2, s3, s4, s5, s6, s7, s8, s9⟩
               go_simp
               with_reducible rfl
              rotate_left
              ·simp only [Act.put, List.setIfInBounds_toArray, List.set_cons_zero, List.set_cons_succ, i64_w, i32_w]
               rfl
              refine take_ (i := 42) (N := some 142) (v := ?_) (a' := ?_) #[true, true, true, true, true, true, true, true, true, true, true, true, true, true, true, true, true, true, true, true, true, true, true, true, true, true, true, true, true, true, true, true, true, true, true, true, true, true, true, true, true, false, true, false, true, false, false, false] rfl rfl (take_ofW HT_.out HW_.out (by kernel_rfl)) (fun _ _ _ h => h) (Or.inl ⟨by rfl, ?_⟩) hHeld ?_ ?_
              rotate_left
              ·rintro w' ⟨s0, s1, s2, s3, s4, s5, s6, s7, s8, s9⟩
               go_simp
               with_reducible rfl
              rotate_left
              ·simp only [Act.put, List.setIfInBounds_toArray, List.set_cons_zero, List.set_cons_succ, i64_w, i32_w]
               rfl
              refine one_ (i := 41) (N := some 141) #[true, true, true, true, true, true, true, true, true, true, true, true, true, true, true, true, true, true, true, true, true, true, true, true, true, true, true, true, true, true, true, true, true, true, true, true, true, true, true, true, true, true, true, false, true, false, false, false] rfl rfl (one_of HT_.out (by kernel_rfl)) (by decide) (fun K hK => ?_)
              refine goes_ Tryd.func24 (by kernel_rfl) rfl #[.int .i64 a0_5, .int .i64 a0_5, .int .i64 a0_7] (by rfl) rfl rfl (by (try simp only [List.map_toArray, List.map_cons, List.map_nil]); rfl) ?_
              with_reducible refine (measure_Near.calls kj80 a0_5 a0_5 a0_7 t135 t136 _ ?sGl A109.out).mono ?_
              case sGl => exact Gl.below HGl.out (by repeat ((with_reducible (exact HB.out))))
              rintro e w113 ⟨rfl, hb⟩
              refine ⟨_, rfl, ?_⟩
              have n0_ := Aside0.mk (blk_below (g := gb101) (o := .cells #[.string a0_0, .string a0_1, .string a0_2, .slice A0_3 l0_3.length c0_3, .slice A0_4 l0_4.length c0_4, .int .i64 a0_5, .int .i64 a0_6, .int .i64 a0_7] 24 (0, 0)) (by (with_reducible skip); exact BK101.out) hb)
              have n1_ := Aside0.mk (blk_below (g := gb106) (o := .cells #[.int .i64 t104, .int .i64 t105] 32 (0, 0)) (by (with_reducible skip); exact BK106.out) hb)
              have n2_ := Aside0.mk (blk_below (g := gb109) (o := .cells #[.int .i64 t107, .int .i64 t108] 32 (0, 0)) (by (with_reducible skip); exact BK109.out) hb)
              have n3_ := Aside0.mk (blk_below (g := gb112) (o := .cells #[.int .i64 t110, .int .i64 t111] 32 (0, 0)) (by (with_reducible skip); exact BK112.out) hb)
              have n4_ := Aside0.mk (blk_below (g := gb115) (o := .cells #[.int .i64 t113, .int .i64 t114] 32 (0, 0)) (by (with_reducible skip); exact BK115.out) hb)
              have n5_ := Aside0.mk (blk_below (g := gb130) (o := .cells #[.int .i64 t128, .int .i64 t129] 32 (0, 0)) (by (with_reducible skip); exact BK130.out) hb)
              have n6_ := Aside0.mk (below_step (by repeat ((with_reducible (exact HB.out)))) hb)
              clear BK101
              clear BK106
              clear BK109
              clear BK112
              clear BK115
              clear BK130
              clear HB
              have BK101 := n0_
              have BK106 := n1_
              have BK109 := n2_
              have BK112 := n3_
              have BK115 := n4_
              have BK130 := n5_
              have HB := n6_
              clear n0_ n1_ n2_ n3_ n4_ n5_ n6_
              (try clear hb)
              refine hK.out _ _ ⟨(blk_cell BK101.out 0).trans rfl, (blk_cell BK101.out 1).trans rfl, (blk_cell BK101.out 2).trans rfl, (blk_cell BK101.out 3).trans rfl, (blk_cell BK101.out 4).trans rfl, (blk_cell BK101.out 5).trans rfl, (blk_cell BK101.out 6).trans rfl, (blk_cell BK101.out 7).trans rfl, (blk_cell BK130.out 0).trans rfl, (blk_cell BK130.out 1).trans rfl⟩ (fun hHeld => ?_)
              clear hK K
              refine norm_ (a' := ?_) ?_ ?_
              rotate_left
              ·show Act.put _ (some 141) _ = _
               simp only [Act.put, List.setIfInBounds_toArray, List.set_cons_zero, List.set_cons_succ, i64_w, i32_w]
               rfl
              refine pure_ (i := 43) (N := some 143) (v := ?_) (a' := ?_) #[true, true, true, true, true, true, true, true, true, true, true, true, true, true, true, true, true, true, true, true, true, true, true, true, true, true, true, true, true, true, true, true, true, true, true, true, true, true, true, true, true, true, true, true, true, false, false, false] rfl rfl (any_of HT_.out (by kernel_rfl)) (fun _ _ _ h => h) (Or.inl ⟨by rfl, ?_⟩) ?_ ?_
              rotate_left
              ·intro w'
               go_simp
               with_reducible rfl
              rotate_left
              ·simp only [Act.put, List.setIfInBounds_toArray, List.set_cons_zero, List.set_cons_succ, i64_w, i32_w]
               rfl
              refine pure_ (i := 45) (N := some 145) (v := ?_) (a' := ?_) #[true, true, true, true, true, true, true, true, true, true, true, true, true, true, true, true, true, true, true, true, true, true, true, true, true, true, true, true, true, true, true, true, true, true, true, true, true, true, true, true, true, true, true, true, true, true, false, false] rfl rfl (any_of HT_.out (by kernel_rfl)) (fun _ _ _ h => h) (Or.inl ⟨by rfl, ?_⟩) ?_ ?_
              rotate_left
              ·intro w'
               go_simp
               with_reducible rfl
              rotate_left
              ·simp only [Act.put, List.setIfInBounds_toArray, List.set_cons_zero, List.set_cons_succ, i64_w, i32_w]
               rfl
              refine pure_ (i := 46) (N := some 146) (v := ?_) (a' := ?_) #[true, true, true, true, true, true, true, true, true, true, true, true, true, true, true, true, true, true, true, true, true, true, true, true, true, true, true, true, true, true, true, true, true, true, true, true, true, true, true, true, true, true, true, true, true, true, true, false] rfl rfl (any_of HT_.out (by kernel_rfl)) (fun _ _ _ h => h) (Or.inl ⟨by rfl, ?_⟩) ?_ ?_
              rotate_left
              ·intro w'
               go_simp
               with_reducible rfl
              rotate_left
              ·simp only [Act.put, List.setIfInBounds_toArray, List.set_cons_zero, List.set_cons_succ, i64_w, i32_w]
               rfl
              refine pure_ (i := 47) (N := some 2) (v := ?_) (a' := ?_) #[true, true, true, true, true, true, true, true, true, true, true, true, true, true, true, true, true, true, true, true, true, true, true, true, true, true, true, true, true, true, true, true, true, true, true, true, true, true, true, true, true, true, true, true, true, true, true, true] rfl rfl (any_of HT_.out (by kernel_rfl)) (fun _ _ _ h => h) (Or.inl ⟨by rfl, ?_⟩) ?_ ?_
              rotate_left
              ·intro w'
               go_simp
               with_reducible rfl
              rotate_left
              ·simp only [Act.put, List.setIfInBounds_toArray, List.set_cons_zero, List.set_cons_succ, i64_w, i32_w]
               rfl
              refine done_ (done_of HT_.out (by kernel_rfl)) ?_
              try go_wp2
              go_ret
              exact ⟨by rfl, by repeat ((with_reducible (exact HB.out)))⟩
             ·rw [if_neg c108] at H
              have c108b0 : decide (200 < (a0_0.size : Int)) = false := decide_eq_false c108
              have c108b1 : decide (200 < a0_0.size) = false := decide_eq_false (by omega)
              clear c108
              replace H := Option.bind_eq_some_iff.mp H
              obtain ⟨⟨t137, t138⟩, A1140, H⟩ := H
              replace H : (if (t137 == t128 && (t138 == t129)) = true then ((measure_Near.f kj80 a0_5 a0_5 a0_7).bind fun bt139 => (some ((bt139.1 == t128 && (bt139.2 == t129)) == x9_80))) else (some false)) = some r := H
              have A114 := Aside0.mk A1140
              clear A1140
              by_cases c115 : (t137 == t128 && (t138 == t129)) = true
              ·rw [if_pos c115] at H
               have c115b0 : (t137 == t128 && (t138 == t129)) = true := c115
               (try (have c115b1 : decide (t137 = t128 && (t138 == t129)) = true := by simpa using c115))
               (try (have c115b2 : (t137 == t128 && (t138 == t129)) = true := by simpa using c115))
               clear c115
               replace H := Option.bind_eq_some_iff.mp H
               obtain ⟨⟨t139, t140⟩, A1160, H⟩ := H
               replace H : (some ((t139 == t128 && (t140 == t129)) == x9_80)) = some r := H
               have A116 := Aside0.mk A1160
               clear A1160
               obtain rfl := Option.some.inj H
               try go_wp2
               have n0_ := Aside0.mk (blk_drew BK101.out)
               have n1_ := Aside0.mk (blk_drew BK106.out)
               have n2_ := Aside0.mk (blk_drew BK109.out)
               have n3_ := Aside0.mk (blk_drew BK112.out)
               have n4_ := Aside0.mk (blk_drew BK115.out)
               have n5_ := Aside0.mk (blk_drew BK130.out)
               have n6_ := Aside0.mk (below_drew1 HB.out)
               clear BK101
               clear BK106
               clear BK109
               clear BK112
               clear BK115
               clear BK130
               clear HB
               have BK101 := n0_
               have BK106 := n1_
               have BK109 := n2_
               have BK112 := n3_
               have BK115 := n4_
               have BK130 := n5_
               have HB := n6_
               clear n0_ n1_ n2_ n3_ n4_ n5_ n6_
               refine start_ (n := 48) (S := fun w' => w'.cell? ⟨gb101, 0, none⟩ = some (.string a0_0) ∧ w'.cell? ⟨gb101, 1, none⟩ = some (.string a0_1) ∧ w'.cell? ⟨gb101, 2, none⟩ = some (.string a0_2) ∧ w'.cell? ⟨gb101, 3, none⟩ = some (.slice A0_3 l0_3.length c0_3) ∧ w'.cell? ⟨gb101, 4, none⟩ = some (.slice A0_4 l0_4.length c0_4) ∧ w'.cell? ⟨gb101, 5, none⟩ = some (.int .i64 a0_5) ∧ w'.cell? ⟨gb101, 6, none⟩ = some (.int .i64 a0_6) ∧ w'.cell? ⟨gb101, 7, none⟩ = some (.int .i64 a0_7) ∧ w'.cell? ⟨gb130, 0, none⟩ = some (.int .i64 t128) ∧ w'.cell? ⟨gb130, 1, none⟩ = some (.int .i64 t129)) (ds := []) #[false, false, false, false, false, false, false, false, false, false, false, false, false, false, false, false, false, false, false, false, false, false, false, false, false, false, false, false, false, false, false, false, false, false, false, false, false, false, false, false, false, false, false, false, false, false, false, false] (by kernel_rfl) rfl rfl ⟨(blk_cell BK101.out 0).trans rfl, (blk_cell BK101.out 1).trans rfl, (blk_cell BK101.out 2).trans rfl, (blk_cell BK101.out 3).trans rfl, (blk_cell BK101.out 4).trans rfl, (blk_cell BK101.out 5).trans rfl, (blk_cell BK101.out 6).trans rfl, (blk_cell BK101.out 7).trans rfl, (blk_cell BK130.out 0).trans rfl, (blk_cell BK130.out 1).trans rfl⟩ (fun hHeld => ?_); refine with_tabW cleanselaw04_MeasureSimilar.tab14 cleanselaw04_MeasureSimilar.bits14 (fun HT_ HW_ => ?_)
               generalize wc.drew = w117 at BK101 BK106 BK109 BK112 BK115 BK130 HB hHeld ⊢
               refine pure_ (i := 0) (N := some 100) (v := ?_) (a' := ?_) #[true, false, false, false, false, false, false, false, false, false, false, false, false, false, false, false, false, false, false, false, false, false, false, false, false, false, false, false, false, false, false, false, false, false, false, false, false, false, false, false, false, false, false, false, false, false, false, false] rfl rfl (any_of HT_.out (by kernel_rfl)) (fun _ _ _ h => h) (Or.inl ⟨by rfl, ?_⟩) ?_ ?_
               rotate_left
               ·intro w'
                go_simp
                with_reducible rfl
               rotate_left
               ·simp only [Act.put, List.setIfInBounds_toArray, List.set_cons_zero, List.set_cons_succ, i64_w, i32_w]
                rfl
               refine pure_ (i := 1) (N := some 101) (v := ?_) (a' := ?_) #[true, true, false, false, false, false, false, false, false, false, false, false, false, false, false, false, false, false, false, false, false, false, false, false, false, false, false, false, false, false, false, false, false, false, false, false, false, false, false, false, false, false, false, false, false, false, false, false] rfl rfl (any_of HT_.out (by kernel_rfl)) (fun _ _ _ h => h) (Or.inl ⟨by rfl, ?_⟩) ?_ ?_
               rotate_left
               ·intro w'
                go_simp
                with_reducible rfl
               rotate_left
               ·simp only [Act.put, List.setIfInBounds_toArray, List.set_cons_zero, List.set_cons_succ, i64_w, i32_w]
                rfl
               refine pure_ (i := 2) (N := some 102) (v := ?_) (a' := ?_) #[true, true, true, false, false, false, false, false, false, false, false, false, false, false, false, false, false, false, false, false, false, false, false, false, false, false, false, false, false, false, false, false, false, false, false, false, false, false, false, false, false, false, false, false, false, false, false, false] rfl rfl (any_of HT_.out (by kernel_rfl)) (fun _ _ _ h => h) (Or.inl ⟨by rfl, ?_⟩) ?_ ?_
               rotate_left
               ·intro w'
                go_simp
                with_reducible rfl
               rotate_left
               ·simp only [Act.put, List.setIfInBounds_toArray, List.set_cons_zero, List.set_cons_succ, i64_w, i32_w]
                rfl
               refine pure_ (i := 4) (N := some 104) (v := ?_) (a' := ?_) #[true, true, true, false, true, false, false, false, false, false, false, false, false, false, false, false, false, false, false, false, false, false, false, false, false, false, false, false, false, false, false, false, false, false, false, false, false, false, false, false, false, false, false, false, false, false, false, false] rfl rfl (any_of HT_.out (by kernel_rfl)) (fun _ _ _ h => h) (Or.inl ⟨by rfl, ?_⟩) ?_ ?_
               rotate_left
               ·intro w'
                go_simp
                with_reducible rfl
               rotate_left
               ·simp only [Act.put, List.setIfInBounds_toArray, List.set_cons_zero, List.set_cons_succ, i64_w, i32_w]
                rfl
               refine take_ (i := 3) (N := some 103) (v := ?_) (a' := ?_) #[true, true, true, true, true, false, false, false, false, false, false, false, false, false, false, false, false, false, false, false, false, false, false, false, false, false, false, false, false, false, false, false, false, false, false, false, false, false, false, false, false, false, false, false, false, false, false, false] rfl rfl (take_ofW HT_.out HW_.out (by kernel_rfl)) (fun _ _ _ h => h) (Or.inl ⟨by rfl, ?_⟩) hHeld ?_ ?_
               rotate_left
               ·rintro w' ⟨s0, s1, s2, s3, s4, s5, s6, s7, s8, s9⟩
                go_simp
                with_reducible rfl
               rotate_left
               ·simp only [Act.put, List.setIfInBounds_toArray, List.set_cons_zero, List.set_cons_succ, i64_w, i32_w]
                rfl
               refine take_ (i := 5) (N := some 105) (v := ?_) (a' := ?_) #[true, true, true, true, true, true, false, false, false, false, false, false, false, false, false, false, false, false, false, false, false, false, false, false, false, false, false, false, false, false, false, false, false, false, false, false, false, false, false, false, false, false, false, false, false, false, false, false] rfl rfl (take_ofW HT_.out HW_.out (by kernel_rfl)) (fun _ _ _ h => h) (Or.inl ⟨by rfl, ?_⟩) hHeld ?_ ?_
               rotate_left
               ·rintro w' ⟨s0, s1, s2, s3, s4, s5, s6, s7, s8, s9⟩
                go_simp
                with_reducible rfl
               rotate_left
               ·simp only [Act.put, List.setIfInBounds_toArray, List.set_cons_zero, List.set_cons_succ, i64_w, i32_w]
                rfl
               refine take_ (i := 7) (N := some 107) (v := ?_) (a' := ?_) #[true, true, true, true, true, true, false, true, false, false, false, false, false, false, false, false, false, false, false, false, false, false, false, false, false, false, false, false, false, false, false, false, false, false, false, false, false, false, false, false, false, false, false, false, false, false, false, false] rfl rfl (take_ofW HT_.out HW_.out (by kernel_rfl)) (fun _ _ _ h => h) (Or.inl ⟨by rfl, ?_⟩) hHeld ?_ ?_
               rotate_left
               ·rintro w' ⟨s0, s1, s2, s3, s4, s5, s6, s7, s8, s9⟩
                go_simp
                with_reducible rfl
               rotate_left
               ·simp only [Act.put, List.setIfInBounds_toArray, List.set_cons_zero, List.set_cons_succ, i64_w, i32_w]
                rfl
               refine one_ (i := 6) (N := some 106) #[true, true, true, true, true, true, true, true, false, false, false, false, false, false, false, false, false, false, false, false, false, false, false, false, false, false, false, false, false, false, false, false, false, false, false, false, false, false, false, false, false, false, false, false, false, false, false, false] rfl rfl (one_of HT_.out (by kernel_rfl)) (by decide) (fun K hK => ?_)
               refine goes_ Tryd.func16 (by kernel_rfl) rfl #[.string a0_0, .string a0_0] (by rfl) rfl rfl (by (try simp only [List.map_toArray, List.map_cons, List.map_nil]); rfl) ?_
               with_reducible refine (measure_Alike.calls kj80 a0_0 a0_0 t131 t132 _ ?sGl A104.out).mono ?_
               case sGl => exact Gl.below HGl.out (by repeat ((with_reducible (exact HB.out))))
               rintro e w118 ⟨rfl, hb⟩
               refine ⟨_, rfl, ?_⟩
               have n0_ := Aside0.mk (blk_below (g := gb101) (o := .cells #[.string a0_0, .string a0_1, .string a0_2, .slice A0_3 l0_3.length c0_3, .slice A0_4 l0_4.length c0_4, .int .i64 a0_5, .int .i64 a0_6, .int .i64 a0_7] 24 (0, 0)) (by (with_reducible skip); exact BK101.out) hb)
               have n1_ := Aside0.mk (blk_below (g := gb106) (o := .cells #[.int .i64 t104, .int .i64 t105] 32 (0, 0)) (by (with_reducible skip); exact BK106.out) hb)
               have n2_ := Aside0.mk (blk_below (g := gb109) (o := .cells #[.int .i64 t107, .int .i64 t108] 32 (0, 0)) (by (with_reducible skip); exact BK109.out) hb)
               have n3_ := Aside0.mk (blk_below (g := gb112) (o := .cells #[.int .i64 t110, .int .i64 t111] 32 (0, 0)) (by (with_reducible skip); exact BK112.out) hb)
               have n4_ := Aside0.mk (blk_below (g := gb115) (o := .cells #[.int .i64 t113, .int .i64 t114] 32 (0, 0)) (by (with_reducible skip); exact BK115.out) hb)
               have n5_ := Aside0.mk (blk_below (g := gb130) (o := .cells #[.int .i64 t128, .int .i64 t129] 32 (0, 0)) (by (with_reducible skip); exact BK130.out) hb)
               have n6_ := Aside0.mk (below_step (by repeat ((with_reducible (exact HB.out)))) hb)
               clear BK101
               clear BK106
               clear BK109
               clear BK112
               clear BK115
               clear BK130
               clear HB
               have BK101 := n0_
               have BK106 := n1_
               have BK109 := n2_
               have BK112 := n3_
               have BK115 := n4_
               have BK130 := n5_
               have HB := n6_
               clear n0_ n1_ n2_ n3_ n4_ n5_ n6_
               (try clear hb)
               refine hK.out _ _ ⟨(blk_cell BK101.out 0).trans rfl, (blk_cell BK101.out 1).trans rfl, (blk_cell BK101.out 2).trans rfl, (blk_cell BK101.out 3).trans rfl, (blk_cell BK101.out 4).trans rfl, (blk_cell BK101.out 5).trans rfl, (blk_cell BK101.out 6).trans rfl, (blk_cell BK101.out 7).trans rfl, (blk_cell BK130.out 0).trans rfl, (blk_cell BK130.out 1).trans rfl⟩ (fun hHeld => ?_)
               clear hK K
               refine norm_ (a' := ?_) ?_ ?_
               rotate_left
               ·show Act.put _ (some 106) _ = _
                simp only [Act.put, List.setIfInBounds_toArray, List.set_cons_zero, List.set_cons_succ, i64_w, i32_w]
                rfl
               refine pure_ (i := 8) (N := some 108) (v := ?_) (a' := ?_) #[true, true, true, true, true, true, true, true, true, false, false, false, false, false, false, false, false, false, false, false, false, false, false, false, false, false, false, false, false, false, false, false, false, false, false, false, false, false, false, false, false, false, false, false, false, false, false, false] rfl rfl (any_of HT_.out (by kernel_rfl)) (fun _ _ _ h => h) (Or.inl ⟨by rfl, ?_⟩) ?_ ?_
               rotate_left
               ·intro w'
                go_simp
                with_reducible rfl
               rotate_left
               ·simp only [Act.put, List.setIfInBounds_toArray, List.set_cons_zero, List.set_cons_succ, i64_w, i32_w]
                rfl
               refine pure_ (i := 9) (N := some 109) (v := ?_) (a' := ?_) #[true, true, true, true, true, true, true, true, true, true, false, false, false, false, false, false, false, false, false, false, false, false, false, false, false, false, false, false, false, false, false, false, false, false, false, false, false, false, false, false, false, false, false, false, false, false, false, false] rfl rfl (any_of HT_.out (by kernel_rfl)) (fun _ _ _ h => h) (Or.inl ⟨by rfl, ?_⟩) ?_ ?_
               rotate_left
               ·intro w'
                go_simp
                with_reducible rfl
               rotate_left
               ·simp only [Act.put, List.setIfInBounds_toArray, List.set_cons_zero, List.set_cons_succ, i64_w, i32_w]
                rfl
               refine pure_ (i := 10) (N := some 110) (v := ?_) (a' := ?_) #[true, true, true, true, true, true, true, true, true, true, true, false, false, false, false, false, false, false, false, false, false, false, false, false, false, false, false, false, false, false, false, false, false, false, false, false, false, false, false, false, false, false, false, false, false, false, false, false] rfl rfl (any_of HT_.out (by kernel_rfl)) (fun _ _ _ h => h) (Or.inl ⟨by rfl, ?_⟩) ?_ ?_
               rotate_left
               ·intro w'
                go_simp
                with_reducible rfl
               rotate_left
               ·simp only [Act.put, List.setIfInBounds_toArray, List.set_cons_zero, List.set_cons_succ, i64_w, i32_w]
                rfl
               refine pure_ (i := 11) (N := some 111) (v := ?_) (a' := ?_) #[true, true, true, true, true, true, true, true, true, true, true, true, false, false, false, false, false, false, false, false, false, false, false, false, false, false, false, false, false, false, false, false, false, false, false, false, false, false, false, false, false, false, false, false, false, false, false, false] rfl rfl (any_of HT_.out (by kernel_rfl)) (fun _ _ _ h => h) (Or.inl ⟨by rfl, ?_⟩) ?_ ?_
               rotate_left
               ·intro w'
                go_simp
                with_reducible rfl
               rotate_left
               ·simp only [Act.put, List.setIfInBounds_toArray, List.set_cons_zero, List.set_cons_succ, i64_w, i32_w]
                rfl
               refine pure_ (i := 13) (N := some 113) (v := ?_) (a' := ?_) #[true, true, true, true, true, true, true, true, true, true, true, true, false, true, false, false, false, false, false, false, false, false, false, false, false, false, false, false, false, false, false, false, false, false, false, false, false, false, false, false, false, false, false, false, false, false, false, false] rfl rfl (any_of HT_.out (by kernel_rfl)) (fun _ _ _ h => h) (Or.inl ⟨by rfl, ?_⟩) ?_ ?_
               rotate_left
               ·intro w'
                go_simp
                with_reducible rfl
               rotate_left
               ·simp only [Act.put, List.setIfInBounds_toArray, List.set_cons_zero, List.set_cons_succ, i64_w, i32_w]
                rfl
               refine take_ (i := 12) (N := some 112) (v := ?_) (a' := ?_) #[true, true, true, true, true, true, true, true, true, true, true, true, true, true, false, false, false, false, false, false, false, false, false, false, false, false, false, false, false, false, false, false, false, false, false, false, false, false, false, false, false, false, false, false, false, false, false, false] rfl rfl (take_ofW HT_.out HW_.out (by kernel_rfl)) (fun _ _ _ h => h) (Or.inl ⟨by rfl, ?_⟩) hHeld ?_ ?_
               rotate_left
               ·rintro w' ⟨s0, s1, s2, s3, s4, s5, s6, s7, s8, s9⟩
                go_simp
                with_reducible rfl
               rotate_left
               ·simp only [Act.put, List.setIfInBounds_toArray, List.set_cons_zero, List.set_cons_succ, i64_w, i32_w]
                rfl
               refine take_ (i := 14) (N := some 114) (v := ?_) (a' := ?_) #[true, true, true, true, true, true, true, true, true, true, true, true, true, true, true, false, false, false, false, false, false, false, false, false, false, false, false, false, false, false, false, false, false, false, false, false, false, false, false, false, false, false, false, false, false, false, false, false] rfl rfl (take_ofW HT_.out HW_.out (by kernel_rfl)) (fun _ _ _ h => h) (Or.inl ⟨by rfl, ?_⟩) hHeld ?_ ?_
               rotate_left
               ·rintro w' ⟨s0, s1, s2, s3, s4, s5, s6, s7, s8, s9⟩
                go_simp
                with_reducible rfl
               rotate_left
               ·simp only [Act.put, List.setIfInBounds_toArray, List.set_cons_zero, List.set_cons_succ, i64_w, i32_w]
                rfl
               refine take_ (i := 16) (N := some 116) (v := ?_) (a' := ?_) #[true, true, true, true, true, true, true, true, true, true, true, true, true, true, true, false, true, false, false, false, false, false, false, false, false, false, false, false, false, false, false, false, false, false, false, false, false, false, false, false, false, false, false, false, false, false, false, false] rfl rfl (take_ofW HT_.out HW_.out (by kernel_rfl)) (fun _ _ _ h => h) (Or.inl ⟨by rfl, ?_⟩) hHeld ?_ ?_
               rotate_left
               ·rintro w' ⟨s0, s1, s2, s3, s4, s5, s6, s7, s8, s9⟩
                go_simp
                with_reducible rfl
               rotate_left
               ·simp only [Act.put, List.setIfInBounds_toArray, List.set_cons_zero, List.set_cons_succ, i64_w, i32_w]
                rfl
               refine one_ (i := 15) (N := some 115) #[true, true, true, true, true, true, true, true, true, true, true, true, true, true, true, true, true, false, false, false, false, false, false, false, false, false, false, false, false, false, false, false, false, false, false, false, false, false, false, false, false, false, false, false, false, false, false, false] rfl rfl (one_of HT_.out (by kernel_rfl)) (by decide) (fun K hK => ?_)
               refine goes_ Tryd.func18 (by kernel_rfl) rfl #[.slice A0_3 l0_3.length c0_3, .slice A0_3 l0_3.length c0_3] (by rfl) rfl rfl (by (try simp only [List.map_toArray, List.map_cons, List.map_nil]); rfl) ?_
               with_reducible refine (measure_Jaccard.calls kj80 _ _ l0_3 _ _ l0_3 t133 t134 _ ?side1 ?side2 ?side3 ?side4 ?sGl A106.out).mono ?_
               case sGl => exact Gl.below HGl.out (by repeat ((with_reducible (exact HB.out))))
               (case side1 => repeat ((exact (Kd.C_below HR0_3.out HB.out))))
               (case side2 => exact HC0_3.out)
               (case side3 => repeat ((exact (Kd.C_below HR0_3.out HB.out))))
               (case side4 => exact HC0_3.out)
               rintro e w119 ⟨rfl, hb⟩
               refine ⟨_, rfl, ?_⟩
               have n0_ := Aside0.mk (blk_below (g := gb101) (o := .cells #[.string a0_0, .string a0_1, .string a0_2, .slice A0_3 l0_3.length c0_3, .slice A0_4 l0_4.length c0_4, .int .i64 a0_5, .int .i64 a0_6, .int .i64 a0_7] 24 (0, 0)) (by (with_reducible skip); exact BK101.out) hb)
               have n1_ := Aside0.mk (blk_below (g := gb106) (o := .cells #[.int .i64 t104, .int .i64 t105] 32 (0, 0)) (by (with_reducible skip); exact BK106.out) hb)
               have n2_ := Aside0.mk (blk_below (g := gb109) (o := .cells #[.int .i64 t107, .int .i64 t108] 32 (0, 0)) (by (with_reducible skip); exact BK109.out) hb)
               have n3_ := Aside0.mk (blk_below (g := gb112) (o := .cells #[.int .i64 t110, .int .i64 t111] 32 (0, 0)) (by (with_reducible skip); exact BK112.out) hb)
               have n4_ := Aside0.mk (blk_below (g := gb115) (o := .cells #[.int .i64 t113, .int .i64 t114] 32 (0, 0)) (by (with_reducible skip); exact BK115.out) hb)
               have n5_ := Aside0.mk (blk_below (g := gb130) (o := .cells #[.int .i64 t128, .int .i64 t129] 32 (0, 0)) (by (with_reducible skip); exact BK130.out) hb)
               have n6_ := Aside0.mk (below_step (by repeat ((with_reducible (exact HB.out)))) hb)
               clear BK101
               clear BK106
               clear BK109
               clear BK112
               clear BK115
               clear BK130
               clear HB
               have BK101 := n0_
               have BK106 := n1_
               have BK109 := n2_
               have BK112 := n3_
               have BK115 := n4_
               have BK130 := n5_
               have HB := n6_
               clear n0_ n1_ n2_ n3_ n4_ n5_ n6_
               (try clear hb)
               refine hK.out _ _ ⟨(blk_cell BK101.out 0).trans rfl, (blk_cell BK101.out 1).trans rfl, (blk_cell BK101.out 2).trans rfl, (blk_cell BK101.out 3).trans rfl, (blk_cell BK101.out 4).trans rfl, (blk_cell BK101.out 5).trans rfl, (blk_cell BK101.out 6).trans rfl, (blk_cell BK101.out 7).trans rfl, (blk_cell BK130.out 0).trans rfl, (blk_cell BK130.out 1).trans rfl⟩ (fun hHeld => ?_)
               clear hK K
               refine norm_ (a' := ?_) ?_ ?_
               rotate_left
               ·show Act.put _ (some 115) _ = _
                simp only [Act.put, List.setIfInBounds_toArray, List.set_cons_zero, List.set_cons_succ, i64_w, i32_w]
                rfl
               refine pure_ (i := 17) (N := some 117) (v := ?_) (a' := ?_) #[true, true, true, true, true, true, true, true, true, true, true, true, true, true, true, true, true, true, false, false, false, false, false, false, false, false, false, false, false, false, false, false, false, false, false, false, false, false, false, false, false, false, false, false, false, false, false, false] rfl rfl (any_of HT_.out (by kernel_rfl)) (fun _ _ _ h => h) (Or.inl ⟨by rfl, ?_⟩) ?_ ?_
               rotate_left
               ·intro w'
                go_simp
                with_reducible rfl
               rotate_left
               ·simp only [Act.put, List.setIfInBounds_toArray, List.set_cons_zero, List.set_cons_succ, i64_w, i32_w]
                rfl
               refine pure_ (i := 18) (N := some 118) (v := ?_) (a' := ?_) #[true, true, true, true, true, true, true, true, true, true, true, true, true, true, true, true, true, true, true, false, false, false, false, false, false, false, false, false, false, false, false, false, false, false, false, false, false, false, false, false, false, false, false, false, false, false, false, false] rfl rfl (any_of HT_.out (by kernel_rfl)) (fun _ _ _ h => h) (Or.inl ⟨by rfl, ?_⟩) ?_ ?_
               rotate_left
               ·intro w'
                go_simp
                with_reducible rfl
               rotate_left
               ·simp only [Act.put, List.setIfInBounds_toArray, List.set_cons_zero, List.set_cons_succ, i64_w, i32_w]
                rfl
               refine pure_ (i := 19) (N := some 119) (v := ?_) (a' := ?_) #[true, true, true, true, true, true, true, true, true, true, true, true, true, true, true, true, true, true, true, true, false, false, false, false, false, false, false, false, false, false, false, false, false, false, false, false, false, false, false, false, false, false, false, false, false, false, false, false] rfl rfl (any_of HT_.out (by kernel_rfl)) (fun _ _ _ h => h) (Or.inl ⟨by rfl, ?_⟩) ?_ ?_
               rotate_left
               ·intro w'
                go_simp
                with_reducible rfl
               rotate_left
               ·simp only [Act.put, List.setIfInBounds_toArray, List.set_cons_zero, List.set_cons_succ, i64_w, i32_w]
                rfl
               refine pure_ (i := 20) (N := some 120) (v := ?_) (a' := ?_) #[true, true, true, true, true, true, true, true, true, true, true, true, true, true, true, true, true, true, true, true, true, false, false, false, false, false, false, false, false, false, false, false, false, false, false, false, false, false, false, false, false, false, false, false, false, false, false, false] rfl rfl (any_of HT_.out (by kernel_rfl)) (fun _ _ _ h => h) (Or.inl ⟨by rfl, ?_⟩) ?_ ?_
               rotate_left
               ·intro w'
                go_simp
                with_reducible rfl
               rotate_left
               ·simp only [Act.put, List.setIfInBounds_toArray, List.set_cons_zero, List.set_cons_succ, i64_w, i32_w]
                rfl
               refine take_ (i := 21) (N := some 121) (v := ?_) (a' := ?_) #[true, true, true, true, true, true, true, true, true, true, true, true, true, true, true, true, true, true, true, true, true, true, false, false, false, false, false, false, false, false, false, false, false, false, false, false, false, false, false, false, false, false, false, false, false, false, false, false] rfl rfl (take_ofW HT_.out HW_.out (by kernel_rfl)) (fun _ _ _ h => h) (Or.inl ⟨by rfl, ?_⟩) hHeld ?_ ?_
               rotate_left
               ·rintro w' ⟨s0, s1, s2, s3, s4, s5, s6, s7, s8, s9⟩
                go_simp
                with_reducible rfl
               rotate_left
               ·simp only [Act.put, List.setIfInBounds_toArray, List.set_cons_zero, List.set_cons_succ, i64_w, i32_w]
                rfl
               refine pure_ (i := 22) (N := some 122) (v := ?_) (a' := ?_) #[true, true, true, true, true, true, true, true, true, true, true, true, true, true, true, true, true, true, true, true, true, true, true, false, false, false, false, false, false, false, false, false, false, false, false, false, false, false, false, false, false, false, false, false, false, false, false, false] rfl rfl (any_of HT_.out (by kernel_rfl)) (fun _ _ _ h => h) (Or.inl ⟨by rfl, ?_⟩) ?_ ?_
               rotate_left
               ·intro w'
                go_simp
                with_reducible rfl
               rotate_left
               ·simp only [Act.put, List.setIfInBounds_toArray, List.set_cons_zero, List.set_cons_succ, i64_w, i32_w]
                rfl
               refine pure_ (i := 23) (N := some 123) (v := ?_) (a' := ?_) #[true, true, true, true, true, true, true, true, true, true, true, true, true, true, true, true, true, true, true, true, true, true, true, true, false, false, false, false, false, false, false, false, false, false, false, false, false, false, false, false, false, false, false, false, false, false, false, false] rfl rfl (any_of HT_.out (by kernel_rfl)) (fun _ _ _ h => h) (Or.inl ⟨by rfl, ?_⟩) ?_ ?_
               rotate_left
               ·intro w'
                go_simp
                with_reducible rfl
               rotate_left
               ·simp only [Act.put, List.setIfInBounds_toArray, List.set_cons_zero, List.set_cons_succ, i64_w, i32_w]
                rfl
               refine pure_ (i := 24) (N := some 124) (v := ?_) (a' := ?_) #[true, true, true, true, true, true, true, true, true, true, true, true, true, true, true, true, true, true, true, true, true, true, true, true, true, false, false, false, false, false, false, false, false, false, false, false, false, false, false, false, false, false, false, false, false, false, false, false] rfl rfl (any_of HT_.out (by kernel_rfl)) (fun _ _ _ h => h) (Or.inl ⟨by rfl, ?_⟩) ?_ ?_
               rotate_left
               ·intro w'
                go_simp
                with_reducible rfl
               rotate_left
               ·simp only [Act.put, List.setIfInBounds_toArray, List.set_cons_zero, List.set_cons_succ, i64_w, i32_w]
                rfl
               refine pure_ (i := 25) (N := some 125) (v := ?_) (a' := ?_) #[true, true, true, true, true, true, true, true, true, true, true, true, true, true, true, true, true, true, true, true, true, true, true, true, true, true, false, false, false, false, false, false, false, false, false, false, false, false, false, false, false, false, false, false, false, false, false, false] rfl rfl (any_of HT_.out (by kernel_rfl)) (fun _ _ _ h => h) (Or.inl ⟨by rfl, ?_⟩) ?_ ?_
               rotate_left
               ·intro w'
                go_simp
                with_reducible rfl
               rotate_left
               ·simp only [Act.put, List.setIfInBounds_toArray, List.set_cons_zero, List.set_cons_succ, i64_w, i32_w]
                rfl
               refine pure_ (i := 27) (N := some 127) (v := ?_) (a' := ?_) #[true, true, true, true, true, true, true, true, true, true, true, true, true, true, true, true, true, true, true, true, true, true, true, true, true, true, false, true, false, false, false, false, false, false, false, false, false, false, false, false, false, false, false, false, false, false, false, false] rfl rfl (any_of HT_.out (by kernel_rfl)) (fun _ _ _ h => h) (Or.inl ⟨by rfl, ?_⟩) ?_ ?_
               rotate_left
               ·intro w'
                go_simp
                with_reducible rfl
               rotate_left
               ·simp only [Act.put, List.setIfInBounds_toArray, List.set_cons_zero, List.set_cons_succ, i64_w, i32_w]
                rfl
               refine take_ (i := 26) (N := some 126) (v := ?_) (a' := ?_) #[true, true, true, true, true, true, true, true, true, true, true, true, true, true, true, true, true, true, true, true, true, true, true, true, true, true, true, true, false, false, false, false, false, false, false, false, false, false, false, false, false, false, false, false, false, false, false, false] rfl rfl (take_ofW HT_.out HW_.out (by kernel_rfl)) (fun _ _ _ h => h) (Or.inl ⟨by rfl, ?_⟩) hHeld ?_ ?_
               rotate_left
               ·rintro w' ⟨s0, s1, s2, s3, s4, s5, s6, s7, s8, s9⟩
                go_simp
                with_reducible rfl
               rotate_left
               ·simp only [Act.put, List.setIfInBounds_toArray, List.set_cons_zero, List.set_cons_succ, i64_w, i32_w]
                rfl
               refine take_ (i := 28) (N := some 128) (v := ?_) (a' := ?_) #[true, true, true, true, true, true, true, true, true, true, true, true, true, true, true, true, true, true, true, true, true, true, true, true, true, true, true, true, true, false, false, false, false, false, false, false, false, false, false, false, false, false, false, false, false, false, false, false] rfl rfl (take_ofW HT_.out HW_.out (by kernel_rfl)) (fun _ _ _ h => h) (Or.inl ⟨by rfl, ?_⟩) hHeld ?_ ?_
               rotate_left
               ·rintro w' ⟨s0, s1, s2, s3, s4, s5, s6, s7, s8, s9⟩
                go_simp
                with_reducible rfl
               rotate_left
               ·simp only [Act.put, List.setIfInBounds_toArray, List.set_cons_zero, List.set_cons_succ, i64_w, i32_w]
                rfl
               refine take_ (i := 30) (N := some 130) (v := ?_) (a' := ?_) #[true, true, true, true, true, true, true, true, true, true, true, true, true, true, true, true, true, true, true, true, true, true, true, true, true, true, true, true, true, false, true, false, false, false, false, false, false, false, false, false, false, false, false, false, false, false, false, false] rfl rfl (take_ofW HT_.out HW_.out (by kernel_rfl)) (fun _ _ _ h => h) (Or.inl ⟨by rfl, ?_⟩) hHeld ?_ ?_
               rotate_left
               ·rintro w' ⟨s0, s1, s2, s3, s4, s5, s6, s7, s8, s9⟩
                go_simp
                with_reducible rfl
               rotate_left
               ·simp only [Act.put, List.setIfInBounds_toArray, List.set_cons_zero, List.set_cons_succ, i64_w, i32_w]
                rfl
               refine one_ (i := 29) (N := some 129) #[true, true, true, true, true, true, true, true, true, true, true, true, true, true, true, true, true, true, true, true, true, true, true, true, true, true, true, true, true, true, true, false, false, false, false, false, false, false, false, false, false, false, false, false, false, false, false, false] rfl rfl (one_of HT_.out (by kernel_rfl)) (by decide) (fun K hK => ?_)
               refine goes_ Tryd.func22 (by kernel_rfl) rfl #[.string a0_0, .string a0_0] (by rfl) rfl rfl (by (try simp only [List.map_toArray, List.map_cons, List.map_nil]); rfl) ?_
               with_reducible refine (measure_Jaro.calls kj80 a0_0 a0_0 t137 t138 _ ?sGl A114.out).mono ?_
               case sGl => exact Gl.below HGl.out (by repeat ((with_reducible (exact HB.out))))
               rintro e w120 ⟨rfl, hb⟩
               refine ⟨_, rfl, ?_⟩
               have n0_ := Aside0.mk (blk_below (g := gb101) (o := .cells #[.string a0_0, .string a0_1, .string a0_2, .slice A0_3 l0_3.length c0_3, .slice A0_4 l0_4.length c0_4, .int .i64 a0_5, .int .i64 a0_6, .int .i64 a0_7] 24 (0, 0)) (by (with_reducible skip); exact BK101.out) hb)
               have n1_ := Aside0.mk (blk_below (g := gb106) (o := .cells #[.int .i64 t104, .int .i64 t105] 32 (0, 0)) (by (with_reducible skip); exact BK106.out) hb)
               have n2_ := Aside0.mk (blk_below (g := gb109) (o := .cells #[.int .i64 t107, .int .i64 t108] 32 (0, 0)) (by (with_reducible skip); exact BK109.out) hb)
               have n3_ := Aside0.mk (blk_below (g := gb112) (o := .cells #[.int .i64 t110, .int .i64 t111] 32 (0, 0)) (by (with_reducible skip); exact BK112.out) hb)
               have n4_ := Aside0.mk (blk_below (g := gb115) (o := .cells #[.int .i64 t113, .int .i64 t114] 32 (0, 0)) (by (with_reducible skip); exact BK115.out) hb)
               have n5_ := Aside0.mk (blk_below (g := gb130) (o := .cells #[.int .i64 t128, .int .i64 t129] 32 (0, 0)) (by (with_reducible skip); exact BK130.out) hb)
               have n6_ := Aside0.mk (below_step (by repeat ((with_reducible (exact HB.out)))) hb)
               clear BK101
               clear BK106
               clear BK109
               clear BK112
               clear BK115
               clear BK130
               clear HB
               have BK101 := n0_
               have BK106 := n1_
               have BK109 := n2_
               have BK112 := n3_
               have BK115 := n4_
               have BK130 := n5_
               have HB := n6_
               clear n0_ n1_ n2_ n3_ n4_ n5_ n6_
               (try clear hb)
               refine hK.out _ _ ⟨(blk_cell BK101.out 0).trans rfl, (blk_cell BK101.out 1).trans rfl, (blk_cell BK101.out 2).trans rfl, (blk_cell BK101.out 3).trans rfl, (blk_cell BK101.out 4).trans rfl, (blk_cell BK101.out 5).trans rfl, (blk_cell BK101.out 6).trans rfl, (blk_cell BK101.out 7).trans rfl, (blk_cell BK130.out 0).trans rfl, (blk_cell BK130.out 1).trans rfl⟩ (fun hHeld => ?_)
               clear hK K
               refine norm_ (a' := ?_) ?_ ?_
               rotate_left
               ·show Act.put _ (some 129) _ = _
                simp only [Act.put, List.setIfInBounds_toArray, List.set_cons_zero, List.set_cons_succ, i64_w, i32_w]
                rfl
               refine pure_ (i := 31) (N := some 131) (v := ?_) (a' := ?_) #[true, true, true, true, true, true, true, true, true, true, true, true, true, true, true, true, true, true, true, true, true, true, true, true, true, true, true, true, true, true, true, true, false, false, false, false, false, false, false, false, false, false, false, false, false, false, false, false] rfl rfl (any_of HT_.out (by kernel_rfl)) (fun _ _ _ h => h) (Or.inl ⟨by rfl, ?_⟩) ?_ ?_
               rotate_left
               ·intro w'
                go_simp
                with_reducible rfl
               rotate_left
               ·simp only [Act.put, List.setIfInBounds_toArray, List.set_cons_zero, List.set_cons_succ, i64_w, i32_w]
                rfl
               refine pure_ (i := 32) (N := some 132) (v := ?_) (a' := ?_) #[true, true, true, true, true, true, true, true, true, true, true, true, true, true, true, true, true, true, true, true, true, true, true, true, true, true, true, true, true, true, true, true, true, false, false, false, false, false, false, false, false, false, false, false, false, false, false, false] rfl rfl (any_of HT_.out (by kernel_rfl)) (fun _ _ _ h => h) (Or.inl ⟨by rfl, ?_⟩) ?_ ?_
               rotate_left
               ·intro w'
                go_simp
                with_reducible rfl
               rotate_left
               ·simp only [Act.put, List.setIfInBounds_toArray, List.set_cons_zero, List.set_cons_succ, i64_w, i32_w]
                rfl
               refine pure_ (i := 33) (N := some 133) (v := ?_) (a' := ?_) #[true, true, true, true, true, true, true, true, true, true, true, true, true, true, true, true, true, true, true, true, true, true, true, true, true, true, true, true, true, true, true, true, true, true, false, false, false, false, false, false, false, false, false, false, false, false, false, false] rfl rfl (any_of HT_.out (by kernel_rfl)) (fun _ _ _ h => h) (Or.inl ⟨by rfl, ?_⟩) ?_ ?_
               rotate_left
               ·intro w'
                go_simp
                with_reducible rfl
               rotate_left
               ·simp only [Act.put, List.setIfInBounds_toArray, List.set_cons_zero, List.set_cons_succ, i64_w, i32_w]
                rfl
               refine pure_ (i := 34) (N := some 134) (v := ?_) (a' := ?_) #[true, true, true, true, true, true, true, true, true, true, true, true, true, true, true, true, true, true, true, true, true, true, true, true, true, true, true, true, true, true, true, true, true, true, true, false, false, false, false, false, false, false, false, false, false, false, false, false] rfl rfl (any_of HT_.out (by kernel_rfl)) (fun _ _ _ h => h) (Or.inl ⟨by rfl, ?_⟩) ?_ ?_
               rotate_left
               ·intro w'
                go_simp
                with_reducible rfl
               rotate_left
               ·simp only [Act.put, List.setIfInBounds_toArray, List.set_cons_zero, List.set_cons_succ, i64_w, i32_w]
                rfl
               refine pure_ (i := 35) (N := some 135) (v := ?_) (a' := ?_) #[true, true, true, true, true, true, true, true, true, true, true, true, true, true, true, true, true, true, true, true, true, true, true, true, true, true, true, true, true, true, true, true, true, true, true, true, false, false, false, false, false, false, false, false, false, false, false, false] rfl rfl (any_of HT_.out (by kernel_rfl)) (fun _ _ _ h => h) (Or.inl ⟨by rfl, ?_⟩) ?_ ?_
               rotate_left
               ·intro w'
                go_simp
                with_reducible rfl
               rotate_left
               ·simp only [Act.put, List.setIfInBounds_toArray, List.set_cons_zero, List.set_cons_succ, i64_w, i32_w]
                rfl
               refine pure_ (i := 37) (N := some 137) (v := ?_) (a' := ?_) #[true, true, true, true, true, true, true, true, true, true, true, true, true, true, true, true, true, true, true, true, true, true, true, true, true, true, true, true, true, true, true, true, true, true, true, true, false, true, false, false, false, false, false, false, false, false, false, false] rfl rfl (any_of HT_.out (by kernel_rfl)) (fun _ _ _ h => h) (Or.inl ⟨by rfl, ?_⟩) ?_ ?_
               rotate_left
               ·intro w'
                go_simp
                with_reducible rfl
               rotate_left
               ·simp only [Act.put, List.setIfInBounds_toArray, List.set_cons_zero, List.set_cons_succ, i64_w, i32_w]
                rfl
               refine pure_ (i := 39) (N := some 139) (v := ?_) (a' := ?_) #[true, true, true, true, true, true, true, true, true, true, true, true, true, true, true, true, true, true, true, true, true, true, true, true, true, true, true, true, true, true, true, true, true, true, true, true, false, true, false, true, false, false, false, false, false, false, false, false] rfl rfl (any_of HT_.out (by kernel_rfl)) (fun _ _ _ h => h) (Or.inl ⟨by rfl, ?_⟩) ?_ ?_
               rotate_left
               ·intro w'
                go_simp
                with_reducible rfl
               rotate_left
               ·simp only [Act.put, List.setIfInBounds_toArray, List.set_cons_zero, List.set_cons_succ, i64_w, i32_w]
                rfl
               refine pure_ (i := 44) (N := some 144) (v := ?_) (a' := ?_) #[true, true, true, true, true, true, true, true, true, true, true, true, true, true, true, true, true, true, true, true, true, true, true, true, true, true, true, true, true, true, true, true, true, true, true, true, false, true, false, true, false, false, false, false, true, false, false, false] rfl rfl (any_of HT_.out (by kernel_rfl)) (fun _ _ _ h => h) (Or.inl ⟨by rfl, ?_⟩) ?_ ?_
               rotate_left
               ·intro w'
                go_simp
                with_reducible rfl
               rotate_left
               ·simp only [Act.put, List.setIfInBounds_toArray, List.set_cons_zero, List.set_cons_succ, i64_w, i32_w]
                rfl
               refine take_ (i := 36) (N := some 136) (v := ?_) (a' := ?_) #[true, true, true, true, true, true, true, true, true, true, true, true, true, true, true, true, true, true, true, true, true, true, true, true, true, true, true, true, true, true, true, true, true, true, true, true, true, true, false, true, false, false, false, false, true, false, false, false] rfl rfl (take_ofW HT_.out HW_.out (by kernel_rfl)) (fun _ _ _ h => h) (Or.inl ⟨by rfl, ?_⟩) hHeld ?_ ?_
               rotate_left
               ·rintro w' ⟨s0, s1, s2, s3, s4, s5, s6, s7, s8, s9⟩
                go_simp
                with_reducible rfl
               rotate_left
               ·simp only [Act.put, List.setIfInBounds_toArray, List.set_cons_zero, List.set_cons_succ, i64_w, i32_w]
                rfl
               refine take_ (i := 38) (N := some 138) (v := ?_) (a' := ?_) #[true, true, true, true, true, true, true, true, true, true, true, true, true, true, true, true, true, true, true, true, true, true, true, true, true, true, true, true, true, true, true, true, true, true, true, true, true, true, true, true, false, false, false, false, true, false, false, false] rfl rfl (take_ofW HT_.out HW_.out (by kernel_rfl)) (fun _ _ _ h => h) (Or.inl ⟨by rfl, ?_⟩) hHeld ?_ ?_
               rotate_left
               ·rintro w' ⟨s0, s1, s2, s3, s4, s5, s6, s7, s8, s9⟩
                go_simp
                with_reducible rfl
               rotate_left
               ·simp only [Act.put, List.setIfInBounds_toArray, List.set_cons_zero, List.set_cons_succ, i64_w, i32_w]
                rfl
               refine take_ (i := 40) (N := some 140) (v := ?_) (a' := ?_) #[true, true, true, true, true, true, true, true, true, true, true, true, true, true, true, true, true, true, true, true, true, true, true, true, true, true, true, true, true, true, true, true, true, true, true, true, true, true, true, true, true, false, false, false, true, false, false, false] rfl rfl (take_ofW HT_.out HW_.out (by kernel_rfl)) (fun _ _ _ h => h) (Or.inl ⟨by rfl, ?_⟩) hHeld ?_ ?_
               rotate_left
               ·rintro w' ⟨s0, s1, s2, s3, s4, s5, s6, s7, s8, s9⟩
                go_simp
                with_reducible rfl
               rotate_left
               ·simp only [Act.put, List.setIfInBounds_toArray, List.set_cons_zero, List.set_cons_succ, i64_w, i32_w]
                rfl
               refine take_ (i := 42) (N := some 142) (v := ?_) (a' := ?_) #[true, true, true, true, true, true, true, true, true, true, true, true, true, true, true, true, true, true, true, true, true, true, true, true, true, true, true, true, true, true, true, true, true, true, true, true, true, true, true, true, true, false, true, false, true, false, false, false] rfl rfl (take_ofW HT_.out HW_.out (by kernel_rfl)) (fun _ _ _ h => h) (Or.inl ⟨by rfl, ?_⟩) hHeld ?_ ?_
               rotate_left
               ·rintro w' ⟨s0, s1, s2, s3, s4, s5, s6, s7, s8, s9⟩
                go_simp
                with_reducible rfl
               rotate_left
               ·simp only [Act.put, List.setIfInBounds_toArray, List.set_cons_zero, List.set_cons_succ, i64_w, i32_w]
                rfl
               refine one_ (i := 41) (N := some 141) #[true, true, true, true, true, true, true, true, true, true, true, true, true, true, true, true, true, true, true, true, true, true, true, true, true, true, true, true, true, true, true, true, true, true, true, true, true, true, true, true, true, true, true, false, true, false, false, false] rfl rfl (one_of HT_.out (by kernel_rfl)) (by decide) (fun K hK => ?_)
               refine goes_ Tryd.func24 (by kernel_rfl) rfl #[.int .i64 a0_5, .int .i64 a0_5, .int .i64 a0_7] (by rfl) rfl rfl (by (try simp only [List.map_toArray, List.map_cons, List.map_nil]); rfl) ?_
               with_reducible refine (measure_Near.calls kj80 a0_5 a0_5 a0_7 t139 t140 _ ?sGl A116.out).mono ?_
               case sGl => exact Gl.below HGl.out (by repeat ((with_reducible (exact HB.out))))
               rintro e w121 ⟨rfl, hb⟩
               refine ⟨_, rfl, ?_⟩
               have n0_ := Aside0.mk (blk_below (g := gb101) (o := .cells #[.string a0_0, .string a0_1, .string a0_2, .slice A0_3 l0_3.length c0_3, .slice A0_4 l0_4.length c0_4, .int .i64 a0_5, .int .i64 a0_6, .int .i64 a0_7] 24 (0, 0)) (by (with_reducible skip); exact BK101.out) hb)
               have n1_ := Aside0.mk (blk_below (g := gb106) (o := .cells #[.int .i64 t104, .int .i64 t105] 32 (0, 0)) (by (with_reducible skip); exact BK106.out) hb)
               have n2_ := Aside0.mk (blk_below (g := gb109) (o := .cells #[.int .i64 t107, .int .i64 t108] 32 (0, 0)) (by (with_reducible skip); exact BK109.out) hb)
               have n3_ := Aside0.mk (blk_below (g := gb112) (o := .cells #[.int .i64 t110, .int .i64 t111] 32 (0, 0)) (by (with_reducible skip); exact BK112.out) hb)
               have n4_ := Aside0.mk (blk_below (g := gb115) (o := .cells #[.int .i64 t113, .int .i64 t114] 32 (0, 0)) (by (with_reducible skip); exact BK115.out) hb)
               have n5_ := Aside0.mk (blk_below (g := gb130) (o := .cells #[.int .i64 t128, .int .i64 t129] 32 (0, 0)) (by (with_reducible skip); exact BK130.out) hb)
               have n6_ := Aside0.mk (below_step (by repeat ((with_reducible (exact HB.out)))) hb)
               clear BK101
               clear BK106
               clear BK109
               clear BK112
               clear BK115
               clear BK130
               clear HB
               have BK101 := n0_
               have BK106 := n1_
               have BK109 := n2_
               have BK112 := n3_
               have BK115 := n4_
               have BK130 := n5_
               have HB := n6_
               clear n0_ n1_ n2_ n3_ n4_ n5_ n6_
               (try clear hb)
               refine hK.out _ _ ⟨(blk_cell BK101.out 0).trans rfl, (blk_cell BK101.out 1).trans rfl, (blk_cell BK101.out 2).trans rfl, (blk_cell BK101.out 3).trans rfl, (blk_cell BK101.out 4).trans rfl, (blk_cell BK101.out 5).trans rfl, (blk_cell BK101.out 6).trans rfl, (blk_cell BK101.out 7).trans rfl, (blk_cell BK130.out 0).trans rfl, (blk_cell BK130.out 1).trans rfl⟩ (fun hHeld => ?_)
               clear hK K
               refine norm_ (a' := ?_) ?_ ?_
               rotate_left
               ·show Act.put _ (some 141) _ = _
                simp only [Act.put, List.setIfInBounds_toArray, List.set_cons_zero, List.set_cons_succ, i64_w, i32_w]
                rfl
               refine pure_ (i := 43) (N := some 143) (v := ?_) (a' := ?_) #[true, true, true, true, true, true, true, true, true, true, true, true, true, true, true, true, true, true, true, true, true, true, true, true, true, true, true, true, true, true, true, true, true, true, true, true, true, true, true, true, true, true, true, true, true, false, false, false] rfl rfl (any_of HT_.out (by kernel_rfl)) (fun _ _ _ h => h) (Or.inl ⟨by rfl, ?_⟩) ?_ ?_
               rotate_left
               ·intro w'
                go_simp
                with_reducible rfl
               rotate_left
               ·simp only [Act.put, List.setIfInBounds_toArray, List.set_cons_zero, List.set_cons_succ, i64_w, i32_w]
                rfl
               refine pure_ (i := 45) (N := some 145) (v := ?_) (a' := ?_) #[true, true, true, true, true, true, true, true, true, true, true, true, true, true, true, true, true, true, true, true, true, true, true, true, true, true, true, true, true, true, true, true, true, true, true, true, true, true, true, true, true, true, true, true, true, true, false, false] rfl rfl (any_of HT_.out (by kernel_rfl)) (fun _ _ _ h => h) (Or.inl ⟨by rfl, ?_⟩) ?_ ?_
               rotate_left
               ·intro w'
                go_simp
                with_reducible rfl
               rotate_left
               ·simp only [Act.put, List.setIfInBounds_toArray, List.set_cons_zero, List.set_cons_succ, i64_w, i32_w]
                rfl
               refine pure_ (i := 46) (N := some 146) (v := ?_) (a' := ?_) #[true, true, true, true, true, true, true, true, true, true, true, true, true, true, true, true, true, true, true, true, true, true, true, true, true, true, true, true, true, true, true, true, true, true, true, true, true, true, true, true, true, true, true, true, true, true, true, false] rfl rfl (any_of HT_.out (by kernel_rfl)) (fun _ _ _ h => h) (Or.inl ⟨by rfl, ?_⟩) ?_ ?_
               rotate_left
               ·intro w'
                go_simp
                with_reducible rfl
               rotate_left
               ·simp only [Act.put, List.setIfInBounds_toArray, List.set_cons_zero, List.set_cons_succ, i64_w, i32_w]
                rfl
               refine pure_ (i := 47) (N := some 2) (v := ?_) (a' := ?_) #[true, true, true, true, true, true, true, true, true, true, true, true, true, true, true, true, true, true, true, true, true, true, true, true, true, true, true, true, true, true, true, true, true, true, true, true, true, true, true, true, true, true, true, true, true, true, true, true] rfl rfl (any_of HT_.out (by kernel_rfl)) (fun _ _ _ h => h) (Or.inl ⟨by rfl, ?_⟩) ?_ ?_
               rotate_left
               ·intro w'
                go_simp
                with_reducible rfl
               rotate_left
               ·simp only [Act.put, List.setIfInBounds_toArray, List.set_cons_zero, List.set_cons_succ, i64_w, i32_w]
                rfl
               refine done_ (done_of HT_.out (by kernel_rfl)) ?_
               try go_wp2
               go_ret
               exact ⟨by rfl, by repeat ((with_reducible (exact HB.out)))⟩
              ·rw [if_neg c115] at H
               have c115b0 : (t137 == t128 && (t138 == t129)) = false := by simpa using c115
               (try (have c115b1 : decide (t137 = t128 && (t138 == t129)) = false := by simpa using c115))
               (try (have c115b2 : (t137 == t128 && (t138 == t129)) = false := by simpa using c115))
               (try (have c115b3 : ¬ (t137 = t128 && (t138 == t129)) := by simpa using c115))
               clear c115
               exact absurd ((Option.some.inj H).trans HT.out) (by decide)
            ·rw [if_neg c107] at H
             have c107b0 : (t133 == t128 && (t134 == t129)) = false := by simpa using c107
             (try (have c107b1 : decide (t133 = t128 && (t134 == t129)) = false := by simpa using c107))
             (try (have c107b2 : (t133 == t128 && (t134 == t129)) = false := by simpa using c107))
             (try (have c107b3 : ¬ (t133 = t128 && (t134 == t129)) := by simpa using c107))
             clear c107
             exact absurd ((Option.some.inj H).trans HT.out) (by decide)
           ·rw [if_neg c105] at H
            have c105b0 : (t131 == t128 && (t132 == t129)) = false := by simpa using c105
            (try (have c105b1 : decide (t131 = t128 && (t132 == t129)) = false := by simpa using c105))
            (try (have c105b2 : (t131 == t128 && (t132 == t129)) = false := by simpa using c105))
            (try (have c105b3 : ¬ (t131 = t128 && (t132 == t129)) := by simpa using c105))
            clear c105
            exact absurd ((Option.some.inj H).trans HT.out) (by decide)
          ·replace c103 := Bool.eq_false_iff.mpr c103
           subst c103
           have H1 : (some false) = some r := by rw [if_neg (show ¬ (false = true) by decide)] at H; exact H
           clear H
           have H := H1
           clear H1
           exact absurd ((Option.some.inj H).trans HT.out) (by decide)
 ·replace c4 := Bool.eq_false_iff.mpr c4
  subst c4
  have H1 : (some t102) = some r := by rw [if_neg (show ¬ (false = true) by decide)] at H; exact H
  clear H
  have H := H1
  clear H1
  obtain rfl := Option.some.inj H
  go_enter Tryd.func6, Tryd.ntmps6
  go_wp2_with (first | ((with_reducible refine gate_dst (N := 1) rfl ?_); (try (refine gate_guard (by rfl) ?_; dsimp only)); refine box_event ?hg (N := 1) ?hd (cs := #[.string a0_0, .string a0_1, .string a0_2, .slice A0_3 l0_3.length c0_3, .slice A0_4 l0_4.length c0_4, .int .i64 a0_5, .int .i64 a0_6, .int .i64 a0_7]) (t := 24) ?hr ?_; (case hd => rfl); (case hg => rfl); (case hr => (go_simp; done)); intro gb101 hg w122 hbox hb; have n0_ := Aside0.mk (below_step (by repeat ((with_reducible (exact HB.out)))) hb); have n1_ := Aside0.mk (hbox); have n2_ := Aside0.mk ((by rw [hg]; exact (below_size (by repeat ((with_reducible (exact HB.out))))) : w.heap.size ≤ gb101)); have n3_ := Aside0.mk ((by rw [hg]; exact (below_size (by repeat ((with_reducible (exact HB.out))))) : w.heap.size ≤ gb101)); clear HB; have HB := n0_; have BK101 := n1_; have GW101 := n2_; have GE101 := n3_; clear n0_ n1_ n2_ n3_; clear hb hbox hg) | ((with_reducible refine gate_callee (f := 11) rfl ?_); refine goesL_ (some 10) rfl rfl Tryd.func11 (by kernel_rfl) rfl #[] rfl (by (try simp only [List.map_toArray, List.map_cons, List.map_nil]); done) ?_; (with_reducible refine (cleanselaw04_head.calls  t102 _ ?sGl A2.out).mono ?_); (case sGl => exact Gl.below HGl.out (by repeat ((with_reducible (exact HB.out))))); rintro e w123 ⟨rfl, hb⟩; refine ⟨_, rfl, ?_⟩; have n0_ := Aside0.mk (blk_below (g := gb101) (o := .cells #[.string a0_0, .string a0_1, .string a0_2, .slice A0_3 l0_3.length c0_3, .slice A0_4 l0_4.length c0_4, .int .i64 a0_5, .int .i64 a0_6, .int .i64 a0_7] 24 (0, 0)) (by (with_reducible skip); exact BK101.out) hb); have n1_ := Aside0.mk (below_step (by repeat ((with_reducible (exact HB.out)))) hb); clear BK101; clear HB; have BK101 := n0_; have HB := n1_; clear n0_ n1_; (try clear hb); have hcz124_0 : w123.cell? ⟨gb101, 0, none⟩ = some (.string a0_0) := (blk_cell BK101.out 0).trans rfl; have hcz124_1 : w123.cell? ⟨gb101, 1, none⟩ = some (.string a0_1) := (blk_cell BK101.out 1).trans rfl; have hcz124_2 : w123.cell? ⟨gb101, 2, none⟩ = some (.string a0_2) := (blk_cell BK101.out 2).trans rfl; have hcz124_3 : w123.cell? ⟨gb101, 3, none⟩ = some (.slice A0_3 l0_3.length c0_3) := (blk_cell BK101.out 3).trans rfl; have hcz124_4 : w123.cell? ⟨gb101, 4, none⟩ = some (.slice A0_4 l0_4.length c0_4) := (blk_cell BK101.out 4).trans rfl; have hcz124_5 : w123.cell? ⟨gb101, 5, none⟩ = some (.int .i64 a0_5) := (blk_cell BK101.out 5).trans rfl; have hcz124_6 : w123.cell? ⟨gb101, 6, none⟩ = some (.int .i64 a0_6) := (blk_cell BK101.out 6).trans rfl; have hcz124_7 : w123.cell? ⟨gb101, 7, none⟩ = some (.int .i64 a0_7) := (blk_cell BK101.out 7).trans rfl; have hfz124_0 := blk_frozen BK101.out 0; have hfz124_1 := blk_frozen BK101.out 1; have hfz124_2 := blk_frozen BK101.out 2; have hfz124_3 := blk_frozen BK101.out 3; have hfz124_4 := blk_frozen BK101.out 4; have hfz124_5 := blk_frozen BK101.out 5; have hfz124_6 := blk_frozen BK101.out 6; have hfz124_7 := blk_frozen BK101.out 7) | ((with_reducible refine gate_callee (f := 12) rfl ?_); refine goesL_ (some 12) rfl rfl Tryd.func12 (by kernel_rfl) rfl #[.agg #[.string a0_0, .string a0_1, .string a0_2, .slice A0_3 l0_3.length c0_3, .slice A0_4 l0_4.length c0_4, .int .i64 a0_5, .int .i64 a0_6, .int .i64 a0_7]] rfl (by (try simp only [List.map_toArray, List.map_cons, List.map_nil]); rfl) ?_; (with_reducible refine (cleanselaw04_small.calls k a0_0 a0_1 a0_2 _ _ l0_3 _ _ l0_4 a0_5 a0_6 a0_7 false _ ?side1 ?side2 ?side3 ?side4 A3.out).mono ?_); (case side1 => repeat ((exact (Kd.C_below HR0_3.out HB.out)))); (case side2 => exact HC0_3.out); (case side3 => repeat ((exact (Kd.C_below HR0_4.out HB.out)))); (case side4 => exact HC0_4.out); rintro e w125 ⟨rfl, hb⟩; refine ⟨_, rfl, ?_⟩; have n0_ := Aside0.mk (blk_below (g := gb101) (o := .cells #[.string a0_0, .string a0_1, .string a0_2, .slice A0_3 l0_3.length c0_3, .slice A0_4 l0_4.length c0_4, .int .i64 a0_5, .int .i64 a0_6, .int .i64 a0_7] 24 (0, 0)) (by (with_reducible skip); exact BK101.out) hb); have n1_ := Aside0.mk (below_step (by repeat ((with_reducible (exact HB.out)))) hb); clear BK101; clear HB; have BK101 := n0_; have HB := n1_; clear n0_ n1_; (try clear hb)))
  go_ret
  exact ⟨by rfl, by repeat ((with_reducible (exact HB.out)))⟩

end Go.Proofs.YtgomlpndoolllaaDoor.LSimilar
end

section
/- What the contract of Of tells, in plain values. -/
namespace Go.Proofs.YtgomlpndoolllaaDoor.Pure
open Go Go.RowKit Go.Proofs.YtgomlpndoolllaaDoor.Q Go.Proofs.YtgomlpndoolllaaDoor.CL Go.Proofs.YtgomlpndoolllaaDoorW.PrintWords Go.Proofs.YtgomlpndoolllaaDoorW.PrintLast Go.Proofs.YtgomlpndoolllaaDoorW.PrintMore
set_option linter.unusedVariables false
set_option linter.unusedSimpArgs false

/-- How alike two texts are by their edit distance. -/
def alikeS (a b : List UInt8) : Int × Int := if max a.length b.length = 0 then (1, 1) else rat (max a.length b.length - dist a b) (max a.length b.length)
theorem alike_f (a b : ByteArray) (ha : a.toList.length ≤ 1000) (hb : b.toList.length ≤ 1000) : Ev (fun k => measure_Alike.f k a b) (alikeS a.toList b.toList) := by
  have e0 := tl_size a
  have e1 := tl_size b
  have hm : mx (a.size : Int) (b.size : Int) = ((max a.toList.length b.toList.length : Nat) : Int) := by rw [mx_nat, e0, e1]
  unfold alikeS
  refine Ev.congr (fun k => by unfold measure_Alike.f; rw [hm]) ?_
  by_cases h0 : max a.toList.length b.toList.length = 0
  · rw [if_pos h0]
    exact Ev.congr (fun k => by rw [if_pos (by omega)]) (Ev.now _)
  · rw [if_neg h0]
    refine Ev.congr (fun k => by rw [if_neg (by omega)]) (Ev.bind (edit_f a b ha hb) ?_)
    have hd := (dist_bounds a.toList b.toList).2.2
    have e2 : wrap64 (((max a.toList.length b.toList.length : Nat) : Int) - ((dist a.toList b.toList : Nat) : Int)) = ((max a.toList.length b.toList.length - dist a.toList b.toList : Nat) : Int) := by
      rw [i64_id (by omega) (by omega)]; omega
    rw [e2]
    exact Ev.bind (share_f _ _ (by omega) (by omega) (by omega)) (Ev.now _)
theorem alikeS_low (a b : List UInt8) (ha : a.length ≤ 1000) (hb : b.length ≤ 1000) : ∃ p q, Low (alikeS a b) p q := by
  unfold alikeS
  split
  · exact ⟨1, 1, low_one⟩
  · have hd := (dist_bounds a b).2.2
    obtain ⟨p, q, _, hl, _⟩ := rat_low (n := max a.length b.length - dist a b) (d := max a.length b.length) (by omega) (by omega) (by omega)
    exact ⟨p, q, hl⟩
theorem alikeS_symm (a b : List UInt8) : alikeS a b = alikeS b a := by
  unfold alikeS; rw [Nat.max_comm, dist_symm]
theorem alikeS_self (a : List UInt8) : alikeS a a = (1, 1) := by
  unfold alikeS
  split
  · rfl
  · have : dist a a = 0 := lev_self _
    rw [this, Nat.sub_zero]
    exact rat_self (by omega)
def jaroB (x y : ByteArray) : Int × Int := if 200 < x.size ∨ 200 < y.size then (0, 1) else jaroN x.size y.size (jA x) (jA y)
theorem jaroB_f (x y : ByteArray) : Ev (fun k => measure_Jaro.f k x y) (jaroB x y) := by
  unfold jaroB
  by_cases h : 200 < x.size ∨ 200 < y.size
  · rw [if_pos h]; exact jaro_long x y h
  · rw [if_neg h]; exact jaro_f x y (by omega) (by omega)
theorem jaroB_low (x y : ByteArray) : ∃ p q, Low (jaroB x y) p q := by
  unfold jaroB
  split
  · exact ⟨0, 1, low_zero⟩
  · exact jaroN_low _ _ _ _ (by omega) (by omega)
theorem jaroB_symm (x y : ByteArray) : jaroB x y = jaroB y x := by
  unfold jaroB
  by_cases h : 200 < x.size ∨ 200 < y.size
  · rw [if_pos h, if_pos h.symm]
  · rw [if_neg h, if_neg (fun k => h k.symm)]; exact jaroN_symm _ _ _ _
theorem jaroB_self (x : ByteArray) (h : x.size ≤ 200) : jaroB x x = (1, 1) := by
  unfold jaroB; rw [if_neg (by omega)]; exact jaroN_self _ _
theorem jac_f (a b : List ByteArray) (h : (jOk a && jOk b) = true) (hn : a.length + b.length ≤ 1000000000) : Ev (fun k => measure_Jaccard.f k a b) (jacS (dataL a) (dataL b)) := by
  unfold jacS
  refine Ev.congr (fun k => by unfold measure_Jaccard.f; rw [if_pos h]) ?_
  have hl := jac_len (dataL a) (dataL b)
  have e : (dataL a).length = a.length := by unfold dataL; rw [List.length_map]
  have e2 : (dataL b).length = b.length := by unfold dataL; rw [List.length_map]
  by_cases h0 : (jFold (dataL a) (dataL b)).2.2.1 = 0
  · rw [if_pos h0]
    exact Ev.congr (fun k => by rw [if_pos h0]) (Ev.now _)
  · rw [if_neg h0]
    refine Ev.congr (fun k => by rw [if_neg h0]) (share_f _ _ (by omega) (j_le _ _) (by omega))
abbrev I64 (x : Int) : Prop := -9223372036854775808 ≤ x ∧ x < 9223372036854775808
theorem nearS_symm (x y t : Int) : nearS x y t = nearS y x t := by
  unfold nearS
  rw [show (x - y).natAbs = (y - x).natAbs by omega]
theorem nearS_low (x y t : Int) : ∃ p q, Low (nearS x y t) p q := by
  unfold nearS
  split
  · rename_i h
    obtain ⟨p, q, _, hl, _⟩ := rat_low (n := t.toNat + 1 - (x - y).natAbs) (d := t.toNat + 1) (by omega) (by omega) (by omega)
    exact ⟨p, q, hl⟩
  · exact ⟨0, 1, low_zero⟩
theorem nearS_self (x t : Int) (h0 : 0 ≤ t) (h1 : t < 1000000000) : nearS x x t = (1, 1) := by
  unfold nearS
  rw [if_pos ⟨h0, h1, by omega⟩, show (x - x).natAbs = 0 by omega, Nat.sub_zero]
  exact rat_self (by omega)
end Go.Proofs.YtgomlpndoolllaaDoor.Pure
end

section
/- The plain law of MeasureSimilar. -/
namespace Go.Proofs.YtgomlpndoolllaaDoor.Pure
open Go Go.RowKit Go.Proofs.YtgomlpndoolllaaDoor.Q Go.Proofs.YtgomlpndoolllaaDoor.LSimilar Go.Proofs.YtgomlpndoolllaaDoorW.PrintWords Go.Proofs.YtgomlpndoolllaaDoorW.PrintLast Go.Proofs.YtgomlpndoolllaaDoorW.PrintMore
set_option linter.unusedVariables false
set_option linter.unusedSimpArgs false

def FewP (l : List ByteArray) : Prop := l.length ≤ 40 ∧ ∀ x ∈ l, x.size ≤ 100
theorem few_l0 (xs : List (List ByteArray)) (hn : xs.length < 1000) : ∀ (d i : Nat), d + i = xs.length → ∃ b, Ev (fun k => cleanseref04_Few.l0 k xs i) b ∧ (b = true → ∀ l ∈ xs.drop i, FewP l)
  | 0, i, h => ⟨true, Ev.step (f := fun _ => some true) (fun k => by simp only [cleanseref04_Few.l0]; rw [if_neg (by omega)]) (Ev.now _), fun _ => by rw [List.drop_eq_nil_of_le (by omega)]; simp⟩
  | d + 1, i, h => by
    have hi : i < xs.length := by omega
    have hr : rd_L5 xs (i : Int) = xs[i] := by simp [rd_L5, List.getD_eq_getElem?_getD, hi]
    rw [List.drop_eq_getElem_cons hi]
    by_cases hb : (xs[i].length : Int) > 40
    · exact ⟨false, Ev.step (f := fun _ => some false) (fun k => by simp only [cleanseref04_Few.l0]; rw [if_pos (by omega), if_pos (by omega), hr, if_pos hb]) (Ev.now _), fun h => (by cases h)⟩
    · obtain ⟨b1, hs, hs1⟩ := short_f 100 xs[i] (by omega)
      cases b1 with
      | false =>
        refine ⟨false, Ev.step (f := fun k => (cleanseref04_Short.f k 100 xs[i]).bind fun t => if t = true then cleanseref04_Few.l0 k xs (wrap64 ((i : Int) + 1)) else some false) (fun k => by simp only [cleanseref04_Few.l0]; rw [if_pos (by omega), if_pos (by omega), hr, if_neg hb]) (Ev.bind hs (Ev.congr (fun k => by rw [if_neg (by simp)]) (Ev.now _))), fun h => (by cases h)⟩
      | true =>
        obtain ⟨b, hb1, hb2⟩ := few_l0 xs hn d (i + 1) (by omega)
        refine ⟨b, Ev.step (f := fun k => (cleanseref04_Short.f k 100 xs[i]).bind fun t => if t = true then cleanseref04_Few.l0 k xs (wrap64 ((i : Int) + 1)) else some false) (fun k => by simp only [cleanseref04_Few.l0]; rw [if_pos (by omega), if_pos (by omega), hr, if_neg hb]) (Ev.bind hs (Ev.congr (fun k => by rw [if_pos rfl, wrap_suc _ (by omega)]) hb1)), fun hbt l hl => ?_⟩
        rcases List.mem_cons.1 hl with e | e
        · subst e; exact ⟨by omega, fun x hx => Int.ofNat_le.1 (hs1.1 rfl x hx)⟩
        · exact hb2 hbt l e
theorem few_f (xs : List (List ByteArray)) (hn : xs.length < 1000) : ∃ b, Ev (fun k => cleanseref04_Few.f k xs) b ∧ (b = true → ∀ l ∈ xs, FewP l) := few_l0 xs hn xs.length 0 rfl
theorem small_f (a b c : ByteArray) (l m : List ByteArray) (x y t : Int) : ∃ r, Ev (fun k => cleanselaw04_small.f k a b c l m x y t) r ∧ (r = true → a.size ≤ 300 ∧ b.size ≤ 300 ∧ FewP l ∧ FewP m) := by
  obtain ⟨b1, hb, hbi⟩ := short_f 300 [a, b, c] (by simp)
  cases b1 with
  | false => exact ⟨false, Ev.congr (fun k => by unfold cleanselaw04_small.f; rfl) (Ev.bind hb (Ev.congr (fun k => by rw [if_neg (by simp)]) (Ev.now _))), fun h => (by cases h)⟩
  | true =>
    obtain ⟨b2, hf, hfi⟩ := few_f [l, m] (by simp)
    refine ⟨b2, Ev.congr (fun k => by unfold cleanselaw04_small.f; rfl) (Ev.bind hb (Ev.congr (fun k => by rw [if_pos rfl]) (Ev.bind hf (Ev.now _)))), fun h => ?_⟩
    have hh := hbi.1 rfl
    exact ⟨Int.ofNat_le.1 (hh a (by simp)), Int.ofNat_le.1 (hh b (by simp)), hfi h l (by simp), hfi h m (by simp)⟩
theorem few_ok {l : List ByteArray} (h : FewP l) : jOk l = true := by
  unfold jOk
  rw [Bool.and_eq_true, decide_eq_true_eq, List.all_eq_true]
  exact ⟨Nat.le_trans h.1 (by decide), fun x hx => by rw [decide_eq_true_eq]; exact Nat.le_trans (h.2 x hx) (by decide)⟩
theorem same_pair (x y : Int) : ¬ ((!(x == x) || !(y == y)) = true) := by simp
theorem one_pair : ((1 : Int) == 1 && (1 : Int) == 1) = true := by decide
theorem near_good (x t : Int) : ((nearS x x t).1 == 1 && (nearS x x t).2 == 1) = (if t ≥ 0 then decide (t < 1000000000) else false) := by
  by_cases h0 : t ≥ 0
  · rw [if_pos h0]
    by_cases h1 : t < 1000000000
    · rw [nearS_self x t h0 h1, decide_eq_true h1]; rfl
    · unfold nearS; rw [if_neg (by omega), decide_eq_false h1]; rfl
  · unfold nearS; rw [if_neg (by omega), if_neg h0]; rfl
theorem similar_ev (a b c : ByteArray) (l m : List ByteArray) (x y t : Int) (hx : I64 x) (hy : I64 y) (ht : I64 t) : Ev (fun k => cleanselaw04_MeasureSimilar.f k a b c l m x y t) true := by
  obtain ⟨r, hr, hri⟩ := small_f a b c l m x y t
  refine Ev.congr (fun k => by unfold cleanselaw04_MeasureSimilar.f cleanselaw04_head.f; rw [Option.bind_some]) (Ev.bind hr ?_)
  cases r with
  | false => exact Ev.congr (fun k => by rw [if_neg (by simp)]) (Ev.now _)
  | true =>
    obtain ⟨ha, hb, hl, hm⟩ := hri rfl
    clear hr hri
    have l1 := hl.1
    have l2 := hm.1
    have ta := tl_size a
    have tb := tl_size b
    have A1 := alike_f a b (by omega) (by omega)
    have A2 := alike_f b a (by omega) (by omega)
    have A3 := alike_f a a (by omega) (by omega)
    rw [alikeS_symm] at A2
    rw [alikeS_self] at A3
    obtain ⟨_, _, AL⟩ := alikeS_low a.toList b.toList (by omega) (by omega)
    have B1 := jac_f l m (by rw [few_ok hl, few_ok hm]; rfl) (by omega)
    have B2 := jac_f m l (by rw [few_ok hl, few_ok hm]; rfl) (by omega)
    have B3 := jac_f l l (by rw [few_ok hl]; rfl) (by omega)
    rw [jacS_symm] at B2
    rw [jacS_self] at B3
    have dl : ∀ z : List ByteArray, (dataL z).length = z.length := fun z => by unfold dataL; rw [List.length_map]
    obtain ⟨_, _, BL⟩ := jacS_low (dataL l) (dataL m) (by rw [dl, dl]; omega)
    have C1 := jaroB_f a b
    have C2 := jaroB_f b a
    have C3 := jaroB_f a a
    rw [jaroB_symm] at C2
    obtain ⟨_, _, CL⟩ := jaroB_low a b
    have D1 := near_f x y t hx hy ht
    have D2 := near_f y x t hy hx ht
    have D3 := near_f x x t hx hx ht
    rw [nearS_symm] at D2
    obtain ⟨_, _, DL⟩ := nearS_low x y t
    generalize alikeS a.toList b.toList = A at *
    generalize jacS (dataL l) (dataL m) = B at *
    generalize jaroB a b = C at *
    generalize nearS x y t = D at *
    have hg := near_good x t
    have j2 : Ev (fun k => cleanselaw04_MeasureSimilar.j2 k true (if t ≥ 0 then decide (t < 1000000000) else false) a b c l m x y t 1 1) true := by
      refine Ev.step (fun k => by simp only [cleanselaw04_MeasureSimilar.j2]; rw [if_pos trivial]) (Ev.bind A3 ?_)
      refine Ev.congr (fun k => by rw [if_pos one_pair]) (Ev.bind B3 ?_)
      refine Ev.congr (fun k => by rw [if_pos one_pair]) ?_
      have fin : Ev (fun k => (measure_Near.f k x x t).bind fun bt => some ((bt.1 == 1 && (bt.2 == 1)) == (if t ≥ 0 then decide (t < 1000000000) else false))) true := by
        refine Ev.bind D3 (Ev.congr (fun k => ?_) (Ev.now true))
        rw [hg]
        exact congrArg some (beq_self_eq_true _)
      by_cases h2 : (a.size : Int) > 200
      · exact Ev.congr (fun k => by rw [if_pos h2]) fin
      · rw [jaroB_self a (by omega)] at C3
        exact Ev.congr (fun k => by rw [if_neg h2]) (Ev.bind C3 (Ev.congr (fun k => by rw [if_pos one_pair]) fin))
    have j1 : Ev (fun k => cleanselaw04_MeasureSimilar.j1 k true false a b c l m x y t) true := by
      refine Ev.step (fun k => ?_) j2
      simp only [cleanselaw04_MeasureSimilar.j1]
      rw [if_neg (by simp)]
      unfold cleanselaw04_of.f
      rw [Option.bind_some]
      by_cases h0 : t ≥ 0
      · rw [if_pos h0, if_pos h0]
      · rw [if_neg h0, if_neg h0]
    have j0 : Ev (fun k => cleanselaw04_MeasureSimilar.j0 k true false a b c l m x y t A.1 A.2 B.1 B.2 C.1 C.2 D.1 D.2) true := by
      refine Ev.step (fun k => by simp only [cleanselaw04_MeasureSimilar.j0]; rw [if_neg (by simp)]) (Ev.bind A2 ?_)
      refine Ev.congr (fun k => by rw [if_neg (same_pair _ _)]) (Ev.bind B2 ?_)
      refine Ev.congr (fun k => by rw [if_neg (same_pair _ _)]) (Ev.bind C2 ?_)
      refine Ev.congr (fun k => by rw [if_neg (same_pair _ _)]) (Ev.bind D2 ?_)
      refine Ev.congr (fun k => ?_) j1
      rw [show (!(D.1 == D.1) || !(D.2 == D.2)) = false by simp]
    refine Ev.congr (fun k => by rw [if_pos rfl]) (Ev.bind A1 (Ev.bind B1 (Ev.bind C1 (Ev.bind D1 (Ev.bind (unit_low AL) ?_)))))
    refine Ev.congr (fun k => by rw [if_pos rfl]) (Ev.bind (unit_low BL) ?_)
    refine Ev.congr (fun k => by rw [if_pos rfl]) (Ev.bind (unit_low CL) ?_)
    exact Ev.congr (fun k => by rw [if_pos rfl]) (Ev.bind (unit_low DL) (Ev.congr (fun k => rfl) j0))
end Go.Proofs.YtgomlpndoolllaaDoor.Pure
end

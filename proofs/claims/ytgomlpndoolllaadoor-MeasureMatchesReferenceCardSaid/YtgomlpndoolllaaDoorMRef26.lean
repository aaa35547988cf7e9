/- Parts of the proof of MRef: words, contracts and plain laws. -/
import Derived.Test.YtgomlpndoolllaaDoorMRef11
import Derived.Test.YtgomlpndoolllaaDoorMRef12
import Derived.Test.YtgomlpndoolllaaDoorMRef23
import Derived.Test.YtgomlpndoolllaaDoorMRef24
import Derived.Test.YtgomlpndoolllaaDoorMRef25
section
namespace Go.Proofs.YtgomlpndoolllaaDoor.LMatchesReference
open Go.RowKit Go.Proofs.YtgomlpndoolllaaDoor.Q Go.Proofs.YtgomlpndoolllaaDoorW.PrintWords Go.Proofs.YtgomlpndoolllaaDoorW.PrintLast Go.Proofs.YtgomlpndoolllaaDoorW.PrintMore
attribute [local go_sem] max2_int min2_int max_two min_two max_three min_three max_four min_four   -- for this text's walks alone
set_option linter.unusedVariables false
set_option linter.unusedSimpArgs false

attribute [local go_sem high] eqA32
/-! ### cleanselaw04_MeasureMatchesReference: function 3 -/
mutual
def cleanselaw04_MeasureMatchesReference.j0 : Nat → Int → Bool → Bool → ByteArray → ByteArray → ByteArray → List ByteArray → List ByteArray → Int → Int → Int → Int → Int → ByteArray → Int → Int → ByteArray → Option (Bool)
 | 0, _, _, _, _, _, _, _, _, _, _, _, _, _, _, _, _, _ => none
 | k + 1, x1, x9, x27, x102000, x102001, x102002, x102003, x102004, x102005, x102006, x102007, x103000, x103001, x103002, x104000, x104001, x104002 => if x27 = true then (some x9) else ((measure_Edit.f k x102000 x102001).bind fun t110 => ((cleanseref04_Edit.f k x102000 x102001).bind fun t111 => (if t110 = t111 then ((measure_Alike.f k x102000 x102001).bind fun bt112 => ((cleanseref04_Alike.f k x102000 x102001).bind fun bt114 => (if (bt112.1 == bt114.1 && (bt112.2 == bt114.2)) = true then ((measure_Jaccard.f k x102003 x102004).bind fun bt116 => ((cleanseref04_Jaccard.f k x102003 x102004).bind fun bt118 => (cleanselaw04_MeasureMatchesReference.j1 k x1 x9 (bt116.1 == bt118.1 && (bt116.2 == bt118.2)) x102000 x102001 x102002 x102003 x102004 x102005 x102006 x102007 x103000 x103001 x103002 x104000 x104001 x104002))) else (cleanselaw04_MeasureMatchesReference.j1 k x1 x9 false x102000 x102001 x102002 x102003 x102004 x102005 x102006 x102007 x103000 x103001 x103002 x104000 x104001 x104002)))) else (cleanselaw04_MeasureMatchesReference.j1 k x1 x9 false x102000 x102001 x102002 x102003 x102004 x102005 x102006 x102007 x103000 x103001 x103002 x104000 x104001 x104002))))
def cleanselaw04_MeasureMatchesReference.j1 : Nat → Int → Bool → Bool → ByteArray → ByteArray → ByteArray → List ByteArray → List ByteArray → Int → Int → Int → Int → Int → ByteArray → Int → Int → ByteArray → Option (Bool)
 | 0, _, _, _, _, _, _, _, _, _, _, _, _, _, _, _, _, _ => none
 | k + 1, x1, x9, x10, x102000, x102001, x102002, x102003, x102004, x102005, x102006, x102007, x103000, x103001, x103002, x104000, x104001, x104002 => (measure_Of.f k x1 x102007 x103000 x103001 x103002 x104000 x104001 x104002).bind fun bt120 => ((cleanseref04_Of.f k x1 x102007 x103000 x103001 x103002 x104000 x104001 x104002).bind fun bt124 => (if x9 = true then (if x10 = true then ((measure_Jaro.f k x102000 x102001).bind fun bt128 => ((cleanseref04_Jaro.f k x102000 x102001).bind fun bt130 => (if (bt128.1 == bt130.1 && (bt128.2 == bt130.2)) = true then ((measure_Near.f k x102005 x102006 x102007).bind fun bt132 => ((cleanseref04_Near.f k x102005 x102006 x102007).bind fun bt134 => (if (bt132.1 == bt134.1 && (bt132.2 == bt134.2)) = true then (if (bt120.1 == bt124.1 && (bt120.2.1 == bt124.2.1)) = true then (some (bt120.2.2 == bt124.2.2)) else (some false)) else (some false)))) else (some false)))) else (some false)) else (some false)))
end
def cleanselaw04_MeasureMatchesReference.f (k : Nat) (a0_0 : ByteArray) (a0_1 : ByteArray) (a0_2 : ByteArray) (l0_3 : List ByteArray) (l0_4 : List ByteArray) (a0_5 : Int) (a0_6 : Int) (a0_7 : Int) (a1 : Int) (a2_0 : Int) (a2_1 : Int) (a2_2 : ByteArray) (a3_0 : Int) (a3_1 : Int) (a3_2 : ByteArray) : Option (Bool) := (cleanselaw04_head.f).bind fun t104 => ((cleanselaw04_small.f k a0_0 a0_1 a0_2 l0_3 l0_4 a0_5 a0_6 a0_7).bind fun t105 => (if t105 = true then ((cleanseref04_Short.f k 300 (([a2_2, a3_2] : List ByteArray))).bind fun t109 => (cleanselaw04_MeasureMatchesReference.j0 k a1 t104 (!t109) a0_0 a0_1 a0_2 l0_3 l0_4 a0_5 a0_6 a0_7 a2_0 a2_1 a2_2 a3_0 a3_1 a3_2)) else (cleanselaw04_MeasureMatchesReference.j0 k a1 t104 true a0_0 a0_1 a0_2 l0_3 l0_4 a0_5 a0_6 a0_7 a2_0 a2_1 a2_2 a3_0 a3_1 a3_2)))
def cleanselaw04_MeasureMatchesReference.T4 : Bool × List (List Nat × List Nat) := (true, [([], []), ([0], [0]), ([], []), ([2], [2]), ([1, 3], [1, 3]), ([], []), ([5], [5]), ([], []), ([7], [7]), ([6, 8, 4], [6, 8]), ([4, 9], [4, 9]), ([10, 9], [10]), ([11], [11]), ([12, 11], [11, 12]), ([11], [11]), ([14, 11], [11, 14]), ([13, 15, 11, 11], [11, 13, 15]), ([11], [11]), ([17, 11], [11, 17]), ([11], [11]), ([19, 11], [11, 19]), ([18, 20, 16, 11], [11, 18, 20]), ([16, 21, 11], [11, 16, 21]), ([11, 22], [11, 22]), ([23, 21], [23]), ([24], [24]), ([25, 24], [24, 25]), ([24], [24]), ([27, 24], [24, 27]), ([26, 28, 24, 24], [24, 26, 28]), ([24], [24]), ([30, 24], [24, 30]), ([24], [24]), ([32, 24], [24, 32]), ([31, 33, 29, 24], [24, 31, 33]), ([29, 34, 24], [24, 29, 34]), ([24, 35], [24, 35]), ([36, 34, 0, 1, 2, 3, 4, 5, 6, 7, 8, 9, 10, 11, 12, 13, 14, 15, 16, 17, 18, 19, 20, 21, 22, 23, 24, 25, 26, 27, 28, 29, 30, 31, 32, 33, 34, 35, 36], [36])])
def cleanselaw04_MeasureMatchesReference.B4 : List Nat := [0, 1, 0, 4, 15, 0, 32, 0, 128, 511, 1023, 2047, 4095, 8191, 4095, 20479, 65535, 4095, 135167, 4095, 528383, 2097151, 4194303, 8388607, 16777215, 33554431, 67108863, 33554431, 167772159, 536870911, 33554431, 1107296255, 33554431, 4328521727, 17179869183, 34359738367, 68719476735, 137438953471]
theorem cleanselaw04_MeasureMatchesReference.tab4 : rtab .any (opsOf Tryd.f3 4) = cleanselaw04_MeasureMatchesReference.T4 := by kernel_rfl
theorem cleanselaw04_MeasureMatchesReference.bits4 : waitsOk cleanselaw04_MeasureMatchesReference.T4.2 cleanselaw04_MeasureMatchesReference.B4 = true := by kernel_rfl
def cleanselaw04_MeasureMatchesReference.T7 : Bool × List (List Nat × List Nat) := (true, [([], []), ([0], [0]), ([1], [1]), ([1, 2], [1, 2]), ([3, 1], [3]), ([4], [4]), ([5, 4], [4, 5]), ([4], [4]), ([7, 4], [4, 7]), ([6, 8, 4, 4], [4, 6, 8]), ([4], [4]), ([10, 4], [4, 10]), ([4], [4]), ([12, 4], [4, 12]), ([11, 13, 9, 4], [4, 11, 13]), ([9, 14, 4], [4, 9, 14]), ([4, 15], [4, 15]), ([16, 14], [16]), ([17], [17]), ([18, 17], [17, 18]), ([17], [17]), ([20, 17], [17, 20]), ([17], [17]), ([22, 17], [17, 22]), ([19, 21, 23, 17, 17], [17, 19, 21, 23]), ([17], [17]), ([25, 17], [17, 25]), ([17], [17]), ([27, 17], [17, 27]), ([17], [17]), ([29, 17], [17, 29]), ([26, 28, 30, 24, 17], [17, 26, 28, 30]), ([24, 31, 17], [17, 24, 31]), ([17, 32], [17, 32]), ([33, 31], [33]), ([34], [34]), ([34], [34]), ([35, 36, 34], [34, 35, 36]), ([34, 37], [34, 37]), ([38, 34], [38]), ([39], [39]), ([39], [39]), ([40, 41, 39], [39, 40, 41]), ([39, 42], [39, 42]), ([43, 39, 0, 1, 2, 3, 4, 5, 6, 7, 8, 9, 10, 11, 12, 13, 14, 15, 16, 17, 18, 19, 20, 21, 22, 23, 24, 25, 26, 27, 28, 29, 30, 31, 32, 33, 34, 35, 36, 37, 38, 39, 40, 41, 42, 43], [43])])
def cleanselaw04_MeasureMatchesReference.B7 : List Nat := [0, 1, 3, 7, 15, 31, 63, 31, 159, 511, 31, 1055, 31, 4127, 16383, 32767, 65535, 131071, 262143, 524287, 262143, 1310719, 262143, 4456447, 16777215, 262143, 33816575, 262143, 134479871, 262143, 537133055, 2147483647, 4294967295, 8589934591, 17179869183, 34359738367, 34359738367, 137438953471, 274877906943, 549755813887, 1099511627775, 1099511627775, 4398046511103, 8796093022207, 17592186044415]
theorem cleanselaw04_MeasureMatchesReference.tab7 : rtab .any (opsOf Tryd.f3 7) = cleanselaw04_MeasureMatchesReference.T7 := by kernel_rfl
theorem cleanselaw04_MeasureMatchesReference.bits7 : waitsOk cleanselaw04_MeasureMatchesReference.T7.2 cleanselaw04_MeasureMatchesReference.B7 = true := by kernel_rfl
set_option maxHeartbeats 8000000 in
set_option maxRecDepth 100000 in
theorem cleanselaw04_MeasureMatchesReference.calls (k : Nat) (a0_0 : ByteArray) (a0_1 : ByteArray) (a0_2 : ByteArray) (A0_3 : Option Addr) (c0_3 : Nat) (l0_3 : List ByteArray) (A0_4 : Option Addr) (c0_4 : Nat) (l0_4 : List ByteArray) (a0_5 : Int) (a0_6 : Int) (a0_7 : Int) (a1 : Int) (a2_0 : Int) (a2_1 : Int) (a2_2 : ByteArray) (a3_0 : Int) (a3_1 : Int) (a3_2 : ByteArray) (r : Bool) (w : World) (hr0_3 : Kd.C Kd.string w A0_3 l0_3.length l0_3) (hc0_3 : l0_3.length ≤ c0_3) (hr0_4 : Kd.C Kd.string w A0_4 l0_4.length l0_4) (hc0_4 : l0_4.length ≤ c0_4) (hG : Gl w) (hT : r = true) (h : cleanselaw04_MeasureMatchesReference.f k a0_0 a0_1 a0_2 l0_3 l0_4 a0_5 a0_6 a0_7 a1 a2_0 a2_1 a2_2 a3_0 a3_1 a3_2 = some r) :
  Calls Tryd.prog 3 #[.agg #[.string a0_0, .string a0_1, .string a0_2, .slice A0_3 l0_3.length c0_3, .slice A0_4 l0_4.length c0_4, .int .i64 a0_5, .int .i64 a0_6, .int .i64 a0_7], .int .i64 a1, .agg #[.int .i64 a2_0, .int .i64 a2_1, .string a2_2], .agg #[.int .i64 a3_0, .int .i64 a3_1, .string a3_2]] w fun e w' => e = .returned (.bool r) ∧ Below w.heap.size w w' := by
 have HGl := Aside0.mk hG
 clear hG
 have HT := Aside0.mk hT
 clear hT
 have hu24 := Tryd.underlying24
 have hu26 := Tryd.underlying26
 have hu32 := Tryd.underlying32
 have HR0_3 := Aside0.mk hr0_3
 have HC0_3 := Aside0.mk hc0_3
 clear hr0_3 hc0_3
 have HR0_4 := Aside0.mk hr0_4
 have HC0_4 := Aside0.mk hc0_4
 clear hr0_4 hc0_4
 have HB := Aside0.mk (Below.refl w.heap.size w)
 have H : ((cleanselaw04_head.f).bind fun t104 => ((cleanselaw04_small.f k a0_0 a0_1 a0_2 l0_3 l0_4 a0_5 a0_6 a0_7).bind fun t105 => (if t105 = true then ((cleanseref04_Short.f k 300 (([a2_2, a3_2] : List ByteArray))).bind fun t109 => (cleanselaw04_MeasureMatchesReference.j0 k a1 t104 (!t109) a0_0 a0_1 a0_2 l0_3 l0_4 a0_5 a0_6 a0_7 a2_0 a2_1 a2_2 a3_0 a3_1 a3_2)) else (cleanselaw04_MeasureMatchesReference.j0 k a1 t104 true a0_0 a0_1 a0_2 l0_3 l0_4 a0_5 a0_6 a0_7 a2_0 a2_1 a2_2 a3_0 a3_1 a3_2)))) = some r := h
 clear h
 replace H := Option.bind_eq_some_iff.mp H
 obtain ⟨t104, A50, H⟩ := H
 replace H : ((cleanselaw04_small.f k a0_0 a0_1 a0_2 l0_3 l0_4 a0_5 a0_6 a0_7).bind fun t105 => (if t105 = true then ((cleanseref04_Short.f k 300 (([a2_2, a3_2] : List ByteArray))).bind fun t109 => (cleanselaw04_MeasureMatchesReference.j0 k a1 t104 (!t109) a0_0 a0_1 a0_2 l0_3 l0_4 a0_5 a0_6 a0_7 a2_0 a2_1 a2_2 a3_0 a3_1 a3_2)) else (cleanselaw04_MeasureMatchesReference.j0 k a1 t104 true a0_0 a0_1 a0_2 l0_3 l0_4 a0_5 a0_6 a0_7 a2_0 a2_1 a2_2 a3_0 a3_1 a3_2))) = some r := H
 have A5 := Aside0.mk A50
 clear A50
 have HC6 := Aside0.mk H
 clear H
 go_enter Tryd.func3, Tryd.ntmps3
 go_upto_region 2 with (first | ((with_reducible refine gate_dst (N := 4) rfl ?_); (try (refine gate_guard (by rfl) ?_; dsimp only)); refine box_event ?hg (N := 4) ?hd (cs := #[.string a0_0, .string a0_1, .string a0_2, .slice A0_3 l0_3.length c0_3, .slice A0_4 l0_4.length c0_4, .int .i64 a0_5, .int .i64 a0_6, .int .i64 a0_7]) (t := 24) ?hr ?_; (case hd => rfl); (case hg => rfl); (case hr => (go_simp; done)); intro gb101 hg w7 hbox hb; have n0_ := Aside0.mk (below_step HB.out hb); have n1_ := Aside0.mk (hbox); clear HB; have HB := n0_; have BK101 := n1_; clear n0_ n1_; clear hb hbox hg) | ((with_reducible refine gate_dst (N := 6) rfl ?_); (try (refine gate_guard (by rfl) ?_; dsimp only)); refine box_event ?hg (N := 6) ?hd (cs := #[.int .i64 a2_0, .int .i64 a2_1, .string a2_2]) (t := 26) ?hr ?_; (case hd => rfl); (case hg => rfl); (case hr => (go_simp; done)); intro gb102 hg w8 hbox hb; have n0_ := Aside0.mk (blk_below (g := gb101) (o := .cells #[.string a0_0, .string a0_1, .string a0_2, .slice A0_3 l0_3.length c0_3, .slice A0_4 l0_4.length c0_4, .int .i64 a0_5, .int .i64 a0_6, .int .i64 a0_7] 24 (0, 0)) (by exact BK101.out) hb); have n1_ := Aside0.mk (below_step HB.out hb); have n2_ := Aside0.mk (hbox); have n5_ := Aside0.mk ((by rw [hg]; exact Nat.ne_of_lt (blk_lt (g := gb101) (o := .cells #[.string a0_0, .string a0_1, .string a0_2, .slice A0_3 l0_3.length c0_3, .slice A0_4 l0_4.length c0_4, .int .i64 a0_5, .int .i64 a0_6, .int .i64 a0_7] 24 (0, 0)) (by exact BK101.out)) : gb101 ≠ gb102)); have n6_ := Aside0.mk ((by rw [hg]; exact Nat.ne_of_gt (blk_lt (g := gb101) (o := .cells #[.string a0_0, .string a0_1, .string a0_2, .slice A0_3 l0_3.length c0_3, .slice A0_4 l0_4.length c0_4, .int .i64 a0_5, .int .i64 a0_6, .int .i64 a0_7] 24 (0, 0)) (by exact BK101.out)) : gb102 ≠ gb101)); clear BK101; clear HB; have BK101 := n0_; have HB := n1_; have BK102 := n2_; have NB101_102 := n5_; have NB102_101 := n6_; clear n0_ n1_ n2_ n5_ n6_; clear hb hbox hg) | ((with_reducible refine gate_dst (N := 7) rfl ?_); (try (refine gate_guard (by rfl) ?_; dsimp only)); refine box_event ?hg (N := 7) ?hd (cs := #[.int .i64 a3_0, .int .i64 a3_1, .string a3_2]) (t := 26) ?hr ?_; (case hd => rfl); (case hg => rfl); (case hr => (go_simp; done)); intro gb103 hg w9 hbox hb; have n0_ := Aside0.mk (blk_below (g := gb101) (o := .cells #[.string a0_0, .string a0_1, .string a0_2, .slice A0_3 l0_3.length c0_3, .slice A0_4 l0_4.length c0_4, .int .i64 a0_5, .int .i64 a0_6, .int .i64 a0_7] 24 (0, 0)) (by exact BK101.out) hb); have n1_ := Aside0.mk (blk_below (g := gb102) (o := .cells #[.int .i64 a2_0, .int .i64 a2_1, .string a2_2] 26 (0, 0)) (by exact BK102.out) hb); have n2_ := Aside0.mk (below_step HB.out hb); have n3_ := Aside0.mk (hbox); have n6_ := Aside0.mk ((by rw [hg]; exact Nat.ne_of_lt (blk_lt (g := gb101) (o := .cells #[.string a0_0, .string a0_1, .string a0_2, .slice A0_3 l0_3.length c0_3, .slice A0_4 l0_4.length c0_4, .int .i64 a0_5, .int .i64 a0_6, .int .i64 a0_7] 24 (0, 0)) (by exact BK101.out)) : gb101 ≠ gb103)); have n7_ := Aside0.mk ((by rw [hg]; exact Nat.ne_of_gt (blk_lt (g := gb101) (o := .cells #[.string a0_0, .string a0_1, .string a0_2, .slice A0_3 l0_3.length c0_3, .slice A0_4 l0_4.length c0_4, .int .i64 a0_5, .int .i64 a0_6, .int .i64 a0_7] 24 (0, 0)) (by exact BK101.out)) : gb103 ≠ gb101)); have n8_ := Aside0.mk ((by rw [hg]; exact Nat.ne_of_lt (blk_lt (g := gb102) (o := .cells #[.int .i64 a2_0, .int .i64 a2_1, .string a2_2] 26 (0, 0)) (by exact BK102.out)) : gb102 ≠ gb103)); have n9_ := Aside0.mk ((by rw [hg]; exact Nat.ne_of_gt (blk_lt (g := gb102) (o := .cells #[.int .i64 a2_0, .int .i64 a2_1, .string a2_2] 26 (0, 0)) (by exact BK102.out)) : gb103 ≠ gb102)); clear BK101; clear BK102; clear HB; have BK101 := n0_; have BK102 := n1_; have HB := n2_; have BK103 := n3_; have NB101_103 := n6_; have NB103_101 := n7_; have NB102_103 := n8_; have NB103_102 := n9_; clear n0_ n1_ n2_ n3_ n6_ n7_ n8_ n9_; clear hb hbox hg) | ((with_reducible refine gate_callee (f := 11) rfl ?_); refine goesL_ (some 15) rfl rfl Tryd.func11 (by kernel_rfl) rfl #[] rfl (by (try simp only [List.map_toArray, List.map_cons, List.map_nil]); done) ?_; (with_reducible refine (cleanselaw04_head.calls  t104 _ ?sGl A5.out).mono ?_); (case sGl => exact Gl.below HGl.out HB.out); rintro e w10 ⟨rfl, hb⟩; refine ⟨_, rfl, ?_⟩; have n0_ := Aside0.mk (blk_below (g := gb101) (o := .cells #[.string a0_0, .string a0_1, .string a0_2, .slice A0_3 l0_3.length c0_3, .slice A0_4 l0_4.length c0_4, .int .i64 a0_5, .int .i64 a0_6, .int .i64 a0_7] 24 (0, 0)) (by exact BK101.out) hb); have n1_ := Aside0.mk (blk_below (g := gb102) (o := .cells #[.int .i64 a2_0, .int .i64 a2_1, .string a2_2] 26 (0, 0)) (by exact BK102.out) hb); have n2_ := Aside0.mk (blk_below (g := gb103) (o := .cells #[.int .i64 a3_0, .int .i64 a3_1, .string a3_2] 26 (0, 0)) (by exact BK103.out) hb); have n3_ := Aside0.mk (below_step HB.out hb); clear BK101; clear BK102; clear BK103; clear HB; have BK101 := n0_; have BK102 := n1_; have BK103 := n2_; have HB := n3_; clear n0_ n1_ n2_ n3_; (try clear hb)))
 go_cut [27] (fun v27 wc => ∃ (kq : Nat) (x27_5 : Bool), v27 = .bool x27_5 ∧ Aside0 (cleanselaw04_MeasureMatchesReference.j0 kq a1 t104 x27_5 a0_0 a0_1 a0_2 l0_3 l0_4 a0_5 a0_6 a0_7 a2_0 a2_1 a2_2 a3_0 a3_1 a3_2 = some r) ∧ Aside0 (kq ≤ k) ∧ Aside0 (wc.heap[gb101]? = some (.cells #[.string a0_0, .string a0_1, .string a0_2, (.slice A0_3 l0_3.length c0_3), (.slice A0_4 l0_4.length c0_4), .int .i64 a0_5, .int .i64 a0_6, .int .i64 a0_7] 24 (0, 0))) ∧ Aside0 (wc.heap[gb102]? = some (.cells #[.int .i64 a2_0, .int .i64 a2_1, .string a2_2] 26 (0, 0))) ∧ Aside0 (wc.heap[gb103]? = some (.cells #[.int .i64 a3_0, .int .i64 a3_1, .string a3_2] 26 (0, 0))) ∧ Aside0 (Below w.heap.size w wc))
 case first =>
  have H := HC6.out
  clear HC6
  replace H := Option.bind_eq_some_iff.mp H
  obtain ⟨t105, A110, H⟩ := H
  replace H : (if t105 = true then ((cleanseref04_Short.f k 300 (([a2_2, a3_2] : List ByteArray))).bind fun t109 => (cleanselaw04_MeasureMatchesReference.j0 k a1 t104 (!t109) a0_0 a0_1 a0_2 l0_3 l0_4 a0_5 a0_6 a0_7 a2_0 a2_1 a2_2 a3_0 a3_1 a3_2)) else (cleanselaw04_MeasureMatchesReference.j0 k a1 t104 true a0_0 a0_1 a0_2 l0_3 l0_4 a0_5 a0_6 a0_7 a2_0 a2_1 a2_2 a3_0 a3_1 a3_2)) = some r := H
  have A11 := Aside0.mk A110
  clear A110
  by_cases c12 : t105 = true
  ·subst c12
   have H1 : ((cleanseref04_Short.f k 300 (([a2_2, a3_2] : List ByteArray))).bind fun t109 => (cleanselaw04_MeasureMatchesReference.j0 k a1 t104 (!t109) a0_0 a0_1 a0_2 l0_3 l0_4 a0_5 a0_6 a0_7 a2_0 a2_1 a2_2 a3_0 a3_1 a3_2)) = some r := by rw [if_pos rfl] at H; exact H
   clear H
   have H := H1
   clear H1
   obtain ⟨y106, hy106⟩ : ∃ y_ : List ByteArray, y_ = (([a2_2, a3_2] : List ByteArray)) := ⟨_, rfl⟩
   replace H : ((cleanseref04_Short.f k 300 y106).bind fun t109 => (cleanselaw04_MeasureMatchesReference.j0 k a1 t104 (!t109) a0_0 a0_1 a0_2 l0_3 l0_4 a0_5 a0_6 a0_7 a2_0 a2_1 a2_2 a3_0 a3_1 a3_2)) = some r := by (rw [hy106]; with_reducible exact H)
   have Ny106 := Aside0.mk hy106
   clear hy106
   replace H := Option.bind_eq_some_iff.mp H
   obtain ⟨t109, A130, H⟩ := H
   replace H : (cleanselaw04_MeasureMatchesReference.j0 k a1 t104 (!t109) a0_0 a0_1 a0_2 l0_3 l0_4 a0_5 a0_6 a0_7 a2_0 a2_1 a2_2 a3_0 a3_1 a3_2) = some r := H
   have A13 := Aside0.mk A130
   clear A130
   have H' := Aside0.mk H
   clear H
   have hnb14 := NB101_102.out
   have hnc14 := NB102_101.out
   have hnb15 := NB101_103.out
   have hnc15 := NB103_101.out
   have hcz16_0 := cel_ BK101.out 0 rfl
   have hcz16_1 := cel_ BK101.out 1 rfl
   have hcz16_2 := cel_ BK101.out 2 rfl
   have hcz16_3 := cel_ BK101.out 3 rfl
   have hcz16_4 := cel_ BK101.out 4 rfl
   have hcz16_5 := cel_ BK101.out 5 rfl
   have hcz16_6 := cel_ BK101.out 6 rfl
   have hcz16_7 := cel_ BK101.out 7 rfl
   have hfz16_0 := blk_frozen BK101.out 0
   have hfz16_1 := blk_frozen BK101.out 1
   have hfz16_2 := blk_frozen BK101.out 2
   have hfz16_3 := blk_frozen BK101.out 3
   have hfz16_4 := blk_frozen BK101.out 4
   have hfz16_5 := blk_frozen BK101.out 5
   have hfz16_6 := blk_frozen BK101.out 6
   have hfz16_7 := blk_frozen BK101.out 7
   go_wp2_with (first | ((with_reducible refine gate_callee (f := 12) rfl ?_); refine goesL_ (some 17) rfl rfl Tryd.func12 (by kernel_rfl) rfl #[.agg #[.string a0_0, .string a0_1, .string a0_2, .slice A0_3 l0_3.length c0_3, .slice A0_4 l0_4.length c0_4, .int .i64 a0_5, .int .i64 a0_6, .int .i64 a0_7]] rfl (by (try simp only [List.map_toArray, List.map_cons, List.map_nil]); rfl) ?_; (with_reducible refine (cleanselaw04_small.calls k a0_0 a0_1 a0_2 _ _ l0_3 _ _ l0_4 a0_5 a0_6 a0_7 true _ ?side1 ?side2 ?side3 ?side4 A11.out).mono ?_); (case side1 => repeat ((exact (Kd.C_below HR0_3.out HB.out)))); (case side2 => exact HC0_3.out); (case side3 => repeat ((exact (Kd.C_below HR0_4.out HB.out)))); (case side4 => exact HC0_4.out); rintro e w17 ⟨rfl, hb⟩; refine ⟨_, rfl, ?_⟩; have n0_ := Aside0.mk (blk_below (g := gb101) (o := .cells #[.string a0_0, .string a0_1, .string a0_2, .slice A0_3 l0_3.length c0_3, .slice A0_4 l0_4.length c0_4, .int .i64 a0_5, .int .i64 a0_6, .int .i64 a0_7] 24 (0, 0)) (by exact BK101.out) hb); have n1_ := Aside0.mk (blk_below (g := gb102) (o := .cells #[.int .i64 a2_0, .int .i64 a2_1, .string a2_2] 26 (0, 0)) (by exact BK102.out) hb); have n2_ := Aside0.mk (blk_below (g := gb103) (o := .cells #[.int .i64 a3_0, .int .i64 a3_1, .string a3_2] 26 (0, 0)) (by exact BK103.out) hb); have n3_ := Aside0.mk (below_step HB.out hb); clear BK101; clear BK102; clear BK103; clear HB; have BK101 := n0_; have BK102 := n1_; have BK103 := n2_; have HB := n3_; clear n0_ n1_ n2_ n3_; (try clear hb); have hnb18 := NB102_103.out; have hnc18 := NB103_102.out; have hcz19_0 := cel_ BK102.out 0 rfl; have hcz19_1 := cel_ BK102.out 1 rfl; have hcz19_2 := cel_ BK102.out 2 rfl; have hfz19_0 := blk_frozen BK102.out 0; have hfz19_1 := blk_frozen BK102.out 1; have hfz19_2 := blk_frozen BK102.out 2; have hcz20_0 := cel_ BK103.out 0 rfl; have hcz20_1 := cel_ BK103.out 1 rfl; have hcz20_2 := cel_ BK103.out 2 rfl; have hfz20_0 := blk_frozen BK103.out 0; have hfz20_1 := blk_frozen BK103.out 1; have hfz20_2 := blk_frozen BK103.out 2) | ((with_reducible refine gate_dst (N := 24) rfl ?_); (try (refine gate_guard (by rfl) ?_; dsimp only)); refine Kd.R_lit Kd.string _ 9 ?hg (N := 24) ?hd (xs := ([a2_2, a3_2] : List ByteArray)) (inner := [.string a2_2, .string a3_2]) (ok := fun _ => True) (okp := fun _ => True) ?hr ?hp (fun _ hk => hk) trivial (Below.refl _ _) (Nat.le_refl _) (by simp) ?_; (case hd => rfl); (case hg => rfl); (case hr => (go_simp; done)); (case hp => exact (Reps.one (show Kd.M Kd.string _ _ _ a2_2 [.string a2_2] from rfl) (Reps.one (show Kd.M Kd.string _ _ _ a3_2 [.string a3_2] from rfl) (Reps.none _ _)))); intro v107 w21 ho22 hb hg_ hnew_; clear hg_ hnew_; ((rw [← Ny106.out] at ho22)); have n0_ := Aside0.mk (Kd.R_lower ho22 (below_size HB.out)); have n1_ := Aside0.mk (blk_below (g := gb101) (o := .cells #[.string a0_0, .string a0_1, .string a0_2, .slice A0_3 l0_3.length c0_3, .slice A0_4 l0_4.length c0_4, .int .i64 a0_5, .int .i64 a0_6, .int .i64 a0_7] 24 (0, 0)) (by exact BK101.out) hb); have n2_ := Aside0.mk (blk_below (g := gb102) (o := .cells #[.int .i64 a2_0, .int .i64 a2_1, .string a2_2] 26 (0, 0)) (by exact BK102.out) hb); have n3_ := Aside0.mk (blk_below (g := gb103) (o := .cells #[.int .i64 a3_0, .int .i64 a3_1, .string a3_2] 26 (0, 0)) (by exact BK103.out) hb); have n4_ := Aside0.mk (below_step HB.out hb); clear BK101; clear BK102; clear BK103; clear HB; have HO108 := n0_; have BK101 := n1_; have BK102 := n2_; have BK103 := n3_; have HB := n4_; clear n0_ n1_ n2_ n3_ n4_; clear hb ho22; obtain ⟨Ao23, co23, eo23⟩ := Kd.R_slice HO108.out; subst eo23) | (go_at_call 13; (with_reducible refine (cleanseref04_Short.calls k 300 _ _ y106 t109 _ ?side1 ?side2 A13.out).mono ?_); (case side1 => repeat ((exact (Kd.R_reads' HO108.out).2.2))); (case side2 => exact (Kd.R_reads' HO108.out).2.1); rintro e w' ⟨rfl, ⟨nd, rfl⟩⟩))
   go_meet
   case rel => exact ⟨_, (!t109), (by rfl), H', ⟨by omega⟩, ⟨by (with_reducible repeat ((refine blk_drewN ?_ _))); exact BK101.out⟩, ⟨by (with_reducible repeat ((refine blk_drewN ?_ _))); exact BK102.out⟩, ⟨by (with_reducible repeat ((refine blk_drewN ?_ _))); exact BK103.out⟩, ⟨by repeat ((with_reducible first | exact HB.out | apply pw_below_drewN))⟩⟩
  replace c12 := Bool.eq_false_iff.mpr c12
  subst c12
  have H1 : (cleanselaw04_MeasureMatchesReference.j0 k a1 t104 true a0_0 a0_1 a0_2 l0_3 l0_4 a0_5 a0_6 a0_7 a2_0 a2_1 a2_2 a3_0 a3_1 a3_2) = some r := by rw [if_neg (show ¬ (false = true) by decide)] at H; exact H
  clear H
  have H := H1
  clear H1
  have H' := Aside0.mk H
  clear H
  have hnb24 := NB101_102.out
  have hnc24 := NB102_101.out
  have hnb25 := NB101_103.out
  have hnc25 := NB103_101.out
  have hcz26_0 := cel_ BK101.out 0 rfl
  have hcz26_1 := cel_ BK101.out 1 rfl
  have hcz26_2 := cel_ BK101.out 2 rfl
  have hcz26_3 := cel_ BK101.out 3 rfl
  have hcz26_4 := cel_ BK101.out 4 rfl
  have hcz26_5 := cel_ BK101.out 5 rfl
  have hcz26_6 := cel_ BK101.out 6 rfl
  have hcz26_7 := cel_ BK101.out 7 rfl
  have hfz26_0 := blk_frozen BK101.out 0
  have hfz26_1 := blk_frozen BK101.out 1
  have hfz26_2 := blk_frozen BK101.out 2
  have hfz26_3 := blk_frozen BK101.out 3
  have hfz26_4 := blk_frozen BK101.out 4
  have hfz26_5 := blk_frozen BK101.out 5
  have hfz26_6 := blk_frozen BK101.out 6
  have hfz26_7 := blk_frozen BK101.out 7
  go_wp2_with (first | ((with_reducible refine gate_callee (f := 12) rfl ?_); refine goesL_ (some 17) rfl rfl Tryd.func12 (by kernel_rfl) rfl #[.agg #[.string a0_0, .string a0_1, .string a0_2, .slice A0_3 l0_3.length c0_3, .slice A0_4 l0_4.length c0_4, .int .i64 a0_5, .int .i64 a0_6, .int .i64 a0_7]] rfl (by (try simp only [List.map_toArray, List.map_cons, List.map_nil]); rfl) ?_; (with_reducible refine (cleanselaw04_small.calls k a0_0 a0_1 a0_2 _ _ l0_3 _ _ l0_4 a0_5 a0_6 a0_7 false _ ?side1 ?side2 ?side3 ?side4 A11.out).mono ?_); (case side1 => repeat ((exact (Kd.C_below HR0_3.out HB.out)))); (case side2 => exact HC0_3.out); (case side3 => repeat ((exact (Kd.C_below HR0_4.out HB.out)))); (case side4 => exact HC0_4.out); rintro e w27 ⟨rfl, hb⟩; refine ⟨_, rfl, ?_⟩; have n0_ := Aside0.mk (blk_below (g := gb101) (o := .cells #[.string a0_0, .string a0_1, .string a0_2, .slice A0_3 l0_3.length c0_3, .slice A0_4 l0_4.length c0_4, .int .i64 a0_5, .int .i64 a0_6, .int .i64 a0_7] 24 (0, 0)) (by exact BK101.out) hb); have n1_ := Aside0.mk (blk_below (g := gb102) (o := .cells #[.int .i64 a2_0, .int .i64 a2_1, .string a2_2] 26 (0, 0)) (by exact BK102.out) hb); have n2_ := Aside0.mk (blk_below (g := gb103) (o := .cells #[.int .i64 a3_0, .int .i64 a3_1, .string a3_2] 26 (0, 0)) (by exact BK103.out) hb); have n3_ := Aside0.mk (below_step HB.out hb); clear BK101; clear BK102; clear BK103; clear HB; have BK101 := n0_; have BK102 := n1_; have BK103 := n2_; have HB := n3_; clear n0_ n1_ n2_ n3_; (try clear hb)))
  go_meet
  case rel => exact ⟨_, (true), (by rfl), H', ⟨by omega⟩, ⟨by exact BK101.out⟩, ⟨by exact BK102.out⟩, ⟨by exact BK103.out⟩, ⟨by repeat ((with_reducible (exact HB.out)))⟩⟩
 clear HC6
 obtain ⟨kq, x27_5, rfl, HA, HJ5, BK101, BK102, BK103, HB⟩ := hcut
 cases kq with
 | zero => exact absurd HA.out (by simp [cleanselaw04_MeasureMatchesReference.j0])
 | succ kj5 =>
  have H := HA.out
  clear HA
  simp only [cleanselaw04_MeasureMatchesReference.j0] at H
  by_cases c28 : x27_5 = true
  ·subst c28
   have H1 : (some t104) = some r := by rw [if_pos rfl] at H; exact H
   clear H
   have H := H1
   clear H1
   obtain rfl := Option.some.inj H
   go_wp2
   go_ret
   exact ⟨by rfl, by repeat ((with_reducible (exact HB.out)))⟩
  replace c28 := Bool.eq_false_iff.mpr c28
  subst c28
  have H1 : ((measure_Edit.f kj5 a0_0 a0_1).bind fun t110 => ((cleanseref04_Edit.f kj5 a0_0 a0_1).bind fun t111 => (if t110 = t111 then ((measure_Alike.f kj5 a0_0 a0_1).bind fun bt112 => ((cleanseref04_Alike.f kj5 a0_0 a0_1).bind fun bt114 => (if (bt112.1 == bt114.1 && (bt112.2 == bt114.2)) = true then ((measure_Jaccard.f kj5 l0_3 l0_4).bind fun bt116 => ((cleanseref04_Jaccard.f kj5 l0_3 l0_4).bind fun bt118 => (cleanselaw04_MeasureMatchesReference.j1 kj5 a1 t104 (bt116.1 == bt118.1 && (bt116.2 == bt118.2)) a0_0 a0_1 a0_2 l0_3 l0_4 a0_5 a0_6 a0_7 a2_0 a2_1 a2_2 a3_0 a3_1 a3_2))) else (cleanselaw04_MeasureMatchesReference.j1 kj5 a1 t104 false a0_0 a0_1 a0_2 l0_3 l0_4 a0_5 a0_6 a0_7 a2_0 a2_1 a2_2 a3_0 a3_1 a3_2)))) else (cleanselaw04_MeasureMatchesReference.j1 kj5 a1 t104 false a0_0 a0_1 a0_2 l0_3 l0_4 a0_5 a0_6 a0_7 a2_0 a2_1 a2_2 a3_0 a3_1 a3_2)))) = some r := by rw [if_neg (show ¬ (false = true) by decide)] at H; exact H
  clear H
  have H := H1
  clear H1
  have HC29 := Aside0.mk H
  clear H
  go_upto_region 4 with (fail)
  go_cut [10] (fun v10 wc => ∃ (kq : Nat) (x10_28 : Bool), v10 = .bool x10_28 ∧ Aside0 (cleanselaw04_MeasureMatchesReference.j1 kq a1 t104 x10_28 a0_0 a0_1 a0_2 l0_3 l0_4 a0_5 a0_6 a0_7 a2_0 a2_1 a2_2 a3_0 a3_1 a3_2 = some r) ∧ Aside0 (kq ≤ kj5) ∧ Aside0 (wc.heap[gb101]? = some (.cells #[.string a0_0, .string a0_1, .string a0_2, (.slice A0_3 l0_3.length c0_3), (.slice A0_4 l0_4.length c0_4), .int .i64 a0_5, .int .i64 a0_6, .int .i64 a0_7] 24 (0, 0))) ∧ Aside0 (wc.heap[gb102]? = some (.cells #[.int .i64 a2_0, .int .i64 a2_1, .string a2_2] 26 (0, 0))) ∧ Aside0 (wc.heap[gb103]? = some (.cells #[.int .i64 a3_0, .int .i64 a3_1, .string a3_2] 26 (0, 0))) ∧ Aside0 (Below w.heap.size w wc))
  case first =>
   have H := HC29.out
   clear HC29
   replace H := Option.bind_eq_some_iff.mp H
   obtain ⟨t110, A300, H⟩ := H
   replace H : ((cleanseref04_Edit.f kj5 a0_0 a0_1).bind fun t111 => (if t110 = t111 then ((measure_Alike.f kj5 a0_0 a0_1).bind fun bt112 => ((cleanseref04_Alike.f kj5 a0_0 a0_1).bind fun bt114 => (if (bt112.1 == bt114.1 && (bt112.2 == bt114.2)) = true then ((measure_Jaccard.f kj5 l0_3 l0_4).bind fun bt116 => ((cleanseref04_Jaccard.f kj5 l0_3 l0_4).bind fun bt118 => (cleanselaw04_MeasureMatchesReference.j1 kj5 a1 t104 (bt116.1 == bt118.1 && (bt116.2 == bt118.2)) a0_0 a0_1 a0_2 l0_3 l0_4 a0_5 a0_6 a0_7 a2_0 a2_1 a2_2 a3_0 a3_1 a3_2))) else (cleanselaw04_MeasureMatchesReference.j1 kj5 a1 t104 false a0_0 a0_1 a0_2 l0_3 l0_4 a0_5 a0_6 a0_7 a2_0 a2_1 a2_2 a3_0 a3_1 a3_2)))) else (cleanselaw04_MeasureMatchesReference.j1 kj5 a1 t104 false a0_0 a0_1 a0_2 l0_3 l0_4 a0_5 a0_6 a0_7 a2_0 a2_1 a2_2 a3_0 a3_1 a3_2))) = some r := H
   have A30 := Aside0.mk A300
   clear A300
   replace H := Option.bind_eq_some_iff.mp H
   obtain ⟨t111, A310, H⟩ := H
   replace H : (if t110 = t111 then ((measure_Alike.f kj5 a0_0 a0_1).bind fun bt112 => ((cleanseref04_Alike.f kj5 a0_0 a0_1).bind fun bt114 => (if (bt112.1 == bt114.1 && (bt112.2 == bt114.2)) = true then ((measure_Jaccard.f kj5 l0_3 l0_4).bind fun bt116 => ((cleanseref04_Jaccard.f kj5 l0_3 l0_4).bind fun bt118 => (cleanselaw04_MeasureMatchesReference.j1 kj5 a1 t104 (bt116.1 == bt118.1 && (bt116.2 == bt118.2)) a0_0 a0_1 a0_2 l0_3 l0_4 a0_5 a0_6 a0_7 a2_0 a2_1 a2_2 a3_0 a3_1 a3_2))) else (cleanselaw04_MeasureMatchesReference.j1 kj5 a1 t104 false a0_0 a0_1 a0_2 l0_3 l0_4 a0_5 a0_6 a0_7 a2_0 a2_1 a2_2 a3_0 a3_1 a3_2)))) else (cleanselaw04_MeasureMatchesReference.j1 kj5 a1 t104 false a0_0 a0_1 a0_2 l0_3 l0_4 a0_5 a0_6 a0_7 a2_0 a2_1 a2_2 a3_0 a3_1 a3_2)) = some r := H
   have A31 := Aside0.mk A310
   clear A310
   by_cases c32 : t110 = t111
   ·rw [if_pos c32] at H
    have c32b0 : (t110 == t111) = true := beq_iff_eq.mpr c32
    have c32b1 : (t110 != t111) = false := bne_eq_false_iff_eq.mpr c32
    clear c32
    replace H := Option.bind_eq_some_iff.mp H
    obtain ⟨⟨t112, t113⟩, A330, H⟩ := H
    replace H : ((cleanseref04_Alike.f kj5 a0_0 a0_1).bind fun bt114 => (if (t112 == bt114.1 && (t113 == bt114.2)) = true then ((measure_Jaccard.f kj5 l0_3 l0_4).bind fun bt116 => ((cleanseref04_Jaccard.f kj5 l0_3 l0_4).bind fun bt118 => (cleanselaw04_MeasureMatchesReference.j1 kj5 a1 t104 (bt116.1 == bt118.1 && (bt116.2 == bt118.2)) a0_0 a0_1 a0_2 l0_3 l0_4 a0_5 a0_6 a0_7 a2_0 a2_1 a2_2 a3_0 a3_1 a3_2))) else (cleanselaw04_MeasureMatchesReference.j1 kj5 a1 t104 false a0_0 a0_1 a0_2 l0_3 l0_4 a0_5 a0_6 a0_7 a2_0 a2_1 a2_2 a3_0 a3_1 a3_2))) = some r := H
    have A33 := Aside0.mk A330
    clear A330
    replace H := Option.bind_eq_some_iff.mp H
    obtain ⟨⟨t114, t115⟩, A340, H⟩ := H
    replace H : (if (t112 == t114 && (t113 == t115)) = true then ((measure_Jaccard.f kj5 l0_3 l0_4).bind fun bt116 => ((cleanseref04_Jaccard.f kj5 l0_3 l0_4).bind fun bt118 => (cleanselaw04_MeasureMatchesReference.j1 kj5 a1 t104 (bt116.1 == bt118.1 && (bt116.2 == bt118.2)) a0_0 a0_1 a0_2 l0_3 l0_4 a0_5 a0_6 a0_7 a2_0 a2_1 a2_2 a3_0 a3_1 a3_2))) else (cleanselaw04_MeasureMatchesReference.j1 kj5 a1 t104 false a0_0 a0_1 a0_2 l0_3 l0_4 a0_5 a0_6 a0_7 a2_0 a2_1 a2_2 a3_0 a3_1 a3_2)) = some r := H
    have A34 := Aside0.mk A340
    clear A340
    by_cases c35 : (t112 == t114 && (t113 == t115)) = true
    ·rw [if_pos c35] at H
     have c35b0 : (t112 == t114 && (t113 == t115)) = true := c35
     (try (have c35b1 : decide (t112 = t114 && (t113 == t115)) = true := by simpa using c35))
     (try (have c35b2 : (t112 == t114 && (t113 == t115)) = true := by simpa using c35))
     clear c35
     replace H := Option.bind_eq_some_iff.mp H
     obtain ⟨⟨t116, t117⟩, A360, H⟩ := H
     replace H : ((cleanseref04_Jaccard.f kj5 l0_3 l0_4).bind fun bt118 => (cleanselaw04_MeasureMatchesReference.j1 kj5 a1 t104 (t116 == bt118.1 && (t117 == bt118.2)) a0_0 a0_1 a0_2 l0_3 l0_4 a0_5 a0_6 a0_7 a2_0 a2_1 a2_2 a3_0 a3_1 a3_2)) = some r := H
     have A36 := Aside0.mk A360
     clear A360
     replace H := Option.bind_eq_some_iff.mp H
     obtain ⟨⟨t118, t119⟩, A370, H⟩ := H
     replace H : (cleanselaw04_MeasureMatchesReference.j1 kj5 a1 t104 (t116 == t118 && (t117 == t119)) a0_0 a0_1 a0_2 l0_3 l0_4 a0_5 a0_6 a0_7 a2_0 a2_1 a2_2 a3_0 a3_1 a3_2) = some r := H
     have A37 := Aside0.mk A370
     clear A370
     have H' := Aside0.mk H
     clear H
     try go_wp2
     have n0_ := Aside0.mk (blk_drew BK101.out)
     have n1_ := Aside0.mk (blk_drew BK102.out)
     have n2_ := Aside0.mk (blk_drew BK103.out)
     have n3_ := Aside0.mk (below_drew1 HB.out)
     clear BK101
     clear BK102
     clear BK103
     clear HB
     have BK101 := n0_
     have BK102 := n1_
     have BK103 := n2_
     have HB := n3_
     clear n0_ n1_ n2_ n3_
     refine start_ (n := 38) (S := fun w' => w'.cell? ⟨gb101, 0, none⟩ = some (.string a0_0) ∧ w'.cell? ⟨gb101, 1, none⟩ = some (.string a0_1) ∧ w'.cell? ⟨gb101, 2, none⟩ = some (.string a0_2) ∧ w'.cell? ⟨gb101, 3, none⟩ = some (.slice A0_3 l0_3.length c0_3) ∧ w'.cell? ⟨gb101, 4, none⟩ = some (.slice A0_4 l0_4.length c0_4) ∧ w'.cell? ⟨gb101, 5, none⟩ = some (.int .i64 a0_5) ∧ w'.cell? ⟨gb101, 6, none⟩ = some (.int .i64 a0_6) ∧ w'.cell? ⟨gb101, 7, none⟩ = some (.int .i64 a0_7)) (ds := []) #[false, false, false, false, false, false, false, false, false, false, false, false, false, false, false, false, false, false, false, false, false, false, false, false, false, false, false, false, false, false, false, false, false, false, false, false, false, false] (by kernel_rfl) rfl rfl ⟨(blk_cell BK101.out 0).trans rfl, (blk_cell BK101.out 1).trans rfl, (blk_cell BK101.out 2).trans rfl, (blk_cell BK101.out 3).trans rfl, (blk_cell BK101.out 4).trans rfl, (blk_cell BK101.out 5).trans rfl, (blk_cell BK101.out 6).trans rfl, (blk_cell BK101.out 7).trans rfl⟩ (fun hHeld => ?_); refine with_tabW cleanselaw04_MeasureMatchesReference.tab4 cleanselaw04_MeasureMatchesReference.bits4 (fun HT_ HW_ => ?_)
     generalize wc.drew = w38 at BK101 BK102 BK103 HB hHeld ⊢
     refine pure_ (i := 0) (N := some 29) (v := ?_) (a' := ?_) #[true, false, false, false, false, false, false, false, false, false, false, false, false, false, false, false, false, false, false, false, false, false, false, false, false, false, false, false, false, false, false, false, false, false, false, false, false, false] rfl rfl (any_of HT_.out (by kernel_rfl)) (fun _ _ _ h => h) (Or.inl ⟨by rfl, ?_⟩) ?_ ?_
     rotate_left
     ·intro w'
      go_simp
      with_reducible rfl
     rotate_left
     ·simp only [Act.put, pS_, pZ_, pC_, i64_w, i32_w]
      rfl
     refine pure_ (i := 2) (N := some 31) (v := ?_) (a' := ?_) #[true, false, true, false, false, false, false, false, false, false, false, false, false, false, false, false, false, false, false, false, false, false, false, false, false, false, false, false, false, false, false, false, false, false, false, false, false, false] rfl rfl (any_of HT_.out (by kernel_rfl)) (fun _ _ _ h => h) (Or.inl ⟨by rfl, ?_⟩) ?_ ?_
     rotate_left
     ·intro w'
      go_simp
      with_reducible rfl
     rotate_left
     ·simp only [Act.put, pS_, pZ_, pC_, i64_w, i32_w]
      rfl
     refine pure_ (i := 5) (N := some 34) (v := ?_) (a' := ?_) #[true, false, true, false, false, true, false, false, false, false, false, false, false, false, false, false, false, false, false, false, false, false, false, false, false, false, false, false, false, false, false, false, false, false, false, false, false, false] rfl rfl (any_of HT_.out (by kernel_rfl)) (fun _ _ _ h => h) (Or.inl ⟨by rfl, ?_⟩) ?_ ?_
     rotate_left
     ·intro w'
      go_simp
      with_reducible rfl
     rotate_left
     ·simp only [Act.put, pS_, pZ_, pC_, i64_w, i32_w]
      rfl
     refine pure_ (i := 7) (N := some 36) (v := ?_) (a' := ?_) #[true, false, true, false, false, true, false, true, false, false, false, false, false, false, false, false, false, false, false, false, false, false, false, false, false, false, false, false, false, false, false, false, false, false, false, false, false, false] rfl rfl (any_of HT_.out (by kernel_rfl)) (fun _ _ _ h => h) (Or.inl ⟨by rfl, ?_⟩) ?_ ?_
     rotate_left
     ·intro w'
      go_simp
      with_reducible rfl
     rotate_left
     ·simp only [Act.put, pS_, pZ_, pC_, i64_w, i32_w]
      rfl
     refine take_ (i := 1) (N := some 30) (v := ?_) (a' := ?_) #[true, true, true, false, false, true, false, true, false, false, false, false, false, false, false, false, false, false, false, false, false, false, false, false, false, false, false, false, false, false, false, false, false, false, false, false, false, false] rfl rfl (take_ofW HT_.out HW_.out (by kernel_rfl)) (fun _ _ _ h => h) (Or.inl ⟨by rfl, ?_⟩) hHeld ?_ ?_
     rotate_left
     ·rintro w' ⟨s0, s1, s2, s3, s4, s5, s6, s7⟩
      go_simp
      with_reducible rfl
     rotate_left
     ·simp only [Act.put, pS_, pZ_, pC_, i64_w, i32_w]
      rfl
     refine take_ (i := 3) (N := some 32) (v := ?_) (a' := ?_) #[true, true, true, true, false, true, false, true, false, false, false, false, false, false, false, false, false, false, false, false, false, false, false, false, false, false, false, false, false, false, false, false, false, false, false, false, false, false] rfl rfl (take_ofW HT_.out HW_.out (by kernel_rfl)) (fun _ _ _ h => h) (Or.inl ⟨by rfl, ?_⟩) hHeld ?_ ?_
     rotate_left
     ·rintro w' ⟨s0, s1, s2, s3, s4, s5, s6, s7⟩
      go_simp
      with_reducible rfl
     rotate_left
     ·simp only [Act.put, pS_, pZ_, pC_, i64_w, i32_w]
      rfl
     refine take_ (i := 6) (N := some 35) (v := ?_) (a' := ?_) #[true, true, true, true, false, true, true, true, false, false, false, false, false, false, false, false, false, false, false, false, false, false, false, false, false, false, false, false, false, false, false, false, false, false, false, false, false, false] rfl rfl (take_ofW HT_.out HW_.out (by kernel_rfl)) (fun _ _ _ h => h) (Or.inl ⟨by rfl, ?_⟩) hHeld ?_ ?_
     rotate_left
     ·rintro w' ⟨s0, s1, s2, s3, s4, s5, s6, s7⟩
      go_simp
      with_reducible rfl
     rotate_left
     ·simp only [Act.put, pS_, pZ_, pC_, i64_w, i32_w]
      rfl
     refine take_ (i := 8) (N := some 37) (v := ?_) (a' := ?_) #[true, true, true, true, false, true, true, true, true, false, false, false, false, false, false, false, false, false, false, false, false, false, false, false, false, false, false, false, false, false, false, false, false, false, false, false, false, false] rfl rfl (take_ofW HT_.out HW_.out (by kernel_rfl)) (fun _ _ _ h => h) (Or.inl ⟨by rfl, ?_⟩) hHeld ?_ ?_
     rotate_left
     ·rintro w' ⟨s0, s1, s2, s3, s4, s5, s6, s7⟩
      go_simp
      with_reducible rfl
     rotate_left
     ·simp only [Act.put, pS_, pZ_, pC_, i64_w, i32_w]
      rfl
     refine one_ (i := 4) (N := some 33) #[true, true, true, true, true, true, true, true, true, false, false, false, false, false, false, false, false, false, false, false, false, false, false, false, false, false, false, false, false, false, false, false, false, false, false, false, false, false] rfl rfl (one_of HT_.out (by kernel_rfl)) (by decide) (fun K hK => ?_)
     refine goes_ Tryd.func14 (by kernel_rfl) rfl #[.string a0_0, .string a0_1] (by rfl) rfl rfl (by (try simp only [List.map_toArray, List.map_cons, List.map_nil]); rfl) ?_
     with_reducible refine (measure_Edit.calls kj5 a0_0 a0_1 t110 _ A30.out).mono ?_
     rintro e w39 ⟨rfl, hb⟩
     refine ⟨_, rfl, ?_⟩
     have n0_ := Aside0.mk (blk_below (g := gb101) (o := .cells #[.string a0_0, .string a0_1, .string a0_2, .slice A0_3 l0_3.length c0_3, .slice A0_4 l0_4.length c0_4, .int .i64 a0_5, .int .i64 a0_6, .int .i64 a0_7] 24 (0, 0)) (by exact BK101.out) hb)
     have n1_ := Aside0.mk (blk_below (g := gb102) (o := .cells #[.int .i64 a2_0, .int .i64 a2_1, .string a2_2] 26 (0, 0)) (by exact BK102.out) hb)
     have n2_ := Aside0.mk (blk_below (g := gb103) (o := .cells #[.int .i64 a3_0, .int .i64 a3_1, .string a3_2] 26 (0, 0)) (by exact BK103.out) hb)
     have n3_ := Aside0.mk (below_step HB.out hb)
     clear BK101
     clear BK102
     clear BK103
     clear HB
     have BK101 := n0_
     have BK102 := n1_
     have BK103 := n2_
     have HB := n3_
     clear n0_ n1_ n2_ n3_
     (try clear hb)
     refine hK.out _ _ ⟨(blk_cell BK101.out 0).trans rfl, (blk_cell BK101.out 1).trans rfl, (blk_cell BK101.out 2).trans rfl, (blk_cell BK101.out 3).trans rfl, (blk_cell BK101.out 4).trans rfl, (blk_cell BK101.out 5).trans rfl, (blk_cell BK101.out 6).trans rfl, (blk_cell BK101.out 7).trans rfl⟩ (fun hHeld => ?_)
     clear hK K
     refine norm_ (a' := ?_) ?_ ?_
     rotate_left
     ·show Act.put _ (some 33) _ = _
      simp only [Act.put, pS_, pZ_, pC_, i64_w, i32_w]
      rfl
     refine one_ (i := 9) (N := some 38) #[true, true, true, true, true, true, true, true, true, true, false, false, false, false, false, false, false, false, false, false, false, false, false, false, false, false, false, false, false, false, false, false, false, false, false, false, false, false] rfl rfl (one_of HT_.out (by kernel_rfl)) (by decide) (fun K hK => ?_)
     refine goes_ Tryd.func15 (by kernel_rfl) rfl #[.string a0_0, .string a0_1] (by rfl) rfl rfl (by (try simp only [List.map_toArray, List.map_cons, List.map_nil]); rfl) ?_
     with_reducible refine (cleanseref04_Edit.calls kj5 a0_0 a0_1 t111 _ A31.out).mono ?_
     rintro e w40 ⟨rfl, hb⟩
     refine ⟨_, rfl, ?_⟩
     have n0_ := Aside0.mk (blk_below (g := gb101) (o := .cells #[.string a0_0, .string a0_1, .string a0_2, .slice A0_3 l0_3.length c0_3, .slice A0_4 l0_4.length c0_4, .int .i64 a0_5, .int .i64 a0_6, .int .i64 a0_7] 24 (0, 0)) (by exact BK101.out) hb)
     have n1_ := Aside0.mk (blk_below (g := gb102) (o := .cells #[.int .i64 a2_0, .int .i64 a2_1, .string a2_2] 26 (0, 0)) (by exact BK102.out) hb)
     have n2_ := Aside0.mk (blk_below (g := gb103) (o := .cells #[.int .i64 a3_0, .int .i64 a3_1, .string a3_2] 26 (0, 0)) (by exact BK103.out) hb)
     have n3_ := Aside0.mk (below_step HB.out hb)
     clear BK101
     clear BK102
     clear BK103
     clear HB
     have BK101 := n0_
     have BK102 := n1_
     have BK103 := n2_
     have HB := n3_
     clear n0_ n1_ n2_ n3_
     (try clear hb)
     refine hK.out _ _ ⟨(blk_cell BK101.out 0).trans rfl, (blk_cell BK101.out 1).trans rfl, (blk_cell BK101.out 2).trans rfl, (blk_cell BK101.out 3).trans rfl, (blk_cell BK101.out 4).trans rfl, (blk_cell BK101.out 5).trans rfl, (blk_cell BK101.out 6).trans rfl, (blk_cell BK101.out 7).trans rfl⟩ (fun hHeld => ?_)
     clear hK K
     refine norm_ (a' := ?_) ?_ ?_
     rotate_left
     ·show Act.put _ (some 38) _ = _
      simp only [Act.put, pS_, pZ_, pC_, i64_w, i32_w]
      rfl
     refine pure_ (i := 10) (N := some 39) (v := ?_) (a' := ?_) #[true, true, true, true, true, true, true, true, true, true, true, false, false, false, false, false, false, false, false, false, false, false, false, false, false, false, false, false, false, false, false, false, false, false, false, false, false, false] rfl rfl (any_of HT_.out (by kernel_rfl)) (fun _ _ _ h => h) (Or.inl ⟨by rfl, ?_⟩) ?_ ?_
     rotate_left
     ·intro w'
      go_simp
      with_reducible rfl
     rotate_left
     ·simp only [Act.put, pS_, pZ_, pC_, i64_w, i32_w]
      rfl
     refine pure_ (i := 11) (N := some 40) (v := ?_) (a' := ?_) #[true, true, true, true, true, true, true, true, true, true, true, true, false, false, false, false, false, false, false, false, false, false, false, false, false, false, false, false, false, false, false, false, false, false, false, false, false, false] rfl rfl (any_of HT_.out (by kernel_rfl)) (fun _ _ _ h => h) (Or.inl ⟨by rfl, ?_⟩) ?_ ?_
     rotate_left
     ·intro w'
      go_simp
      with_reducible rfl
     rotate_left
     ·simp only [Act.put, pS_, pZ_, pC_, i64_w, i32_w]
      rfl
     refine pure_ (i := 12) (N := some 41) (v := ?_) (a' := ?_) #[true, true, true, true, true, true, true, true, true, true, true, true, true, false, false, false, false, false, false, false, false, false, false, false, false, false, false, false, false, false, false, false, false, false, false, false, false, false] rfl rfl (any_of HT_.out (by kernel_rfl)) (fun _ _ _ h => h) (Or.inl ⟨by rfl, ?_⟩) ?_ ?_
     rotate_left
     ·intro w'
      go_simp
      with_reducible rfl
     rotate_left
     ·simp only [Act.put, pS_, pZ_, pC_, i64_w, i32_w]
      rfl
     refine pure_ (i := 14) (N := some 43) (v := ?_) (a' := ?_) #[true, true, true, true, true, true, true, true, true, true, true, true, true, false, true, false, false, false, false, false, false, false, false, false, false, false, false, false, false, false, false, false, false, false, false, false, false, false] rfl rfl (any_of HT_.out (by kernel_rfl)) (fun _ _ _ h => h) (Or.inl ⟨by rfl, ?_⟩) ?_ ?_
     rotate_left
     ·intro w'
      go_simp
      with_reducible rfl
     rotate_left
     ·simp only [Act.put, pS_, pZ_, pC_, i64_w, i32_w]
      rfl
     refine pure_ (i := 17) (N := some 46) (v := ?_) (a' := ?_) #[true, true, true, true, true, true, true, true, true, true, true, true, true, false, true, false, false, true, false, false, false, false, false, false, false, false, false, false, false, false, false, false, false, false, false, false, false, false] rfl rfl (any_of HT_.out (by kernel_rfl)) (fun _ _ _ h => h) (Or.inl ⟨by rfl, ?_⟩) ?_ ?_
     rotate_left
     ·intro w'
      go_simp
      with_reducible rfl
     rotate_left
     ·simp only [Act.put, pS_, pZ_, pC_, i64_w, i32_w]
      rfl
     refine pure_ (i := 19) (N := some 48) (v := ?_) (a' := ?_) #[true, true, true, true, true, true, true, true, true, true, true, true, true, false, true, false, false, true, false, true, false, false, false, false, false, false, false, false, false, false, false, false, false, false, false, false, false, false] rfl rfl (any_of HT_.out (by kernel_rfl)) (fun _ _ _ h => h) (Or.inl ⟨by rfl, ?_⟩) ?_ ?_
     rotate_left
     ·intro w'
      go_simp
      with_reducible rfl
     rotate_left
     ·simp only [Act.put, pS_, pZ_, pC_, i64_w, i32_w]
      rfl
     refine take_ (i := 13) (N := some 42) (v := ?_) (a' := ?_) #[true, true, true, true, true, true, true, true, true, true, true, true, true, true, true, false, false, true, false, true, false, false, false, false, false, false, false, false, false, false, false, false, false, false, false, false, false, false] rfl rfl (take_ofW HT_.out HW_.out (by kernel_rfl)) (fun _ _ _ h => h) (Or.inl ⟨by rfl, ?_⟩) hHeld ?_ ?_
     rotate_left
     ·rintro w' ⟨s0, s1, s2, s3, s4, s5, s6, s7⟩
      go_simp
      with_reducible rfl
     rotate_left
     ·simp only [Act.put, pS_, pZ_, pC_, i64_w, i32_w]
      rfl
     refine take_ (i := 15) (N := some 44) (v := ?_) (a' := ?_) #[true, true, true, true, true, true, true, true, true, true, true, true, true, true, true, true, false, true, false, true, false, false, false, false, false, false, false, false, false, false, false, false, false, false, false, false, false, false] rfl rfl (take_ofW HT_.out HW_.out (by kernel_rfl)) (fun _ _ _ h => h) (Or.inl ⟨by rfl, ?_⟩) hHeld ?_ ?_
     rotate_left
     ·rintro w' ⟨s0, s1, s2, s3, s4, s5, s6, s7⟩
      go_simp
      with_reducible rfl
     rotate_left
     ·simp only [Act.put, pS_, pZ_, pC_, i64_w, i32_w]
      rfl
     refine take_ (i := 18) (N := some 47) (v := ?_) (a' := ?_) #[true, true, true, true, true, true, true, true, true, true, true, true, true, true, true, true, false, true, true, true, false, false, false, false, false, false, false, false, false, false, false, false, false, false, false, false, false, false] rfl rfl (take_ofW HT_.out HW_.out (by kernel_rfl)) (fun _ _ _ h => h) (Or.inl ⟨by rfl, ?_⟩) hHeld ?_ ?_
     rotate_left
     ·rintro w' ⟨s0, s1, s2, s3, s4, s5, s6, s7⟩
      go_simp
      with_reducible rfl
     rotate_left
     ·simp only [Act.put, pS_, pZ_, pC_, i64_w, i32_w]
      rfl
     refine take_ (i := 20) (N := some 49) (v := ?_) (a' := ?_) #[true, true, true, true, true, true, true, true, true, true, true, true, true, true, true, true, false, true, true, true, true, false, false, false, false, false, false, false, false, false, false, false, false, false, false, false, false, false] rfl rfl (take_ofW HT_.out HW_.out (by kernel_rfl)) (fun _ _ _ h => h) (Or.inl ⟨by rfl, ?_⟩) hHeld ?_ ?_
     rotate_left
     ·rintro w' ⟨s0, s1, s2, s3, s4, s5, s6, s7⟩
      go_simp
      with_reducible rfl
     rotate_left
     ·simp only [Act.put, pS_, pZ_, pC_, i64_w, i32_w]
      rfl
     refine one_ (i := 16) (N := some 45) #[true, true, true, true, true, true, true, true, true, true, true, true, true, true, true, true, true, true, true, true, true, false, false, false, false, false, false, false, false, false, false, false, false, false, false, false, false, false] rfl rfl (one_of HT_.out (by kernel_rfl)) (by decide) (fun K hK => ?_)
     refine goes_ Tryd.func16 (by kernel_rfl) rfl #[.string a0_0, .string a0_1] (by rfl) rfl rfl (by (try simp only [List.map_toArray, List.map_cons, List.map_nil]); rfl) ?_
     with_reducible refine (measure_Alike.calls kj5 a0_0 a0_1 t112 t113 _ ?sGl A33.out).mono ?_
     case sGl => exact Gl.below HGl.out HB.out
     rintro e w41 ⟨rfl, hb⟩
     refine ⟨_, rfl, ?_⟩
     have n0_ := Aside0.mk (blk_below (g := gb101) (o := .cells #[.string a0_0, .string a0_1, .string a0_2, .slice A0_3 l0_3.length c0_3, .slice A0_4 l0_4.length c0_4, .int .i64 a0_5, .int .i64 a0_6, .int .i64 a0_7] 24 (0, 0)) (by exact BK101.out) hb)
     have n1_ := Aside0.mk (blk_below (g := gb102) (o := .cells #[.int .i64 a2_0, .int .i64 a2_1, .string a2_2] 26 (0, 0)) (by exact BK102.out) hb)
     have n2_ := Aside0.mk (blk_below (g := gb103) (o := .cells #[.int .i64 a3_0, .int .i64 a3_1, .string a3_2] 26 (0, 0)) (by exact BK103.out) hb)
     have n3_ := Aside0.mk (below_step HB.out hb)
     clear BK101
     clear BK102
     clear BK103
     clear HB
     have BK101 := n0_
     have BK102 := n1_
     have BK103 := n2_
     have HB := n3_
     clear n0_ n1_ n2_ n3_
     (try clear hb)
     refine hK.out _ _ ⟨(blk_cell BK101.out 0).trans rfl, (blk_cell BK101.out 1).trans rfl, (blk_cell BK101.out 2).trans rfl, (blk_cell BK101.out 3).trans rfl, (blk_cell BK101.out 4).trans rfl, (blk_cell BK101.out 5).trans rfl, (blk_cell BK101.out 6).trans rfl, (blk_cell BK101.out 7).trans rfl⟩ (fun hHeld => ?_)
     clear hK K
     refine norm_ (a' := ?_) ?_ ?_
     rotate_left
     ·show Act.put _ (some 45) _ = _
      simp only [Act.put, pS_, pZ_, pC_, i64_w, i32_w]
      rfl
     refine one_ (i := 21) (N := some 50) #[true, true, true, true, true, true, true, true, true, true, true, true, true, true, true, true, true, true, true, true, true, true, false, false, false, false, false, false, false, false, false, false, false, false, false, false, false, false] rfl rfl (one_of HT_.out (by kernel_rfl)) (by decide) (fun K hK => ?_)
     refine goes_ Tryd.func17 (by kernel_rfl) rfl #[.string a0_0, .string a0_1] (by rfl) rfl rfl (by (try simp only [List.map_toArray, List.map_cons, List.map_nil]); rfl) ?_
     with_reducible refine (cleanseref04_Alike.calls kj5 a0_0 a0_1 t114 t115 _ A34.out).mono ?_
     rintro e w42 ⟨rfl, hb⟩
     refine ⟨_, rfl, ?_⟩
     have n0_ := Aside0.mk (blk_below (g := gb101) (o := .cells #[.string a0_0, .string a0_1, .string a0_2, .slice A0_3 l0_3.length c0_3, .slice A0_4 l0_4.length c0_4, .int .i64 a0_5, .int .i64 a0_6, .int .i64 a0_7] 24 (0, 0)) (by exact BK101.out) hb)
     have n1_ := Aside0.mk (blk_below (g := gb102) (o := .cells #[.int .i64 a2_0, .int .i64 a2_1, .string a2_2] 26 (0, 0)) (by exact BK102.out) hb)
     have n2_ := Aside0.mk (blk_below (g := gb103) (o := .cells #[.int .i64 a3_0, .int .i64 a3_1, .string a3_2] 26 (0, 0)) (by exact BK103.out) hb)
     have n3_ := Aside0.mk (below_step HB.out hb)
     clear BK101
     clear BK102
     clear BK103
     clear HB
     have BK101 := n0_
     have BK102 := n1_
     have BK103 := n2_
     have HB := n3_
     clear n0_ n1_ n2_ n3_
     (try clear hb)
     refine hK.out _ _ ⟨(blk_cell BK101.out 0).trans rfl, (blk_cell BK101.out 1).trans rfl, (blk_cell BK101.out 2).trans rfl, (blk_cell BK101.out 3).trans rfl, (blk_cell BK101.out 4).trans rfl, (blk_cell BK101.out 5).trans rfl, (blk_cell BK101.out 6).trans rfl, (blk_cell BK101.out 7).trans rfl⟩ (fun hHeld => ?_)
     clear hK K
     refine norm_ (a' := ?_) ?_ ?_
     rotate_left
     ·show Act.put _ (some 50) _ = _
      simp only [Act.put, pS_, pZ_, pC_, i64_w, i32_w]
      rfl
     refine pure_ (i := 22) (N := some 51) (v := ?_) (a' := ?_) #[true, true, true, true, true, true, true, true, true, true, true, true, true, true, true, true, true, true, true, true, true, true, true, false, false, false, false, false, false, false, false, false, false, false, false, false, false, false] rfl rfl (any_of HT_.out (by kernel_rfl)) (fun _ _ _ h => h) (Or.inl ⟨by rfl, ?_⟩) ?_ ?_
     rotate_left
     ·intro w'
      go_simp
      with_reducible rfl
     rotate_left
     ·simp only [Act.put, pS_, pZ_, pC_, i64_w, i32_w]
      rfl
     refine pure_ (i := 23) (N := some 52) (v := ?_) (a' := ?_) #[true, true, true, true, true, true, true, true, true, true, true, true, true, true, true, true, true, true, true, true, true, true, true, true, false, false, false, false, false, false, false, false, false, false, false, false, false, false] rfl rfl (any_of HT_.out (by kernel_rfl)) (fun _ _ _ h => h) (Or.inl ⟨by rfl, ?_⟩) ?_ ?_
     rotate_left
     ·intro w'
      go_simp
      with_reducible rfl
     rotate_left
     ·simp only [Act.put, pS_, pZ_, pC_, i64_w, i32_w]
      rfl
     refine pure_ (i := 24) (N := some 53) (v := ?_) (a' := ?_) #[true, true, true, true, true, true, true, true, true, true, true, true, true, true, true, true, true, true, true, true, true, true, true, true, true, false, false, false, false, false, false, false, false, false, false, false, false, false] rfl rfl (any_of HT_.out (by kernel_rfl)) (fun _ _ _ h => h) (Or.inl ⟨by rfl, ?_⟩) ?_ ?_
     rotate_left
     ·intro w'
      go_simp
      with_reducible rfl
     rotate_left
     ·simp only [Act.put, pS_, pZ_, pC_, i64_w, i32_w]
      rfl
     refine pure_ (i := 25) (N := some 54) (v := ?_) (a' := ?_) #[true, true, true, true, true, true, true, true, true, true, true, true, true, true, true, true, true, true, true, true, true, true, true, true, true, true, false, false, false, false, false, false, false, false, false, false, false, false] rfl rfl (any_of HT_.out (by kernel_rfl)) (fun _ _ _ h => h) (Or.inl ⟨by rfl, ?_⟩) ?_ ?_
     rotate_left
     ·intro w'
      go_simp
      with_reducible rfl
     rotate_left
     ·simp only [Act.put, pS_, pZ_, pC_, i64_w, i32_w]
      rfl
     refine pure_ (i := 27) (N := some 56) (v := ?_) (a' := ?_) #[true, true, true, true, true, true, true, true, true, true, true, true, true, true, true, true, true, true, true, true, true, true, true, true, true, true, false, true, false, false, false, false, false, false, false, false, false, false] rfl rfl (any_of HT_.out (by kernel_rfl)) (fun _ _ _ h => h) (Or.inl ⟨by rfl, ?_⟩) ?_ ?_
     rotate_left
     ·intro w'
      go_simp
      with_reducible rfl
     rotate_left
     ·simp only [Act.put, pS_, pZ_, pC_, i64_w, i32_w]
      rfl
     refine pure_ (i := 30) (N := some 59) (v := ?_) (a' := ?_) #[true, true, true, true, true, true, true, true, true, true, true, true, true, true, true, true, true, true, true, true, true, true, true, true, true, true, false, true, false, false, true, false, false, false, false, false, false, false] rfl rfl (any_of HT_.out (by kernel_rfl)) (fun _ _ _ h => h) (Or.inl ⟨by rfl, ?_⟩) ?_ ?_
     rotate_left
     ·intro w'
      go_simp
      with_reducible rfl
     rotate_left
     ·simp only [Act.put, pS_, pZ_, pC_, i64_w, i32_w]
      rfl
     refine pure_ (i := 32) (N := some 61) (v := ?_) (a' := ?_) #[true, true, true, true, true, true, true, true, true, true, true, true, true, true, true, true, true, true, true, true, true, true, true, true, true, true, false, true, false, false, true, false, true, false, false, false, false, false] rfl rfl (any_of HT_.out (by kernel_rfl)) (fun _ _ _ h => h) (Or.inl ⟨by rfl, ?_⟩) ?_ ?_
     rotate_left
     ·intro w'
      go_simp
      with_reducible rfl
     rotate_left
     ·simp only [Act.put, pS_, pZ_, pC_, i64_w, i32_w]
      rfl
     refine take_ (i := 26) (N := some 55) (v := ?_) (a' := ?_) #[true, true, true, true, true, true, true, true, true, true, true, true, true, true, true, true, true, true, true, true, true, true, true, true, true, true, true, true, false, false, true, false, true, false, false, false, false, false] rfl rfl (take_ofW HT_.out HW_.out (by kernel_rfl)) (fun _ _ _ h => h) (Or.inl ⟨by rfl, ?_⟩) hHeld ?_ ?_
     rotate_left
     ·rintro w' ⟨s0, s1, s2, s3, s4, s5, s6, s7⟩
      go_simp
      with_reducible rfl
     rotate_left
     ·simp only [Act.put, pS_, pZ_, pC_, i64_w, i32_w]
      rfl
     refine take_ (i := 28) (N := some 57) (v := ?_) (a' := ?_) #[true, true, true, true, true, true, true, true, true, true, true, true, true, true, true, true, true, true, true, true, true, true, true, true, true, true, true, true, true, false, true, false, true, false, false, false, false, false] rfl rfl (take_ofW HT_.out HW_.out (by kernel_rfl)) (fun _ _ _ h => h) (Or.inl ⟨by rfl, ?_⟩) hHeld ?_ ?_
     rotate_left
     ·rintro w' ⟨s0, s1, s2, s3, s4, s5, s6, s7⟩
      go_simp
      with_reducible rfl
     rotate_left
     ·simp only [Act.put, pS_, pZ_, pC_, i64_w, i32_w]
      rfl
     refine take_ (i := 31) (N := some 60) (v := ?_) (a' := ?_) #[true, true, true, true, true, true, true, true, true, true, true, true, true, true, true, true, true, true, true, true, true, true, true, true, true, true, true, true, true, false, true, true, true, false, false, false, false, false] rfl rfl (take_ofW HT_.out HW_.out (by kernel_rfl)) (fun _ _ _ h => h) (Or.inl ⟨by rfl, ?_⟩) hHeld ?_ ?_
     rotate_left
     ·rintro w' ⟨s0, s1, s2, s3, s4, s5, s6, s7⟩
      go_simp
      with_reducible rfl
     rotate_left
     ·simp only [Act.put, pS_, pZ_, pC_, i64_w, i32_w]
      rfl
     refine take_ (i := 33) (N := some 62) (v := ?_) (a' := ?_) #[true, true, true, true, true, true, true, true, true, true, true, true, true, true, true, true, true, true, true, true, true, true, true, true, true, true, true, true, true, false, true, true, true, true, false, false, false, false] rfl rfl (take_ofW HT_.out HW_.out (by kernel_rfl)) (fun _ _ _ h => h) (Or.inl ⟨by rfl, ?_⟩) hHeld ?_ ?_
     rotate_left
     ·rintro w' ⟨s0, s1, s2, s3, s4, s5, s6, s7⟩
      go_simp
      with_reducible rfl
     rotate_left
     ·simp only [Act.put, pS_, pZ_, pC_, i64_w, i32_w]
      rfl
     refine one_ (i := 29) (N := some 58) #[true, true, true, true, true, true, true, true, true, true, true, true, true, true, true, true, true, true, true, true, true, true, true, true, true, true, true, true, true, true, true, true, true, true, false, false, false, false] rfl rfl (one_of HT_.out (by kernel_rfl)) (by decide) (fun K hK => ?_)
     refine goes_ Tryd.func18 (by kernel_rfl) rfl #[.slice A0_3 l0_3.length c0_3, .slice A0_4 l0_4.length c0_4] (by rfl) rfl rfl (by (try simp only [List.map_toArray, List.map_cons, List.map_nil]); rfl) ?_
     with_reducible refine (measure_Jaccard.calls kj5 _ _ l0_3 _ _ l0_4 t116 t117 _ ?side1 ?side2 ?side3 ?side4 ?sGl A36.out).mono ?_
     case sGl => exact Gl.below HGl.out HB.out
     (case side1 => repeat ((exact (Kd.C_below HR0_3.out HB.out))))
     (case side2 => exact HC0_3.out)
     (case side3 => repeat ((exact (Kd.C_below HR0_4.out HB.out))))
     (case side4 => exact HC0_4.out)
     rintro e w43 ⟨rfl, hb⟩
     refine ⟨_, rfl, ?_⟩
     have n0_ := Aside0.mk (blk_below (g := gb101) (o := .cells #[.string a0_0, .string a0_1, .string a0_2, .slice A0_3 l0_3.length c0_3, .slice A0_4 l0_4.length c0_4, .int .i64 a0_5, .int .i64 a0_6, .int .i64 a0_7] 24 (0, 0)) (by exact BK101.out) hb)
     have n1_ := Aside0.mk (blk_below (g := gb102) (o := .cells #[.int .i64 a2_0, .int .i64 a2_1, .string a2_2] 26 (0, 0)) (by exact BK102.out) hb)
     have n2_ := Aside0.mk (blk_below (g := gb103) (o := .cells #[.int .i64 a3_0, .int .i64 a3_1, .string a3_2] 26 (0, 0)) (by exact BK103.out) hb)
     have n3_ := Aside0.mk (below_step HB.out hb)
     clear BK101
     clear BK102
     clear BK103
     clear HB
     have BK101 := n0_
     have BK102 := n1_
     have BK103 := n2_
     have HB := n3_
     clear n0_ n1_ n2_ n3_
     (try clear hb)
     refine hK.out _ _ ⟨(blk_cell BK101.out 0).trans rfl, (blk_cell BK101.out 1).trans rfl, (blk_cell BK101.out 2).trans rfl, (blk_cell BK101.out 3).trans rfl, (blk_cell BK101.out 4).trans rfl, (blk_cell BK101.out 5).trans rfl, (blk_cell BK101.out 6).trans rfl, (blk_cell BK101.out 7).trans rfl⟩ (fun hHeld => ?_)
     clear hK K
     refine norm_ (a' := ?_) ?_ ?_
     rotate_left
     ·show Act.put _ (some 58) _ = _
      simp only [Act.put, pS_, pZ_, pC_, i64_w, i32_w]
      rfl
     refine one_ (i := 34) (N := some 63) #[true, true, true, true, true, true, true, true, true, true, true, true, true, true, true, true, true, true, true, true, true, true, true, true, true, true, true, true, true, true, true, true, true, true, true, false, false, false] rfl rfl (one_of HT_.out (by kernel_rfl)) (by decide) (fun K hK => ?_)
     refine goes_ Tryd.func19 (by kernel_rfl) rfl #[.slice A0_3 l0_3.length c0_3, .slice A0_4 l0_4.length c0_4] (by rfl) rfl rfl (by (try simp only [List.map_toArray, List.map_cons, List.map_nil]); rfl) ?_
     with_reducible refine (cleanseref04_Jaccard.calls kj5 _ _ l0_3 _ _ l0_4 t118 t119 _ ?side1 ?side2 ?side3 ?side4 A37.out).mono ?_
     (case side1 => repeat ((exact (Kd.C_below HR0_3.out HB.out))))
     (case side2 => exact HC0_3.out)
     (case side3 => repeat ((exact (Kd.C_below HR0_4.out HB.out))))
     (case side4 => exact HC0_4.out)
     rintro e w44 ⟨rfl, hb⟩
     refine ⟨_, rfl, ?_⟩
     have n0_ := Aside0.mk (blk_below (g := gb101) (o := .cells #[.string a0_0, .string a0_1, .string a0_2, .slice A0_3 l0_3.length c0_3, .slice A0_4 l0_4.length c0_4, .int .i64 a0_5, .int .i64 a0_6, .int .i64 a0_7] 24 (0, 0)) (by exact BK101.out) hb)
     have n1_ := Aside0.mk (blk_below (g := gb102) (o := .cells #[.int .i64 a2_0, .int .i64 a2_1, .string a2_2] 26 (0, 0)) (by exact BK102.out) hb)
     have n2_ := Aside0.mk (blk_below (g := gb103) (o := .cells #[.int .i64 a3_0, .int .i64 a3_1, .string a3_2] 26 (0, 0)) (by exact BK103.out) hb)
     have n3_ := Aside0.mk (below_step HB.out hb)
     clear BK101
     clear BK102
     clear BK103
     clear HB
     have BK101 := n0_
     have BK102 := n1_
     have BK103 := n2_
     have HB := n3_
     clear n0_ n1_ n2_ n3_
     (try clear hb)
     refine hK.out _ _ ⟨(blk_cell BK101.out 0).trans rfl, (blk_cell BK101.out 1).trans rfl, (blk_cell BK101.out 2).trans rfl, (blk_cell BK101.out 3).trans rfl, (blk_cell BK101.out 4).trans rfl, (blk_cell BK101.out 5).trans rfl, (blk_cell BK101.out 6).trans rfl, (blk_cell BK101.out 7).trans rfl⟩ (fun hHeld => ?_)
     clear hK K
     refine norm_ (a' := ?_) ?_ ?_
     rotate_left
     ·show Act.put _ (some 63) _ = _
      simp only [Act.put, pS_, pZ_, pC_, i64_w, i32_w]
      rfl
     refine pure_ (i := 35) (N := some 64) (v := ?_) (a' := ?_) #[true, true, true, true, true, true, true, true, true, true, true, true, true, true, true, true, true, true, true, true, true, true, true, true, true, true, true, true, true, true, true, true, true, true, true, true, false, false] rfl rfl (any_of HT_.out (by kernel_rfl)) (fun _ _ _ h => h) (Or.inl ⟨by rfl, ?_⟩) ?_ ?_
     rotate_left
     ·intro w'
      go_simp
      with_reducible rfl
     rotate_left
     ·simp only [Act.put, pS_, pZ_, pC_, i64_w, i32_w]
      rfl
     refine pure_ (i := 36) (N := some 65) (v := ?_) (a' := ?_) #[true, true, true, true, true, true, true, true, true, true, true, true, true, true, true, true, true, true, true, true, true, true, true, true, true, true, true, true, true, true, true, true, true, true, true, true, true, false] rfl rfl (any_of HT_.out (by kernel_rfl)) (fun _ _ _ h => h) (Or.inl ⟨by rfl, ?_⟩) ?_ ?_
     rotate_left
     ·intro w'
      go_simp
      with_reducible rfl
     rotate_left
     ·simp only [Act.put, pS_, pZ_, pC_, i64_w, i32_w]
      rfl
     refine pure_ (i := 37) (N := some 10) (v := ?_) (a' := ?_) #[true, true, true, true, true, true, true, true, true, true, true, true, true, true, true, true, true, true, true, true, true, true, true, true, true, true, true, true, true, true, true, true, true, true, true, true, true, true] rfl rfl (any_of HT_.out (by kernel_rfl)) (fun _ _ _ h => h) (Or.inl ⟨by rfl, ?_⟩) ?_ ?_
     rotate_left
     ·intro w'
      go_simp
      with_reducible rfl
     rotate_left
     ·simp only [Act.put, pS_, pZ_, pC_, i64_w, i32_w]
      rfl
     refine done_ (done_of HT_.out (by kernel_rfl)) ?_
     try go_wp2
     go_meet
     case rel => exact ⟨_, ((t116 == t118 && (t117 == t119))), (by rfl), H', ⟨by have := HJ5.out; omega⟩, ⟨by exact BK101.out⟩, ⟨by exact BK102.out⟩, ⟨by exact BK103.out⟩, ⟨by repeat ((with_reducible (exact HB.out)))⟩⟩
    rw [if_neg c35] at H
    have c35b0 : (t112 == t114 && (t113 == t115)) = false := by simpa using c35
    (try (have c35b1 : decide (t112 = t114 && (t113 == t115)) = false := by simpa using c35))
    (try (have c35b2 : (t112 == t114 && (t113 == t115)) = false := by simpa using c35))
    (try (have c35b3 : ¬ (t112 = t114 && (t113 == t115)) := by simpa using c35))
    clear c35
    have H' := Aside0.mk H
    clear H
    try go_wp2
    have n0_ := Aside0.mk (blk_drew BK101.out)
    have n1_ := Aside0.mk (blk_drew BK102.out)
    have n2_ := Aside0.mk (blk_drew BK103.out)
    have n3_ := Aside0.mk (below_drew1 HB.out)
    clear BK101
    clear BK102
    clear BK103
    clear HB
    have BK101 := n0_
    have BK102 := n1_
    have BK103 := n2_
    have HB := n3_
    clear n0_ n1_ n2_ n3_
    refine start_ (n := 38) (S := fun w' => w'.cell? ⟨gb101, 0, none⟩ = some (.string a0_0) ∧ w'.cell? ⟨gb101, 1, none⟩ = some (.string a0_1) ∧ w'.cell? ⟨gb101, 2, none⟩ = some (.string a0_2) ∧ w'.cell? ⟨gb101, 3, none⟩ = some (.slice A0_3 l0_3.length c0_3) ∧ w'.cell? ⟨gb101, 4, none⟩ = some (.slice A0_4 l0_4.length c0_4) ∧ w'.cell? ⟨gb101, 5, none⟩ = some (.int .i64 a0_5) ∧ w'.cell? ⟨gb101, 6, none⟩ = some (.int .i64 a0_6) ∧ w'.cell? ⟨gb101, 7, none⟩ = some (.int .i64 a0_7)) (ds := []) #[false, false, false, false, false, false, false, false, false, false, false, false, false, false, false, false, false, false, false, false, false, false, false, false, false, false, false, false, false, false, false, false, false, false, false, false, false, false] (by kernel_rfl) rfl rfl ⟨(blk_cell BK101.out 0).trans rfl, (blk_cell BK101.out 1).trans rfl, (blk_cell BK101.out 2).trans rfl, (blk_cell BK101.out 3).trans rfl, (blk_cell BK101.out 4).trans rfl, (blk_cell BK101.out 5).trans rfl, (blk_cell BK101.out 6).trans rfl, (blk_cell BK101.out 7).trans rfl⟩ (fun hHeld => ?_); refine with_tabW cleanselaw04_MeasureMatchesReference.tab4 cleanselaw04_MeasureMatchesReference.bits4 (fun HT_ HW_ => ?_)
    generalize wc.drew = w45 at BK101 BK102 BK103 HB hHeld ⊢
    refine pure_ (i := 0) (N := some 29) (v := ?_) (a' := ?_) #[true, false, false, false, false, false, false, false, false, false, false, false, false, false, false, false, false, false, false, false, false, false, false, false, false, false, false, false, false, false, false, false, false, false, false, false, false, false] rfl rfl (any_of HT_.out (by kernel_rfl)) (fun _ _ _ h => h) (Or.inl ⟨by rfl, ?_⟩) ?_ ?_
    rotate_left
    ·intro w'
     go_simp
     with_reducible rfl
    rotate_left
    ·simp only [Act.put, pS_, pZ_, pC_, i64_w, i32_w]
     rfl
    refine pure_ (i := 2) (N := some 31) (v := ?_) (a' := ?_) #[true, false, true, false, false, false, false, false, false, false, false, false, false, false, false, false, false, false, false, false, false, false, false, false, false, false, false, false, false, false, false, false, false, false, false, false, false, false] rfl rfl (any_of HT_.out (by kernel_rfl)) (fun _ _ _ h => h) (Or.inl ⟨by rfl, ?_⟩) ?_ ?_
    rotate_left
    ·intro w'
     go_simp
     with_reducible rfl
    rotate_left
    ·simp only [Act.put, pS_, pZ_, pC_, i64_w, i32_w]
     rfl
    refine pure_ (i := 5) (N := some 34) (v := ?_) (a' := ?_) #[true, false, true, false, false, true, false, false, false, false, false, false, false, false, false, false, false, false, false, false, false, false, false, false, false, false, false, false, false, false, false, false, false, false, false, false, false, false] rfl rfl (any_of HT_.out (by kernel_rfl)) (fun _ _ _ h => h) (Or.inl ⟨by rfl, ?_⟩) ?_ ?_
    rotate_left
    ·intro w'
     go_simp
     with_reducible rfl
    rotate_left
    ·simp only [Act.put, pS_, pZ_, pC_, i64_w, i32_w]
     rfl
    refine pure_ (i := 7) (N := some 36) (v := ?_) (a' := ?_) #[true, false, true, false, false, true, false, true, false, false, false, false, false, false, false, false, false, false, false, false, false, false, false, false, false, false, false, false, false, false, false, false, false, false, false, false, false, false] rfl rfl (any_of HT_.out (by kernel_rfl)) (fun _ _ _ h => h) (Or.inl ⟨by rfl, ?_⟩) ?_ ?_
    rotate_left
    ·intro w'
     go_simp
     with_reducible rfl
    rotate_left
    ·simp only [Act.put, pS_, pZ_, pC_, i64_w, i32_w]
     rfl
    refine take_ (i := 1) (N := some 30) (v := ?_) (a' := ?_) #[true, true, true, false, false, true, false, true, false, false, false, false, false, false, false, false, false, false, false, false, false, false, false, false, false, false, false, false, false, false, false, false, false, false, false, false, false, false] rfl rfl (take_ofW HT_.out HW_.out (by kernel_rfl)) (fun _ _ _ h => h) (Or.inl ⟨by rfl, ?_⟩) hHeld ?_ ?_
    rotate_left
    ·rintro w' ⟨s0, s1, s2, s3, s4, s5, s6, s7⟩
     go_simp
     with_reducible rfl
    rotate_left
    ·simp only [Act.put, pS_, pZ_, pC_, i64_w, i32_w]
     rfl
    refine take_ (i := 3) (N := some 32) (v := ?_) (a' := ?_) #[true, true, true, true, false, true, false, true, false, false, false, false, false, false, false, false, false, false, false, false, false, false, false, false, false, false, false, false, false, false, false, false, false, false, false, false, false, false] rfl rfl (take_ofW HT_.out HW_.out (by kernel_rfl)) (fun _ _ _ h => h) (Or.inl ⟨by rfl, ?_⟩) hHeld ?_ ?_
    rotate_left
    ·rintro w' ⟨s0, s1, s2, s3, s4, s5, s6, s7⟩
     go_simp
     with_reducible rfl
    rotate_left
    ·simp only [Act.put, pS_, pZ_, pC_, i64_w, i32_w]
     rfl
    refine take_ (i := 6) (N := some 35) (v := ?_) (a' := ?_) #[true, true, true, true, false, true, true, true, false, false, false, false, false, false, false, false, false, false, false, false, false, false, false, false, false, false, false, false, false, false, false, false, false, false, false, false, false, false] rfl rfl (take_ofW HT_.out HW_.out (by kernel_rfl)) (fun _ _ _ h => h) (Or.inl ⟨by rfl, ?_⟩) hHeld ?_ ?_
    rotate_left
    ·rintro w' ⟨s0, s1, s2, s3, s4, s5, s6, s7⟩
     go_simp
     with_reducible rfl
    rotate_left
    ·simp only [Act.put, pS_, pZ_, pC_, i64_w, i32_w]
     rfl
    refine take_ (i := 8) (N := some 37) (v := ?_) (a' := ?_) #[true, true, true, true, false, true, true, true, true, false, false, false, false, false, false, false, false, false, false, false, false, false, false, false, false, false, false, false, false, false, false, false, false, false, false, false, false, false] rfl rfl (take_ofW HT_.out HW_.out (by kernel_rfl)) (fun _ _ _ h => h) (Or.inl ⟨by rfl, ?_⟩) hHeld ?_ ?_
    rotate_left
    ·rintro w' ⟨s0, s1, s2, s3, s4, s5, s6, s7⟩
     go_simp
     with_reducible rfl
    rotate_left
    ·simp only [Act.put, pS_, pZ_, pC_, i64_w, i32_w]
     rfl
    refine one_ (i := 4) (N := some 33) #[true, true, true, true, true, true, true, true, true, false, false, false, false, false, false, false, false, false, false, false, false, false, false, false, false, false, false, false, false, false, false, false, false, false, false, false, false, false] rfl rfl (one_of HT_.out (by kernel_rfl)) (by decide) (fun K hK => ?_)
    refine goes_ Tryd.func14 (by kernel_rfl) rfl #[.string a0_0, .string a0_1] (by rfl) rfl rfl (by (try simp only [List.map_toArray, List.map_cons, List.map_nil]); rfl) ?_
    with_reducible refine (measure_Edit.calls kj5 a0_0 a0_1 t110 _ A30.out).mono ?_
    rintro e w46 ⟨rfl, hb⟩
    refine ⟨_, rfl, ?_⟩
    have n0_ := Aside0.mk (blk_below (g := gb101) (o := .cells #[.string a0_0, .string a0_1, .string a0_2, .slice A0_3 l0_3.length c0_3, .slice A0_4 l0_4.length c0_4, .int .i64 a0_5, .int .i64 a0_6, .int .i64 a0_7] 24 (0, 0)) (by exact BK101.out) hb)
    have n1_ := Aside0.mk (blk_below (g := gb102) (o := .cells #[.int .i64 a2_0, .int .i64 a2_1, .string a2_2] 26 (0, 0)) (by exact BK102.out) hb)
    have n2_ := Aside0.mk (blk_below (g := gb103) (o := .cells #[.int .i64 a3_0, .int .i64 a3_1, .string a3_2] 26 (0, 0)) (by exact BK103.out) hb)
    have n3_ := Aside0.mk (below_step HB.out hb)
    clear BK101
    clear BK102
    clear BK103
    clear HB
    have BK101 := n0_
    have BK102 := n1_
    have BK103 := n2_
    have HB := n3_
    clear n0_ n1_ n2_ n3_
    (try clear hb)
    refine hK.out _ _ ⟨(blk_cell BK101.out 0).trans rfl, (blk_cell BK101.out 1).trans rfl, (blk_cell BK101.out 2).trans rfl, (blk_cell BK101.out 3).trans rfl, (blk_cell BK101.out 4).trans rfl, (blk_cell BK101.out 5).trans rfl, (blk_cell BK101.out 6).trans rfl, (blk_cell BK101.out 7).trans rfl⟩ (fun hHeld => ?_)
    clear hK K
    refine norm_ (a' := ?_) ?_ ?_
    rotate_left
    ·show Act.put _ (some 33) _ = _
     simp only [Act.put, pS_, pZ_, pC_, i64_w, i32_w]
     rfl
    refine one_ (i := 9) (N := some 38) #[true, true, true, true, true, true, true, true, true, true, false, false, false, false, false, false, false, false, false, false, false, false, false, false, false, false, false, false, false, false, false, false, false, false, false, false, false, false] rfl rfl (one_of HT_.out (by kernel_rfl)) (by decide) (fun K hK => ?_)
    refine goes_ Tryd.func15 (by kernel_rfl) rfl #[.string a0_0, .string a0_1] (by rfl) rfl rfl (by (try simp only [List.map_toArray, List.map_cons, List.map_nil]); rfl) ?_
    with_reducible refine (cleanseref04_Edit.calls kj5 a0_0 a0_1 t111 _ A31.out).mono ?_
    rintro e w47 ⟨rfl, hb⟩
    refine ⟨_, rfl, ?_⟩
    have n0_ := Aside0.mk (blk_below (g := gb101) (o := .cells #[.string a0_0, .string a0_1, .string a0_2, .slice A0_3 l0_3.length c0_3, .slice A0_4 l0_4.length c0_4, .int .i64 a0_5, .int .i64 a0_6, .int .i64 a0_7] 24 (0, 0)) (by exact BK101.out) hb)
    have n1_ := Aside0.mk (blk_below (g := gb102) (o := .cells #[.int .i64 a2_0, .int .i64 a2_1, .string a2_2] 26 (0, 0)) (by exact BK102.out) hb)
    have n2_ := Aside0.mk (blk_below (g := gb103) (o := .cells #[.int .i64 a3_0, .int .i64 a3_1, .string a3_2] 26 (0, 0)) (by exact BK103.out) hb)
    have n3_ := Aside0.mk (below_step HB.out hb)
    clear BK101
    clear BK102
    clear BK103
    clear HB
    have BK101 := n0_
    have BK102 := n1_
    have BK103 := n2_
    have HB := n3_
    clear n0_ n1_ n2_ n3_
    (try clear hb)
    refine hK.out _ _ ⟨(blk_cell BK101.out 0).trans rfl, (blk_cell BK101.out 1).trans rfl, (blk_cell BK101.out 2).trans rfl, (blk_cell BK101.out 3).trans rfl, (blk_cell BK101.out 4).trans rfl, (blk_cell BK101.out 5).trans rfl, (blk_cell BK101.out 6).trans rfl, (blk_cell BK101.out 7).trans rfl⟩ (fun hHeld => ?_)
    clear hK K
    refine norm_ (a' := ?_) ?_ ?_
    rotate_left
    ·show Act.put _ (some 38) _ = _
     simp only [Act.put, pS_, pZ_, pC_, i64_w, i32_w]
     rfl
    refine pure_ (i := 10) (N := some 39) (v := ?_) (a' := ?_) #[true, true, true, true, true, true, true, true, true, true, true, false, false, false, false, false, false, false, false, false, false, false, false, false, false, false, false, false, false, false, false, false, false, false, false, false, false, false] rfl rfl (any_of HT_.out (by kernel_rfl)) (fun _ _ _ h => h) (Or.inl ⟨by rfl, ?_⟩) ?_ ?_
    rotate_left
    ·intro w'
     go_simp
     with_reducible rfl
    rotate_left
    ·simp only [Act.put, pS_, pZ_, pC_, i64_w, i32_w]
     rfl
    refine pure_ (i := 11) (N := some 40) (v := ?_) (a' := ?_) #[true, true, true, true, true, true, true, true, true, true, true, true, false, false, false, false, false, false, false, false, false, false, false, false, false, false, false, false, false, false, false, false, false, false, false, false, false, false] rfl rfl (any_of HT_.out (by kernel_rfl)) (fun _ _ _ h => h) (Or.inl ⟨by rfl, ?_⟩) ?_ ?_
    rotate_left
    ·intro w'
     go_simp
     with_reducible rfl
    rotate_left
    ·simp only [Act.put, pS_, pZ_, pC_, i64_w, i32_w]
     rfl
    refine pure_ (i := 12) (N := some 41) (v := ?_) (a' := ?_) #[true, true, true, true, true, true, true, true, true, true, true, true, true, false, false, false, false, false, false, false, false, false, false, false, false, false, false, false, false, false, false, false, false, false, false, false, false, false] rfl rfl (any_of HT_.out (by kernel_rfl)) (fun _ _ _ h => h) (Or.inl ⟨by rfl, ?_⟩) ?_ ?_
    rotate_left
    ·intro w'
     go_simp
     with_reducible rfl
    rotate_left
    ·simp only [Act.put, pS_, pZ_, pC_, i64_w, i32_w]
     rfl
    refine pure_ (i := 14) (N := some 43) (v := ?_) (a' := ?_) #[true, true, true, true, true, true, true, true, true, true, true, true, true, false, true, false, false, false, false, false, false, false, false, false, false, false, false, false, false, false, false, false, false, false, false, false, false, false] rfl rfl (any_of HT_.out (by kernel_rfl)) (fun _ _ _ h => h) (Or.inl ⟨by rfl, ?_⟩) ?_ ?_
    rotate_left
    ·intro w'
     go_simp
     with_reducible rfl
    rotate_left
    ·simp only [Act.put, pS_, pZ_, pC_, i64_w, i32_w]
     rfl
    refine pure_ (i := 17) (N := some 46) (v := ?_) (a' := ?_) #[true, true, true, true, true, true, true, true, true, true, true, true, true, false, true, false, false, true, false, false, false, false, false, false, false, false, false, false, false, false, false, false, false, false, false, false, false, false] rfl rfl (any_of HT_.out (by kernel_rfl)) (fun _ _ _ h => h) (Or.inl ⟨by rfl, ?_⟩) ?_ ?_
    rotate_left
    ·intro w'
     go_simp
     with_reducible rfl
    rotate_left
    ·simp only [Act.put, pS_, pZ_, pC_, i64_w, i32_w]
     rfl
    refine pure_ (i := 19) (N := some 48) (v := ?_) (a' := ?_) #[true, true, true, true, true, true, true, true, true, true, true, true, true, false, true, false, false, true, false, true, false, false, false, false, false, false, false, false, false, false, false, false, false, false, false, false, false, false] rfl rfl (any_of HT_.out (by kernel_rfl)) (fun _ _ _ h => h) (Or.inl ⟨by rfl, ?_⟩) ?_ ?_
    rotate_left
    ·intro w'
     go_simp
     with_reducible rfl
    rotate_left
    ·simp only [Act.put, pS_, pZ_, pC_, i64_w, i32_w]
     rfl
    refine take_ (i := 13) (N := some 42) (v := ?_) (a' := ?_) #[true, true, true, true, true, true, true, true, true, true, true, true, true, true, true, false, false, true, false, true, false, false, false, false, false, false, false, false, false, false, false, false, false, false, false, false, false, false] rfl rfl (take_ofW HT_.out HW_.out (by kernel_rfl)) (fun _ _ _ h => h) (Or.inl ⟨by rfl, ?_⟩) hHeld ?_ ?_
    rotate_left
    ·rintro w' ⟨s0, s1, s2, s3, s4, s5, s6, s7⟩
     go_simp
     with_reducible rfl
    rotate_left
    ·simp only [Act.put, pS_, pZ_, pC_, i64_w, i32_w]
     rfl
    refine take_ (i := 15) (N := some 44) (v := ?_) (a' := ?_) #[true, true, true, true, true, true, true, true, true, true, true, true, true, true, true, true, false, true, false, true, false, false, false, false, false, false, false, false, false, false, false, false, false, false, false, false, false, false] rfl rfl (take_ofW HT_.out HW_.out (by kernel_rfl)) (fun _ _ _ h => h) (Or.inl ⟨by rfl, ?_⟩) hHeld ?_ ?_
    rotate_left
    ·rintro w' ⟨s0, s1, s2, s3, s4, s5, s6, s7⟩
     go_simp
     with_reducible rfl
    rotate_left
    ·simp only [Act.put, pS_, pZ_, pC_, i64_w, i32_w]
     rfl
    refine take_ (i := 18) (N := some 47) (v := ?_) (a' := ?_) #[true, true, true, true, true, true, true, true, true, true, true, true, true, true, true, true, false, true, true, true, false, false, false, false, false, false, false, false, false, false, false, false, false, false, false, false, false, false] rfl rfl (take_ofW HT_.out HW_.out (by kernel_rfl)) (fun _ _ _ h => h) (Or.inl ⟨by rfl, ?_⟩) hHeld ?_ ?_
    rotate_left
    ·rintro w' ⟨s0, s1, s2, s3, s4, s5, s6, s7⟩
     go_simp
     with_reducible rfl
    rotate_left
    ·simp only [Act.put, pS_, pZ_, pC_, i64_w, i32_w]
     rfl
    refine take_ (i := 20) (N := some 49) (v := ?_) (a' := ?_) #[true, true, true, true, true, true, true, true, true, true, true, true, true, true, true, true, false, true, true, true, true, false, false, false, false, false, false, false, false, false, false, false, false, false, false, false, false, false] rfl rfl (take_ofW HT_.out HW_.out (by kernel_rfl)) (fun _ _ _ h => h) (Or.inl ⟨by rfl, ?_⟩) hHeld ?_ ?_
    rotate_left
    ·rintro w' ⟨s0, s1, s2, s3, s4, s5, s6, s7⟩
     go_simp
     with_reducible rfl
    rotate_left
    ·simp only [Act.put, pS_, pZ_, pC_, i64_w, i32_w]
     rfl
    refine one_ (i := 16) (N := some 45) #[true, true, true, true, true, true, true, true, true, true, true, true, true, true, true, true, true, true, true, true, true, false, false, false, false, false, false, false, false, false, false, false, false, false, false, false, false, false] rfl rfl (one_of HT_.out (by kernel_rfl)) (by decide) (fun K hK => ?_)
    refine goes_ Tryd.func16 (by kernel_rfl) rfl #[.string a0_0, .string a0_1] (by rfl) rfl rfl (by (try simp only [List.map_toArray, List.map_cons, List.map_nil]); rfl) ?_
    with_reducible refine (measure_Alike.calls kj5 a0_0 a0_1 t112 t113 _ ?sGl A33.out).mono ?_
    case sGl => exact Gl.below HGl.out HB.out
    rintro e w48 ⟨rfl, hb⟩
    refine ⟨_, rfl, ?_⟩
    have n0_ := Aside0.mk (blk_below (g := gb101) (o := .cells #[.string a0_0, .string a0_1, .string a0_2, .slice A0_3 l0_3.length c0_3, .slice A0_4 l0_4.length c0_4, .int .i64 a0_5, .int .i64 a0_6, .int .i64 a0_7] 24 (0, 0)) (by exact BK101.out) hb)
    have n1_ := Aside0.mk (blk_below (g := gb102) (o := .cells #[.int .i64 a2_0, .int .i64 a2_1, .string a2_2] 26 (0, 0)) (by exact BK102.out) hb)
    have n2_ := Aside0.mk (blk_below (g := gb103) (o := .cells #[.int .i64 a3_0, .int .i64 a3_1, .string a3_2] 26 (0, 0)) (by exact BK103.out) hb)
    have n3_ := Aside0.mk (below_step HB.out hb)
    clear BK101
    clear BK102
    clear BK103
    clear HB
    have BK101 := n0_
    have BK102 := n1_
    have BK103 := n2_
    have HB := n3_
    clear n0_ n1_ n2_ n3_
    (try clear hb)
    refine hK.out _ _ ⟨(blk_cell BK101.out 0).trans rfl, (blk_cell BK101.out 1).trans rfl, (blk_cell BK101.out 2).trans rfl, (blk_cell BK101.out 3).trans rfl, (blk_cell BK101.out 4).trans rfl, (blk_cell BK101.out 5).trans rfl, (blk_cell BK101.out 6).trans rfl, (blk_cell BK101.out 7).trans rfl⟩ (fun hHeld => ?_)
    clear hK K
    refine norm_ (a' := ?_) ?_ ?_
    rotate_left
    ·show Act.put _ (some 45) _ = _
     simp only [Act.put, pS_, pZ_, pC_, i64_w, i32_w]
     rfl
    refine one_ (i := 21) (N := some 50) #[true, true, true, true, true, true, true, true, true, true, true, true, true, true, true, true, true, true, true, true, true, true, false, false, false, false, false, false, false, false, false, false, false, false, false, false, false, false] rfl rfl (one_of HT_.out (by kernel_rfl)) (by decide) (fun K hK => ?_)
    refine goes_ Tryd.func17 (by kernel_rfl) rfl #[.string a0_0, .string a0_1] (by rfl) rfl rfl (by (try simp only [List.map_toArray, List.map_cons, List.map_nil]); rfl) ?_
    with_reducible refine (cleanseref04_Alike.calls kj5 a0_0 a0_1 t114 t115 _ A34.out).mono ?_
    rintro e w49 ⟨rfl, hb⟩
    refine ⟨_, rfl, ?_⟩
    have n0_ := Aside0.mk (blk_below (g := gb101) (o := .cells #[.string a0_0, .string a0_1, .string a0_2, .slice A0_3 l0_3.length c0_3, .slice A0_4 l0_4.length c0_4, .int .i64 a0_5, .int .i64 a0_6, .int .i64 a0_7] 24 (0, 0)) (by exact BK101.out) hb)
    have n1_ := Aside0.mk (blk_below (g := gb102) (o := .cells #[.int .i64 a2_0, .int .i64 a2_1, .string a2_2] 26 (0, 0)) (by exact BK102.out) hb)
    have n2_ := Aside0.mk (blk_below (g := gb103) (o := .cells #[.int .i64 a3_0, .int .i64 a3_1, .string a3_2] 26 (0, 0)) (by exact BK103.out) hb)
    have n3_ := Aside0.mk (below_step HB.out hb)
    clear BK101
    clear BK102
    clear BK103
    clear HB
    have BK101 := n0_
    have BK102 := n1_
    have BK103 := n2_
    have HB := n3_
    clear n0_ n1_ n2_ n3_
    (try clear hb)
    refine hK.out _ _ ⟨(blk_cell BK101.out 0).trans rfl, (blk_cell BK101.out 1).trans rfl, (blk_cell BK101.out 2).trans rfl, (blk_cell BK101.out 3).trans rfl, (blk_cell BK101.out 4).trans rfl, (blk_cell BK101.out 5).trans rfl, (blk_cell BK101.out 6).trans rfl, (blk_cell BK101.out 7).trans rfl⟩ (fun hHeld => ?_)
    clear hK K
    refine norm_ (a' := ?_) ?_ ?_
    rotate_left
    ·show Act.put _ (some 50) _ = _
     simp only [Act.put, pS_, pZ_, pC_, i64_w, i32_w]
     rfl
    refine pure_ (i := 22) (N := some 51) (v := ?_) (a' := ?_) #[true, true, true, true, true, true, true, true, true, true, true, true, true, true, true, true, true, true, true, true, true, true, true, false, false, false, false, false, false, false, false, false, false, false, false, false, false, false] rfl rfl (any_of HT_.out (by kernel_rfl)) (fun _ _ _ h => h) (Or.inl ⟨by rfl, ?_⟩) ?_ ?_
    rotate_left
    ·intro w'
     go_simp
     with_reducible rfl
    rotate_left
    ·simp only [Act.put, pS_, pZ_, pC_, i64_w, i32_w]
     rfl
    refine pure_ (i := 23) (N := some 52) (v := ?_) (a' := ?_) #[true, true, true, true, true, true, true, true, true, true, true, true, true, true, true, true, true, true, true, true, true, true, true, true, false, false, false, false, false, false, false, false, false, false, false, false, false, false] rfl rfl (any_of HT_.out (by kernel_rfl)) (fun _ _ _ h => h) (Or.inl ⟨by rfl, ?_⟩) ?_ ?_
    rotate_left
    ·intro w'
     go_simp
     with_reducible rfl
    rotate_left
    ·simp only [Act.put, pS_, pZ_, pC_, i64_w, i32_w]
     rfl
    refine pure_ (i := 24) (N := some 53) (v := ?_) (a' := ?_) #[true, true, true, true, true, true, true, true, true, true, true, true, true, true, true, true, true, true, true, true, true, true, true, true, true, false, false, false, false, false, false, false, false, false, false, false, false, false] rfl rfl (any_of HT_.out (by kernel_rfl)) (fun _ _ _ h => h) (Or.inl ⟨by rfl, ?_⟩) ?_ ?_
    rotate_left
    ·intro w'
     go_simp
     with_reducible rfl
    rotate_left
    ·simp only [Act.put, pS_, pZ_, pC_, i64_w, i32_w]
     rfl
    refine pure_ (i := 25) (N := some 54) (v := undef) (a' := ?_) #[true, true, true, true, true, true, true, true, true, true, true, true, true, true, true, true, true, true, true, true, true, true, true, true, true, true, false, false, false, false, false, false, false, false, false, false, false, false] rfl rfl (any_of HT_.out (by kernel_rfl)) (fun _ _ _ h => h) (Or.inr ⟨by rfl, rfl⟩) ?_ ?_
    rotate_left
    ·simp only [Act.put, pS_, pZ_, pC_, i64_w, i32_w]
     rfl
    refine pure_ (i := 26) (N := some 55) (v := undef) (a' := ?_) #[true, true, true, true, true, true, true, true, true, true, true, true, true, true, true, true, true, true, true, true, true, true, true, true, true, true, true, false, false, false, false, false, false, false, false, false, false, false] rfl rfl (any_of HT_.out (by kernel_rfl)) (fun _ _ _ h => h) (Or.inr ⟨by rfl, rfl⟩) ?_ ?_
    rotate_left
    ·simp only [Act.put, pS_, pZ_, pC_, i64_w, i32_w]
     rfl
    refine pure_ (i := 27) (N := some 56) (v := undef) (a' := ?_) #[true, true, true, true, true, true, true, true, true, true, true, true, true, true, true, true, true, true, true, true, true, true, true, true, true, true, true, true, false, false, false, false, false, false, false, false, false, false] rfl rfl (any_of HT_.out (by kernel_rfl)) (fun _ _ _ h => h) (Or.inr ⟨by rfl, rfl⟩) ?_ ?_
    rotate_left
    ·simp only [Act.put, pS_, pZ_, pC_, i64_w, i32_w]
     rfl
    refine pure_ (i := 28) (N := some 57) (v := undef) (a' := ?_) #[true, true, true, true, true, true, true, true, true, true, true, true, true, true, true, true, true, true, true, true, true, true, true, true, true, true, true, true, true, false, false, false, false, false, false, false, false, false] rfl rfl (any_of HT_.out (by kernel_rfl)) (fun _ _ _ h => h) (Or.inr ⟨by rfl, rfl⟩) ?_ ?_
    rotate_left
    ·simp only [Act.put, pS_, pZ_, pC_, i64_w, i32_w]
     rfl
    refine pure_ (i := 29) (N := some 58) (v := undef) (a' := ?_) #[true, true, true, true, true, true, true, true, true, true, true, true, true, true, true, true, true, true, true, true, true, true, true, true, true, true, true, true, true, true, false, false, false, false, false, false, false, false] rfl rfl (any_of HT_.out (by kernel_rfl)) (fun _ _ _ h => h) (Or.inr ⟨by rfl, rfl⟩) ?_ ?_
    rotate_left
    ·simp only [Act.put, pS_, pZ_, pC_, i64_w, i32_w]
     rfl
    refine pure_ (i := 30) (N := some 59) (v := undef) (a' := ?_) #[true, true, true, true, true, true, true, true, true, true, true, true, true, true, true, true, true, true, true, true, true, true, true, true, true, true, true, true, true, true, true, false, false, false, false, false, false, false] rfl rfl (any_of HT_.out (by kernel_rfl)) (fun _ _ _ h => h) (Or.inr ⟨by rfl, rfl⟩) ?_ ?_
    rotate_left
    ·simp only [Act.put, pS_, pZ_, pC_, i64_w, i32_w]
     rfl
    refine pure_ (i := 31) (N := some 60) (v := undef) (a' := ?_) #[true, true, true, true, true, true, true, true, true, true, true, true, true, true, true, true, true, true, true, true, true, true, true, true, true, true, true, true, true, true, true, true, false, false, false, false, false, false] rfl rfl (any_of HT_.out (by kernel_rfl)) (fun _ _ _ h => h) (Or.inr ⟨by rfl, rfl⟩) ?_ ?_
    rotate_left
    ·simp only [Act.put, pS_, pZ_, pC_, i64_w, i32_w]
     rfl
    refine pure_ (i := 32) (N := some 61) (v := undef) (a' := ?_) #[true, true, true, true, true, true, true, true, true, true, true, true, true, true, true, true, true, true, true, true, true, true, true, true, true, true, true, true, true, true, true, true, true, false, false, false, false, false] rfl rfl (any_of HT_.out (by kernel_rfl)) (fun _ _ _ h => h) (Or.inr ⟨by rfl, rfl⟩) ?_ ?_
    rotate_left
    ·simp only [Act.put, pS_, pZ_, pC_, i64_w, i32_w]
     rfl
    refine pure_ (i := 33) (N := some 62) (v := undef) (a' := ?_) #[true, true, true, true, true, true, true, true, true, true, true, true, true, true, true, true, true, true, true, true, true, true, true, true, true, true, true, true, true, true, true, true, true, true, false, false, false, false] rfl rfl (any_of HT_.out (by kernel_rfl)) (fun _ _ _ h => h) (Or.inr ⟨by rfl, rfl⟩) ?_ ?_
    rotate_left
    ·simp only [Act.put, pS_, pZ_, pC_, i64_w, i32_w]
     rfl
    refine pure_ (i := 34) (N := some 63) (v := undef) (a' := ?_) #[true, true, true, true, true, true, true, true, true, true, true, true, true, true, true, true, true, true, true, true, true, true, true, true, true, true, true, true, true, true, true, true, true, true, true, false, false, false] rfl rfl (any_of HT_.out (by kernel_rfl)) (fun _ _ _ h => h) (Or.inr ⟨by rfl, rfl⟩) ?_ ?_
    rotate_left
    ·simp only [Act.put, pS_, pZ_, pC_, i64_w, i32_w]
     rfl
    refine pure_ (i := 35) (N := some 64) (v := undef) (a' := ?_) #[true, true, true, true, true, true, true, true, true, true, true, true, true, true, true, true, true, true, true, true, true, true, true, true, true, true, true, true, true, true, true, true, true, true, true, true, false, false] rfl rfl (any_of HT_.out (by kernel_rfl)) (fun _ _ _ h => h) (Or.inr ⟨by rfl, rfl⟩) ?_ ?_
    rotate_left
    ·simp only [Act.put, pS_, pZ_, pC_, i64_w, i32_w]
     rfl
    refine pure_ (i := 36) (N := some 65) (v := ?_) (a' := ?_) #[true, true, true, true, true, true, true, true, true, true, true, true, true, true, true, true, true, true, true, true, true, true, true, true, true, true, true, true, true, true, true, true, true, true, true, true, true, false] rfl rfl (any_of HT_.out (by kernel_rfl)) (fun _ _ _ h => h) (Or.inl ⟨by rfl, ?_⟩) ?_ ?_
    rotate_left
    ·intro w'
     go_simp
     with_reducible rfl
    rotate_left
    ·simp only [Act.put, pS_, pZ_, pC_, i64_w, i32_w]
     rfl
    refine pure_ (i := 37) (N := some 10) (v := ?_) (a' := ?_) #[true, true, true, true, true, true, true, true, true, true, true, true, true, true, true, true, true, true, true, true, true, true, true, true, true, true, true, true, true, true, true, true, true, true, true, true, true, true] rfl rfl (any_of HT_.out (by kernel_rfl)) (fun _ _ _ h => h) (Or.inl ⟨by rfl, ?_⟩) ?_ ?_
    rotate_left
    ·intro w'
     go_simp
     with_reducible rfl
    rotate_left
    ·simp only [Act.put, pS_, pZ_, pC_, i64_w, i32_w]
     rfl
    refine done_ (done_of HT_.out (by kernel_rfl)) ?_
    try go_wp2
    go_meet
    case rel => exact ⟨_, (false), (by rfl), H', ⟨by have := HJ5.out; omega⟩, ⟨by exact BK101.out⟩, ⟨by exact BK102.out⟩, ⟨by exact BK103.out⟩, ⟨by repeat ((with_reducible (exact HB.out)))⟩⟩
   rw [if_neg c32] at H
   have c32b0 : (t110 == t111) = false := beq_eq_false_iff_ne.mpr c32
   have c32b1 : (t110 != t111) = true := bne_iff_ne.mpr c32
   have H' := Aside0.mk H
   clear H
   try go_wp2
   have n0_ := Aside0.mk (blk_drew BK101.out)
   have n1_ := Aside0.mk (blk_drew BK102.out)
   have n2_ := Aside0.mk (blk_drew BK103.out)
   have n3_ := Aside0.mk (below_drew1 HB.out)
   clear BK101
   clear BK102
   clear BK103
   clear HB
   have BK101 := n0_
   have BK102 := n1_
   have BK103 := n2_
   have HB := n3_
   clear n0_ n1_ n2_ n3_
   refine start_ (n := 38) (S := fun w' => w'.cell? ⟨gb101, 0, none⟩ = some (.string a0_0) ∧ w'.cell? ⟨gb101, 1, none⟩ = some (.string a0_1) ∧ w'.cell? ⟨gb101, 2, none⟩ = some (.string a0_2) ∧ w'.cell? ⟨gb101, 3, none⟩ = some (.slice A0_3 l0_3.length c0_3) ∧ w'.cell? ⟨gb101, 4, none⟩ = some (.slice A0_4 l0_4.length c0_4) ∧ w'.cell? ⟨gb101, 5, none⟩ = some (.int .i64 a0_5) ∧ w'.cell? ⟨gb101, 6, none⟩ = some (.int .i64 a0_6) ∧ w'.cell? ⟨gb101, 7, none⟩ = some (.int .i64 a0_7)) (ds := []) #[false, false, false, false, false, false, false, false, false, false, false, false, false, false, false, false, false, false, false, false, false, false, false, false, false, false, false, false, false, false, false, false, false, false, false, false, false, false] (by kernel_rfl) rfl rfl ⟨(blk_cell BK101.out 0).trans rfl, (blk_cell BK101.out 1).trans rfl, (blk_cell BK101.out 2).trans rfl, (blk_cell BK101.out 3).trans rfl, (blk_cell BK101.out 4).trans rfl, (blk_cell BK101.out 5).trans rfl, (blk_cell BK101.out 6).trans rfl, (blk_cell BK101.out 7).trans rfl⟩ (fun hHeld => ?_); refine with_tabW cleanselaw04_MeasureMatchesReference.tab4 cleanselaw04_MeasureMatchesReference.bits4 (fun HT_ HW_ => ?_)
   generalize wc.drew = w50 at BK101 BK102 BK103 HB hHeld ⊢
   refine pure_ (i := 0) (N := some 29) (v := ?_) (a' := ?_) #[true, false, false, false, false, false, false, false, false, false, false, false, false, false, false, false, false, false, false, false, false, false, false, false, false, false, false, false, false, false, false, false, false, false, false, false, false, false] rfl rfl (any_of HT_.out (by kernel_rfl)) (fun _ _ _ h => h) (Or.inl ⟨by rfl, ?_⟩) ?_ ?_
   rotate_left
   ·intro w'
    go_simp
    with_reducible rfl
   rotate_left
   ·simp only [Act.put, pS_, pZ_, pC_, i64_w, i32_w]
    rfl
   refine pure_ (i := 2) (N := some 31) (v := ?_) (a' := ?_) #[true, false, true, false, false, false, false, false, false, false, false, false, false, false, false, false, false, false, false, false, false, false, false, false, false, false, false, false, false, false, false, false, false, false, false, false, false, false] rfl rfl (any_of HT_.out (by kernel_rfl)) (fun _ _ _ h => h) (Or.inl ⟨by rfl, ?_⟩) ?_ ?_
   rotate_left
   ·intro w'
    go_simp
    with_reducible rfl
   rotate_left
   ·simp only [Act.put, pS_, pZ_, pC_, i64_w, i32_w]
    rfl
   refine pure_ (i := 5) (N := some 34) (v := ?_) (a' := ?_) #[true, false, true, false, false, true, false, false, false, false, false, false, false, false, false, false, false, false, false, false, false, false, false, false, false, false, false, false, false, false, false, false, false, false, false, false, false, false] rfl rfl (any_of HT_.out (by kernel_rfl)) (fun _ _ _ h => h) (Or.inl ⟨by rfl, ?_⟩) ?_ ?_
   rotate_left
   ·intro w'
    go_simp
    with_reducible rfl
   rotate_left
   ·simp only [Act.put, pS_, pZ_, pC_, i64_w, i32_w]
    rfl
   refine pure_ (i := 7) (N := some 36) (v := ?_) (a' := ?_) #[true, false, true, false, false, true, false, true, false, false, false, false, false, false, false, false, false, false, false, false, false, false, false, false, false, false, false, false, false, false, false, false, false, false, false, false, false, false] rfl rfl (any_of HT_.out (by kernel_rfl)) (fun _ _ _ h => h) (Or.inl ⟨by rfl, ?_⟩) ?_ ?_
   rotate_left
   ·intro w'
    go_simp
    with_reducible rfl
   rotate_left
   ·simp only [Act.put, pS_, pZ_, pC_, i64_w, i32_w]
    rfl
   refine take_ (i := 1) (N := some 30) (v := ?_) (a' := ?_) #[true, true, true, false, false, true, false, true, false, false, false, false, false, false, false, false, false, false, false, false, false, false, false, false, false, false, false, false, false, false, false, false, false, false, false, false, false, false] rfl rfl (take_ofW HT_.out HW_.out (by kernel_rfl)) (fun _ _ _ h => h) (Or.inl ⟨by rfl, ?_⟩) hHeld ?_ ?_
   rotate_left
   ·rintro w' ⟨s0, s1, s2, s3, s4, s5, s6, s7⟩
    go_simp
    with_reducible rfl
   rotate_left
   ·simp only [Act.put, pS_, pZ_, pC_, i64_w, i32_w]
    rfl
   refine take_ (i := 3) (N := some 32) (v := ?_) (a' := ?_) #[true, true, true, true, false, true, false, true, false, false, false, false, false, false, false, false, false, false, false, false, false, false, false, false, false, false, false, false, false, false, false, false, false, false, false, false, false, false] rfl rfl (take_ofW HT_.out HW_.out (by kernel_rfl)) (fun _ _ _ h => h) (Or.inl ⟨by rfl, ?_⟩) hHeld ?_ ?_
   rotate_left
   ·rintro w' ⟨s0, s1, s2, s3, s4, s5, s6, s7⟩
    go_simp
    with_reducible rfl
   rotate_left
   ·simp only [Act.put, pS_, pZ_, pC_, i64_w, i32_w]
    rfl
   refine take_ (i := 6) (N := some 35) (v := ?_) (a' := ?_) #[true, true, true, true, false, true, true, true, false, false, false, false, false, false, false, false, false, false, false, false, false, false, false, false, false, false, false, false, false, false, false, false, false, false, false, false, false, false] rfl rfl (take_ofW HT_.out HW_.out (by kernel_rfl)) (fun _ _ _ h => h) (Or.inl ⟨by rfl, ?_⟩) hHeld ?_ ?_
   rotate_left
   ·rintro w' ⟨s0, s1, s2, s3, s4, s5, s6, s7⟩
    go_simp
    with_reducible rfl
   rotate_left
   ·simp only [Act.put, pS_, pZ_, pC_, i64_w, i32_w]
    rfl
   refine take_ (i := 8) (N := some 37) (v := ?_) (a' := ?_) #[true, true, true, true, false, true, true, true, true, false, false, false, false, false, false, false, false, false, false, false, false, false, false, false, false, false, false, false, false, false, false, false, false, false, false, false, false, false] rfl rfl (take_ofW HT_.out HW_.out (by kernel_rfl)) (fun _ _ _ h => h) (Or.inl ⟨by rfl, ?_⟩) hHeld ?_ ?_
   rotate_left
   ·rintro w' ⟨s0, s1, s2, s3, s4, s5, s6, s7⟩
    go_simp
    with_reducible rfl
   rotate_left
   ·simp only [Act.put, pS_, pZ_, pC_, i64_w, i32_w]
    rfl
   refine one_ (i := 4) (N := some 33) #[true, true, true, true, true, true, true, true, true, false, false, false, false, false, false, false, false, false, false, false, false, false, false, false, false, false, false, false, false, false, false, false, false, false, false, false, false, false] rfl rfl (one_of HT_.out (by kernel_rfl)) (by decide) (fun K hK => ?_)
   refine goes_ Tryd.func14 (by kernel_rfl) rfl #[.string a0_0, .string a0_1] (by rfl) rfl rfl (by (try simp only [List.map_toArray, List.map_cons, List.map_nil]); rfl) ?_
   with_reducible refine (measure_Edit.calls kj5 a0_0 a0_1 t110 _ A30.out).mono ?_
   rintro e w51 ⟨rfl, hb⟩
   refine ⟨_, rfl, ?_⟩
   have n0_ := Aside0.mk (blk_below (g := gb101) (o := .cells #[.string a0_0, .string a0_1, .string a0_2, .slice A0_3 l0_3.length c0_3, .slice A0_4 l0_4.length c0_4, .int .i64 a0_5, .int .i64 a0_6, .int .i64 a0_7] 24 (0, 0)) (by exact BK101.out) hb)
   have n1_ := Aside0.mk (blk_below (g := gb102) (o := .cells #[.int .i64 a2_0, .int .i64 a2_1, .string a2_2] 26 (0, 0)) (by exact BK102.out) hb)
   have n2_ := Aside0.mk (blk_below (g := gb103) (o := .cells #[.int .i64 a3_0, .int .i64 a3_1, .string a3_2] 26 (0, 0)) (by exact BK103.out) hb)
   have n3_ := Aside0.mk (below_step HB.out hb)
   clear BK101
   clear BK102
   clear BK103
   clear HB
   have BK101 := n0_
   have BK102 := n1_
   have BK103 := n2_
   have HB := n3_
   clear n0_ n1_ n2_ n3_
   (try clear hb)
   refine hK.out _ _ ⟨(blk_cell BK101.out 0).trans rfl, (blk_cell BK101.out 1).trans rfl, (blk_cell BK101.out 2).trans rfl, (blk_cell BK101.out 3).trans rfl, (blk_cell BK101.out 4).trans rfl, (blk_cell BK101.out 5).trans rfl, (blk_cell BK101.out 6).trans rfl, (blk_cell BK101.out 7).trans rfl⟩ (fun hHeld => ?_)
   clear hK K
   refine norm_ (a' := ?_) ?_ ?_
   rotate_left
   ·show Act.put _ (some 33) _ = _
    simp only [Act.put, pS_, pZ_, pC_, i64_w, i32_w]
    rfl
   refine one_ (i := 9) (N := some 38) #[true, true, true, true, true, true, true, true, true, true, false, false, false, false, false, false, false, false, false, false, false, false, false, false, false, false, false, false, false, false, false, false, false, false, false, false, false, false] rfl rfl (one_of HT_.out (by kernel_rfl)) (by decide) (fun K hK => ?_)
   refine goes_ Tryd.func15 (by kernel_rfl) rfl #[.string a0_0, .string a0_1] (by rfl) rfl rfl (by (try simp only [List.map_toArray, List.map_cons, List.map_nil]); rfl) ?_
   with_reducible refine (cleanseref04_Edit.calls kj5 a0_0 a0_1 t111 _ A31.out).mono ?_
   rintro e w52 ⟨rfl, hb⟩
   refine ⟨_, rfl, ?_⟩
   have n0_ := Aside0.mk (blk_below (g := gb101) (o := .cells #[.string a0_0, .string a0_1, .string a0_2, .slice A0_3 l0_3.length c0_3, .slice A0_4 l0_4.length c0_4, .int .i64 a0_5, .int .i64 a0_6, .int .i64 a0_7] 24 (0, 0)) (by exact BK101.out) hb)
   have n1_ := Aside0.mk (blk_below (g := gb102) (o := .cells #[.int .i64 a2_0, .int .i64 a2_1, .string a2_2] 26 (0, 0)) (by exact BK102.out) hb)
   have n2_ := Aside0.mk (blk_below (g := gb103) (o := .cells #[.int .i64 a3_0, .int .i64 a3_1, .string a3_2] 26 (0, 0)) (by exact BK103.out) hb)
   have n3_ := Aside0.mk (below_step HB.out hb)
   clear BK101
   clear BK102
   clear BK103
   clear HB
   have BK101 := n0_
   have BK102 := n1_
   have BK103 := n2_
   have HB := n3_
   clear n0_ n1_ n2_ n3_
   (try clear hb)
   refine hK.out _ _ ⟨(blk_cell BK101.out 0).trans rfl, (blk_cell BK101.out 1).trans rfl, (blk_cell BK101.out 2).trans rfl, (blk_cell BK101.out 3).trans rfl, (blk_cell BK101.out 4).trans rfl, (blk_cell BK101.out 5).trans rfl, (blk_cell BK101.out 6).trans rfl, (blk_cell BK101.out 7).trans rfl⟩ (fun hHeld => ?_)
   clear hK K
   refine norm_ (a' := ?_) ?_ ?_
   rotate_left
   ·show Act.put _ (some 38) _ = _
    simp only [Act.put, pS_, pZ_, pC_, i64_w, i32_w]
    rfl
   refine pure_ (i := 10) (N := some 39) (v := ?_) (a' := ?_) #[true, true, true, true, true, true, true, true, true, true, true, false, false, false, false, false, false, false, false, false, false, false, false, false, false, false, false, false, false, false, false, false, false, false, false, false, false, false] rfl rfl (any_of HT_.out (by kernel_rfl)) (fun _ _ _ h => h) (Or.inl ⟨by rfl, ?_⟩) ?_ ?_
   rotate_left
   ·intro w'
    go_simp
    with_reducible rfl
   rotate_left
   ·simp only [Act.put, pS_, pZ_, pC_, i64_w, i32_w]
    rfl
   refine pure_ (i := 11) (N := some 40) (v := ?_) (a' := ?_) #[true, true, true, true, true, true, true, true, true, true, true, true, false, false, false, false, false, false, false, false, false, false, false, false, false, false, false, false, false, false, false, false, false, false, false, false, false, false] rfl rfl (any_of HT_.out (by kernel_rfl)) (fun _ _ _ h => h) (Or.inl ⟨by rfl, ?_⟩) ?_ ?_
   rotate_left
   ·intro w'
    go_simp
    with_reducible rfl
   rotate_left
   ·simp only [Act.put, pS_, pZ_, pC_, i64_w, i32_w]
    rfl
   refine pure_ (i := 12) (N := some 41) (v := undef) (a' := ?_) #[true, true, true, true, true, true, true, true, true, true, true, true, true, false, false, false, false, false, false, false, false, false, false, false, false, false, false, false, false, false, false, false, false, false, false, false, false, false] rfl rfl (any_of HT_.out (by kernel_rfl)) (fun _ _ _ h => h) (Or.inr ⟨by rfl, rfl⟩) ?_ ?_
   rotate_left
   ·simp only [Act.put, pS_, pZ_, pC_, i64_w, i32_w]
    rfl
   refine pure_ (i := 13) (N := some 42) (v := undef) (a' := ?_) #[true, true, true, true, true, true, true, true, true, true, true, true, true, true, false, false, false, false, false, false, false, false, false, false, false, false, false, false, false, false, false, false, false, false, false, false, false, false] rfl rfl (any_of HT_.out (by kernel_rfl)) (fun _ _ _ h => h) (Or.inr ⟨by rfl, rfl⟩) ?_ ?_
   rotate_left
   ·simp only [Act.put, pS_, pZ_, pC_, i64_w, i32_w]
    rfl
   refine pure_ (i := 14) (N := some 43) (v := undef) (a' := ?_) #[true, true, true, true, true, true, true, true, true, true, true, true, true, true, true, false, false, false, false, false, false, false, false, false, false, false, false, false, false, false, false, false, false, false, false, false, false, false] rfl rfl (any_of HT_.out (by kernel_rfl)) (fun _ _ _ h => h) (Or.inr ⟨by rfl, rfl⟩) ?_ ?_
   rotate_left
   ·simp only [Act.put, pS_, pZ_, pC_, i64_w, i32_w]
    rfl
   refine pure_ (i := 15) (N := some 44) (v := undef) (a' := ?_) #[true, true, true, true, true, true, true, true, true, true, true, true, true, true, true, true, false, false, false, false, false, false, false, false, false, false, false, false, false, false, false, false, false, false, false, false, false, false] rfl rfl (any_of HT_.out (by kernel_rfl)) (fun _ _ _ h => h) (Or.inr ⟨by rfl, rfl⟩) ?_ ?_
   rotate_left
   ·simp only [Act.put, pS_, pZ_, pC_, i64_w, i32_w]
    rfl
   refine pure_ (i := 16) (N := some 45) (v := undef) (a' := ?_) #[true, true, true, true, true, true, true, true, true, true, true, true, true, true, true, true, true, false, false, false, false, false, false, false, false, false, false, false, false, false, false, false, false, false, false, false, false, false] rfl rfl (any_of HT_.out (by kernel_rfl)) (fun _ _ _ h => h) (Or.inr ⟨by rfl, rfl⟩) ?_ ?_
   rotate_left
   ·simp only [Act.put, pS_, pZ_, pC_, i64_w, i32_w]
    rfl
   refine pure_ (i := 17) (N := some 46) (v := undef) (a' := ?_) #[true, true, true, true, true, true, true, true, true, true, true, true, true, true, true, true, true, true, false, false, false, false, false, false, false, false, false, false, false, false, false, false, false, false, false, false, false, false] rfl rfl (any_of HT_.out (by kernel_rfl)) (fun _ _ _ h => h) (Or.inr ⟨by rfl, rfl⟩) ?_ ?_
   rotate_left
   ·simp only [Act.put, pS_, pZ_, pC_, i64_w, i32_w]
    rfl
   refine pure_ (i := 18) (N := some 47) (v := undef) (a' := ?_) #[true, true, true, true, true, true, true, true, true, true, true, true, true, true, true, true, true, true, true, false, false, false, false, false, false, false, false, false, false, false, false, false, false, false, false, false, false, false] rfl rfl (any_of HT_.out (by kernel_rfl)) (fun _ _ _ h => h) (Or.inr ⟨by rfl, rfl⟩) ?_ ?_
   rotate_left
   ·simp only [Act.put, pS_, pZ_, pC_, i64_w, i32_w]
    rfl
   refine pure_ (i := 19) (N := some 48) (v := undef) (a' := ?_) #[true, true, true, true, true, true, true, true, true, true, true, true, true, true, true, true, true, true, true, true, false, false, false, false, false, false, false, false, false, false, false, false, false, false, false, false, false, false] rfl rfl (any_of HT_.out (by kernel_rfl)) (fun _ _ _ h => h) (Or.inr ⟨by rfl, rfl⟩) ?_ ?_
   rotate_left
   ·simp only [Act.put, pS_, pZ_, pC_, i64_w, i32_w]
    rfl
   refine pure_ (i := 20) (N := some 49) (v := undef) (a' := ?_) #[true, true, true, true, true, true, true, true, true, true, true, true, true, true, true, true, true, true, true, true, true, false, false, false, false, false, false, false, false, false, false, false, false, false, false, false, false, false] rfl rfl (any_of HT_.out (by kernel_rfl)) (fun _ _ _ h => h) (Or.inr ⟨by rfl, rfl⟩) ?_ ?_
   rotate_left
   ·simp only [Act.put, pS_, pZ_, pC_, i64_w, i32_w]
    rfl
   refine pure_ (i := 21) (N := some 50) (v := undef) (a' := ?_) #[true, true, true, true, true, true, true, true, true, true, true, true, true, true, true, true, true, true, true, true, true, true, false, false, false, false, false, false, false, false, false, false, false, false, false, false, false, false] rfl rfl (any_of HT_.out (by kernel_rfl)) (fun _ _ _ h => h) (Or.inr ⟨by rfl, rfl⟩) ?_ ?_
   rotate_left
   ·simp only [Act.put, pS_, pZ_, pC_, i64_w, i32_w]
    rfl
   refine pure_ (i := 22) (N := some 51) (v := undef) (a' := ?_) #[true, true, true, true, true, true, true, true, true, true, true, true, true, true, true, true, true, true, true, true, true, true, true, false, false, false, false, false, false, false, false, false, false, false, false, false, false, false] rfl rfl (any_of HT_.out (by kernel_rfl)) (fun _ _ _ h => h) (Or.inr ⟨by rfl, rfl⟩) ?_ ?_
   rotate_left
   ·simp only [Act.put, pS_, pZ_, pC_, i64_w, i32_w]
    rfl
   refine pure_ (i := 23) (N := some 52) (v := ?_) (a' := ?_) #[true, true, true, true, true, true, true, true, true, true, true, true, true, true, true, true, true, true, true, true, true, true, true, true, false, false, false, false, false, false, false, false, false, false, false, false, false, false] rfl rfl (any_of HT_.out (by kernel_rfl)) (fun _ _ _ h => h) (Or.inl ⟨by rfl, ?_⟩) ?_ ?_
   rotate_left
   ·intro w'
    go_simp
    with_reducible rfl
   rotate_left
   ·simp only [Act.put, pS_, pZ_, pC_, i64_w, i32_w]
    rfl
   refine pure_ (i := 24) (N := some 53) (v := ?_) (a' := ?_) #[true, true, true, true, true, true, true, true, true, true, true, true, true, true, true, true, true, true, true, true, true, true, true, true, true, false, false, false, false, false, false, false, false, false, false, false, false, false] rfl rfl (any_of HT_.out (by kernel_rfl)) (fun _ _ _ h => h) (Or.inl ⟨by rfl, ?_⟩) ?_ ?_
   rotate_left
   ·intro w'
    go_simp
    with_reducible rfl
   rotate_left
   ·simp only [Act.put, pS_, pZ_, pC_, i64_w, i32_w]
    rfl
   refine pure_ (i := 25) (N := some 54) (v := undef) (a' := ?_) #[true, true, true, true, true, true, true, true, true, true, true, true, true, true, true, true, true, true, true, true, true, true, true, true, true, true, false, false, false, false, false, false, false, false, false, false, false, false] rfl rfl (any_of HT_.out (by kernel_rfl)) (fun _ _ _ h => h) (Or.inr ⟨by rfl, rfl⟩) ?_ ?_
   rotate_left
   ·simp only [Act.put, pS_, pZ_, pC_, i64_w, i32_w]
    rfl
   refine pure_ (i := 26) (N := some 55) (v := undef) (a' := ?_) #[true, true, true, true, true, true, true, true, true, true, true, true, true, true, true, true, true, true, true, true, true, true, true, true, true, true, true, false, false, false, false, false, false, false, false, false, false, false] rfl rfl (any_of HT_.out (by kernel_rfl)) (fun _ _ _ h => h) (Or.inr ⟨by rfl, rfl⟩) ?_ ?_
   rotate_left
   ·simp only [Act.put, pS_, pZ_, pC_, i64_w, i32_w]
    rfl
   refine pure_ (i := 27) (N := some 56) (v := undef) (a' := ?_) #[true, true, true, true, true, true, true, true, true, true, true, true, true, true, true, true, true, true, true, true, true, true, true, true, true, true, true, true, false, false, false, false, false, false, false, false, false, false] rfl rfl (any_of HT_.out (by kernel_rfl)) (fun _ _ _ h => h) (Or.inr ⟨by rfl, rfl⟩) ?_ ?_
   rotate_left
   ·simp only [Act.put, pS_, pZ_, pC_, i64_w, i32_w]
    rfl
   refine pure_ (i := 28) (N := some 57) (v := undef) (a' := ?_) #[true, true, true, true, true, true, true, true, true, true, true, true, true, true, true, true, true, true, true, true, true, true, true, true, true, true, true, true, true, false, false, false, false, false, false, false, false, false] rfl rfl (any_of HT_.out (by kernel_rfl)) (fun _ _ _ h => h) (Or.inr ⟨by rfl, rfl⟩) ?_ ?_
   rotate_left
   ·simp only [Act.put, pS_, pZ_, pC_, i64_w, i32_w]
    rfl
   refine pure_ (i := 29) (N := some 58) (v := undef) (a' := ?_) #[true, true, true, true, true, true, true, true, true, true, true, true, true, true, true, true, true, true, true, true, true, true, true, true, true, true, true, true, true, true, false, false, false, false, false, false, false, false] rfl rfl (any_of HT_.out (by kernel_rfl)) (fun _ _ _ h => h) (Or.inr ⟨by rfl, rfl⟩) ?_ ?_
   rotate_left
   ·simp only [Act.put, pS_, pZ_, pC_, i64_w, i32_w]
    rfl
   refine pure_ (i := 30) (N := some 59) (v := undef) (a' := ?_) #[true, true, true, true, true, true, true, true, true, true, true, true, true, true, true, true, true, true, true, true, true, true, true, true, true, true, true, true, true, true, true, false, false, false, false, false, false, false] rfl rfl (any_of HT_.out (by kernel_rfl)) (fun _ _ _ h => h) (Or.inr ⟨by rfl, rfl⟩) ?_ ?_
   rotate_left
   ·simp only [Act.put, pS_, pZ_, pC_, i64_w, i32_w]
    rfl
   refine pure_ (i := 31) (N := some 60) (v := undef) (a' := ?_) #[true, true, true, true, true, true, true, true, true, true, true, true, true, true, true, true, true, true, true, true, true, true, true, true, true, true, true, true, true, true, true, true, false, false, false, false, false, false] rfl rfl (any_of HT_.out (by kernel_rfl)) (fun _ _ _ h => h) (Or.inr ⟨by rfl, rfl⟩) ?_ ?_
   rotate_left
   ·simp only [Act.put, pS_, pZ_, pC_, i64_w, i32_w]
    rfl
   refine pure_ (i := 32) (N := some 61) (v := undef) (a' := ?_) #[true, true, true, true, true, true, true, true, true, true, true, true, true, true, true, true, true, true, true, true, true, true, true, true, true, true, true, true, true, true, true, true, true, false, false, false, false, false] rfl rfl (any_of HT_.out (by kernel_rfl)) (fun _ _ _ h => h) (Or.inr ⟨by rfl, rfl⟩) ?_ ?_
   rotate_left
   ·simp only [Act.put, pS_, pZ_, pC_, i64_w, i32_w]
    rfl
   refine pure_ (i := 33) (N := some 62) (v := undef) (a' := ?_) #[true, true, true, true, true, true, true, true, true, true, true, true, true, true, true, true, true, true, true, true, true, true, true, true, true, true, true, true, true, true, true, true, true, true, false, false, false, false] rfl rfl (any_of HT_.out (by kernel_rfl)) (fun _ _ _ h => h) (Or.inr ⟨by rfl, rfl⟩) ?_ ?_
   rotate_left
   ·simp only [Act.put, pS_, pZ_, pC_, i64_w, i32_w]
    rfl
   refine pure_ (i := 34) (N := some 63) (v := undef) (a' := ?_) #[true, true, true, true, true, true, true, true, true, true, true, true, true, true, true, true, true, true, true, true, true, true, true, true, true, true, true, true, true, true, true, true, true, true, true, false, false, false] rfl rfl (any_of HT_.out (by kernel_rfl)) (fun _ _ _ h => h) (Or.inr ⟨by rfl, rfl⟩) ?_ ?_
   rotate_left
   ·simp only [Act.put, pS_, pZ_, pC_, i64_w, i32_w]
    rfl
   refine pure_ (i := 35) (N := some 64) (v := undef) (a' := ?_) #[true, true, true, true, true, true, true, true, true, true, true, true, true, true, true, true, true, true, true, true, true, true, true, true, true, true, true, true, true, true, true, true, true, true, true, true, false, false] rfl rfl (any_of HT_.out (by kernel_rfl)) (fun _ _ _ h => h) (Or.inr ⟨by rfl, rfl⟩) ?_ ?_
   rotate_left
   ·simp only [Act.put, pS_, pZ_, pC_, i64_w, i32_w]
    rfl
   refine pure_ (i := 36) (N := some 65) (v := ?_) (a' := ?_) #[true, true, true, true, true, true, true, true, true, true, true, true, true, true, true, true, true, true, true, true, true, true, true, true, true, true, true, true, true, true, true, true, true, true, true, true, true, false] rfl rfl (any_of HT_.out (by kernel_rfl)) (fun _ _ _ h => h) (Or.inl ⟨by rfl, ?_⟩) ?_ ?_
   rotate_left
   ·intro w'
    go_simp
    with_reducible rfl
   rotate_left
   ·simp only [Act.put, pS_, pZ_, pC_, i64_w, i32_w]
    rfl
   refine pure_ (i := 37) (N := some 10) (v := ?_) (a' := ?_) #[true, true, true, true, true, true, true, true, true, true, true, true, true, true, true, true, true, true, true, true, true, true, true, true, true, true, true, true, true, true, true, true, true, true, true, true, true, true] rfl rfl (any_of HT_.out (by kernel_rfl)) (fun _ _ _ h => h) (Or.inl ⟨by rfl, ?_⟩) ?_ ?_
   rotate_left
   ·intro w'
    go_simp
    with_reducible rfl
   rotate_left
   ·simp only [Act.put, pS_, pZ_, pC_, i64_w, i32_w]
    rfl
   refine done_ (done_of HT_.out (by kernel_rfl)) ?_
   try go_wp2
   go_meet
   case rel => exact ⟨_, (false), (by rfl), H', ⟨by have := HJ5.out; omega⟩, ⟨by exact BK101.out⟩, ⟨by exact BK102.out⟩, ⟨by exact BK103.out⟩, ⟨by repeat ((with_reducible (exact HB.out)))⟩⟩
  clear HC29
  obtain ⟨kq, x10_28, rfl, HA, HJ28, BK101, BK102, BK103, HB⟩ := hcut
  cases kq with
  | zero => exact absurd HA.out (by simp [cleanselaw04_MeasureMatchesReference.j1])
  | succ kj28 =>
   have H := HA.out
   clear HA
   simp only [cleanselaw04_MeasureMatchesReference.j1] at H
   replace H := Option.bind_eq_some_iff.mp H
   obtain ⟨⟨t120, t121, t122⟩, A530, H⟩ := H
   replace H : ((cleanseref04_Of.f kj28 a1 a0_7 a2_0 a2_1 a2_2 a3_0 a3_1 a3_2).bind fun bt124 => (if t104 = true then (if x10_28 = true then ((measure_Jaro.f kj28 a0_0 a0_1).bind fun bt128 => ((cleanseref04_Jaro.f kj28 a0_0 a0_1).bind fun bt130 => (if (bt128.1 == bt130.1 && (bt128.2 == bt130.2)) = true then ((measure_Near.f kj28 a0_5 a0_6 a0_7).bind fun bt132 => ((cleanseref04_Near.f kj28 a0_5 a0_6 a0_7).bind fun bt134 => (if (bt132.1 == bt134.1 && (bt132.2 == bt134.2)) = true then (if (t120 == bt124.1 && (t121 == bt124.2.1)) = true then (some (t122 == bt124.2.2)) else (some false)) else (some false)))) else (some false)))) else (some false)) else (some false))) = some r := H
   have A53 := Aside0.mk A530
   clear A530
   replace H := Option.bind_eq_some_iff.mp H
   obtain ⟨⟨t124, t125, t126⟩, A540, H⟩ := H
   replace H : (if t104 = true then (if x10_28 = true then ((measure_Jaro.f kj28 a0_0 a0_1).bind fun bt128 => ((cleanseref04_Jaro.f kj28 a0_0 a0_1).bind fun bt130 => (if (bt128.1 == bt130.1 && (bt128.2 == bt130.2)) = true then ((measure_Near.f kj28 a0_5 a0_6 a0_7).bind fun bt132 => ((cleanseref04_Near.f kj28 a0_5 a0_6 a0_7).bind fun bt134 => (if (bt132.1 == bt134.1 && (bt132.2 == bt134.2)) = true then (if (t120 == t124 && (t121 == t125)) = true then (some (t122 == t126)) else (some false)) else (some false)))) else (some false)))) else (some false)) else (some false)) = some r := H
   have A54 := Aside0.mk A540
   clear A540
   by_cases c55 : t104 = true
   ·subst c55
    have H1 : (if x10_28 = true then ((measure_Jaro.f kj28 a0_0 a0_1).bind fun bt128 => ((cleanseref04_Jaro.f kj28 a0_0 a0_1).bind fun bt130 => (if (bt128.1 == bt130.1 && (bt128.2 == bt130.2)) = true then ((measure_Near.f kj28 a0_5 a0_6 a0_7).bind fun bt132 => ((cleanseref04_Near.f kj28 a0_5 a0_6 a0_7).bind fun bt134 => (if (bt132.1 == bt134.1 && (bt132.2 == bt134.2)) = true then (if (t120 == t124 && (t121 == t125)) = true then (some (t122 == t126)) else (some false)) else (some false)))) else (some false)))) else (some false)) = some r := by rw [if_pos rfl] at H; exact H
    clear H
    have H := H1
    clear H1
    by_cases c56 : x10_28 = true
    ·subst c56
     have H1 : ((measure_Jaro.f kj28 a0_0 a0_1).bind fun bt128 => ((cleanseref04_Jaro.f kj28 a0_0 a0_1).bind fun bt130 => (if (bt128.1 == bt130.1 && (bt128.2 == bt130.2)) = true then ((measure_Near.f kj28 a0_5 a0_6 a0_7).bind fun bt132 => ((cleanseref04_Near.f kj28 a0_5 a0_6 a0_7).bind fun bt134 => (if (bt132.1 == bt134.1 && (bt132.2 == bt134.2)) = true then (if (t120 == t124 && (t121 == t125)) = true then (some (t122 == t126)) else (some false)) else (some false)))) else (some false)))) = some r := by rw [if_pos rfl] at H; exact H
     clear H
     have H := H1
     clear H1
     replace H := Option.bind_eq_some_iff.mp H
     obtain ⟨⟨t128, t129⟩, A570, H⟩ := H
     replace H : ((cleanseref04_Jaro.f kj28 a0_0 a0_1).bind fun bt130 => (if (t128 == bt130.1 && (t129 == bt130.2)) = true then ((measure_Near.f kj28 a0_5 a0_6 a0_7).bind fun bt132 => ((cleanseref04_Near.f kj28 a0_5 a0_6 a0_7).bind fun bt134 => (if (bt132.1 == bt134.1 && (bt132.2 == bt134.2)) = true then (if (t120 == t124 && (t121 == t125)) = true then (some (t122 == t126)) else (some false)) else (some false)))) else (some false))) = some r := H
     have A57 := Aside0.mk A570
     clear A570
     replace H := Option.bind_eq_some_iff.mp H
     obtain ⟨⟨t130, t131⟩, A580, H⟩ := H
     replace H : (if (t128 == t130 && (t129 == t131)) = true then ((measure_Near.f kj28 a0_5 a0_6 a0_7).bind fun bt132 => ((cleanseref04_Near.f kj28 a0_5 a0_6 a0_7).bind fun bt134 => (if (bt132.1 == bt134.1 && (bt132.2 == bt134.2)) = true then (if (t120 == t124 && (t121 == t125)) = true then (some (t122 == t126)) else (some false)) else (some false)))) else (some false)) = some r := H
     have A58 := Aside0.mk A580
     clear A580
     by_cases c59 : (t128 == t130 && (t129 == t131)) = true
     ·rw [if_pos c59] at H
      have c59b0 : (t128 == t130 && (t129 == t131)) = true := c59
      (try (have c59b1 : decide (t128 = t130 && (t129 == t131)) = true := by simpa using c59))
      (try (have c59b2 : (t128 == t130 && (t129 == t131)) = true := by simpa using c59))
      clear c59
      replace H := Option.bind_eq_some_iff.mp H
      obtain ⟨⟨t132, t133⟩, A600, H⟩ := H
      replace H : ((cleanseref04_Near.f kj28 a0_5 a0_6 a0_7).bind fun bt134 => (if (t132 == bt134.1 && (t133 == bt134.2)) = true then (if (t120 == t124 && (t121 == t125)) = true then (some (t122 == t126)) else (some false)) else (some false))) = some r := H
      have A60 := Aside0.mk A600
      clear A600
      replace H := Option.bind_eq_some_iff.mp H
      obtain ⟨⟨t134, t135⟩, A610, H⟩ := H
      replace H : (if (t132 == t134 && (t133 == t135)) = true then (if (t120 == t124 && (t121 == t125)) = true then (some (t122 == t126)) else (some false)) else (some false)) = some r := H
      have A61 := Aside0.mk A610
      clear A610
      by_cases c62 : (t132 == t134 && (t133 == t135)) = true
      ·rw [if_pos c62] at H
       have c62b0 : (t132 == t134 && (t133 == t135)) = true := c62
       (try (have c62b1 : decide (t132 = t134 && (t133 == t135)) = true := by simpa using c62))
       (try (have c62b2 : (t132 == t134 && (t133 == t135)) = true := by simpa using c62))
       clear c62
       by_cases c63 : (t120 == t124 && (t121 == t125)) = true
       ·rw [if_pos c63] at H
        have c63b0 : (t120 == t124 && (t121 == t125)) = true := c63
        (try (have c63b1 : decide (t120 = t124 && (t121 == t125)) = true := by simpa using c63))
        (try (have c63b2 : (t120 == t124 && (t121 == t125)) = true := by simpa using c63))
        clear c63
        obtain rfl := Option.some.inj H
        have hnb64 := NB101_102.out
        have hnc64 := NB102_101.out
        have hnb65 := NB101_103.out
        have hnc65 := NB103_101.out
        have hcz66_0 := cel_ BK101.out 0 rfl
        have hcz66_1 := cel_ BK101.out 1 rfl
        have hcz66_2 := cel_ BK101.out 2 rfl
        have hcz66_3 := cel_ BK101.out 3 rfl
        have hcz66_4 := cel_ BK101.out 4 rfl
        have hcz66_5 := cel_ BK101.out 5 rfl
        have hcz66_6 := cel_ BK101.out 6 rfl
        have hcz66_7 := cel_ BK101.out 7 rfl
        have hfz66_0 := blk_frozen BK101.out 0
        have hfz66_1 := blk_frozen BK101.out 1
        have hfz66_2 := blk_frozen BK101.out 2
        have hfz66_3 := blk_frozen BK101.out 3
        have hfz66_4 := blk_frozen BK101.out 4
        have hfz66_5 := blk_frozen BK101.out 5
        have hfz66_6 := blk_frozen BK101.out 6
        have hfz66_7 := blk_frozen BK101.out 7
        have hnb67 := NB102_103.out
        have hnc67 := NB103_102.out
        have hcz68_0 := cel_ BK102.out 0 rfl
        have hcz68_1 := cel_ BK102.out 1 rfl
        have hcz68_2 := cel_ BK102.out 2 rfl
        have hfz68_0 := blk_frozen BK102.out 0
        have hfz68_1 := blk_frozen BK102.out 1
        have hfz68_2 := blk_frozen BK102.out 2
        have hcz69_0 := cel_ BK103.out 0 rfl
        have hcz69_1 := cel_ BK103.out 1 rfl
        have hcz69_2 := cel_ BK103.out 2 rfl
        have hfz69_0 := blk_frozen BK103.out 0
        have hfz69_1 := blk_frozen BK103.out 1
        have hfz69_2 := blk_frozen BK103.out 2
        try go_wp2_with (first | ((with_reducible refine gate_callee (f := 20) rfl ?_); refine goesL_ (some 72) rfl rfl Tryd.func20 (by kernel_rfl) rfl #[.int .i64 a1, .int .i64 a0_7, .agg #[.int .i64 a2_0, .int .i64 a2_1, .string a2_2], .agg #[.int .i64 a3_0, .int .i64 a3_1, .string a3_2]] rfl (by (try simp only [List.map_toArray, List.map_cons, List.map_nil]); rfl) ?_; (with_reducible refine (measure_Of.calls kj28 a1 a0_7 a2_0 a2_1 a2_2 a3_0 a3_1 a3_2 t120 t121 t122 _ ?sGl A53.out).mono ?_); (case sGl => exact Gl.below HGl.out HB.out); rintro e w70 ⟨rfl, hb⟩; refine ⟨_, rfl, ?_⟩; have n0_ := Aside0.mk (blk_below (g := gb101) (o := .cells #[.string a0_0, .string a0_1, .string a0_2, .slice A0_3 l0_3.length c0_3, .slice A0_4 l0_4.length c0_4, .int .i64 a0_5, .int .i64 a0_6, .int .i64 a0_7] 24 (0, 0)) (by exact BK101.out) hb); have n1_ := Aside0.mk (blk_below (g := gb102) (o := .cells #[.int .i64 a2_0, .int .i64 a2_1, .string a2_2] 26 (0, 0)) (by exact BK102.out) hb); have n2_ := Aside0.mk (blk_below (g := gb103) (o := .cells #[.int .i64 a3_0, .int .i64 a3_1, .string a3_2] 26 (0, 0)) (by exact BK103.out) hb); have n3_ := Aside0.mk (below_step HB.out hb); clear BK101; clear BK102; clear BK103; clear HB; have BK101 := n0_; have BK102 := n1_; have BK103 := n2_; have HB := n3_; clear n0_ n1_ n2_ n3_; (try clear hb)) | ((with_reducible refine gate_dst (N := 11) rfl ?_); (try (refine gate_guard (by rfl) ?_; dsimp only)); refine box_event ?hg (N := 11) ?hd (cs := #[.int .i64 0, .int .i64 0]) (t := 32) ?hr ?_; (case hd => rfl); (case hg => rfl); (case hr => (go_simp; done)); intro gb123 hg w71 hbox hb; have n0_ := Aside0.mk (blk_below (g := gb101) (o := .cells #[.string a0_0, .string a0_1, .string a0_2, .slice A0_3 l0_3.length c0_3, .slice A0_4 l0_4.length c0_4, .int .i64 a0_5, .int .i64 a0_6, .int .i64 a0_7] 24 (0, 0)) (by exact BK101.out) hb); have n1_ := Aside0.mk (blk_below (g := gb102) (o := .cells #[.int .i64 a2_0, .int .i64 a2_1, .string a2_2] 26 (0, 0)) (by exact BK102.out) hb); have n2_ := Aside0.mk (blk_below (g := gb103) (o := .cells #[.int .i64 a3_0, .int .i64 a3_1, .string a3_2] 26 (0, 0)) (by exact BK103.out) hb); have n3_ := Aside0.mk (below_step HB.out hb); have n4_ := Aside0.mk (hbox); have n5_ := Aside0.mk ((by rw [hg]; exact (below_size HB.out) : w.heap.size ≤ gb123)); have n6_ := Aside0.mk ((by rw [hg]; exact (below_size HB.out) : w.heap.size ≤ gb123)); have n7_ := Aside0.mk ((by rw [hg]; exact Nat.ne_of_lt (blk_lt (g := gb101) (o := .cells #[.string a0_0, .string a0_1, .string a0_2, .slice A0_3 l0_3.length c0_3, .slice A0_4 l0_4.length c0_4, .int .i64 a0_5, .int .i64 a0_6, .int .i64 a0_7] 24 (0, 0)) (by exact BK101.out)) : gb101 ≠ gb123)); have n8_ := Aside0.mk ((by rw [hg]; exact Nat.ne_of_gt (blk_lt (g := gb101) (o := .cells #[.string a0_0, .string a0_1, .string a0_2, .slice A0_3 l0_3.length c0_3, .slice A0_4 l0_4.length c0_4, .int .i64 a0_5, .int .i64 a0_6, .int .i64 a0_7] 24 (0, 0)) (by exact BK101.out)) : gb123 ≠ gb101)); have n9_ := Aside0.mk ((by rw [hg]; exact Nat.ne_of_lt (blk_lt (g := gb102) (o := .cells #[.int .i64 a2_0, .int .i64 a2_1, .string a2_2] 26 (0, 0)) (by exact BK102.out)) : gb102 ≠ gb123)); have n10_ := Aside0.mk ((by rw [hg]; exact Nat.ne_of_gt (blk_lt (g := gb102) (o := .cells #[.int .i64 a2_0, .int .i64 a2_1, .string a2_2] 26 (0, 0)) (by exact BK102.out)) : gb123 ≠ gb102)); have n11_ := Aside0.mk ((by rw [hg]; exact Nat.ne_of_lt (blk_lt (g := gb103) (o := .cells #[.int .i64 a3_0, .int .i64 a3_1, .string a3_2] 26 (0, 0)) (by exact BK103.out)) : gb103 ≠ gb123)); have n12_ := Aside0.mk ((by rw [hg]; exact Nat.ne_of_gt (blk_lt (g := gb103) (o := .cells #[.int .i64 a3_0, .int .i64 a3_1, .string a3_2] 26 (0, 0)) (by exact BK103.out)) : gb123 ≠ gb103)); clear BK101; clear BK102; clear BK103; clear HB; have BK101 := n0_; have BK102 := n1_; have BK103 := n2_; have HB := n3_; have BK123 := n4_; have GW123 := n5_; have GE123 := n6_; have NB101_123 := n7_; have NB123_101 := n8_; have NB102_123 := n9_; have NB123_102 := n10_; have NB103_123 := n11_; have NB123_103 := n12_; clear n0_ n1_ n2_ n3_ n4_ n5_ n6_ n7_ n8_ n9_ n10_ n11_ n12_; clear hb hbox hg; have hnb72 := NB123_101.out; have hnc72 := NB101_123.out; have hnb73 := NB123_102.out; have hnc73 := NB102_123.out; have hnb74 := NB123_103.out; have hnc74 := NB103_123.out; have hcz75_0 := cel_ BK123.out 0 rfl; have hcz75_1 := cel_ BK123.out 1 rfl; have hfz75_0 := blk_frozen BK123.out 0; have hfz75_1 := blk_frozen BK123.out 1; have hcz76_0 := cel_ BK101.out 0 rfl; have hcz76_1 := cel_ BK101.out 1 rfl; have hcz76_2 := cel_ BK101.out 2 rfl; have hcz76_3 := cel_ BK101.out 3 rfl; have hcz76_4 := cel_ BK101.out 4 rfl; have hcz76_5 := cel_ BK101.out 5 rfl; have hcz76_6 := cel_ BK101.out 6 rfl; have hcz76_7 := cel_ BK101.out 7 rfl; have hfz76_0 := blk_frozen BK101.out 0; have hfz76_1 := blk_frozen BK101.out 1; have hfz76_2 := blk_frozen BK101.out 2; have hfz76_3 := blk_frozen BK101.out 3; have hfz76_4 := blk_frozen BK101.out 4; have hfz76_5 := blk_frozen BK101.out 5; have hfz76_6 := blk_frozen BK101.out 6; have hfz76_7 := blk_frozen BK101.out 7; have hcz77_0 := cel_ BK102.out 0 rfl; have hcz77_1 := cel_ BK102.out 1 rfl; have hcz77_2 := cel_ BK102.out 2 rfl; have hfz77_0 := blk_frozen BK102.out 0; have hfz77_1 := blk_frozen BK102.out 1; have hfz77_2 := blk_frozen BK102.out 2; have hcz78_0 := cel_ BK103.out 0 rfl; have hcz78_1 := cel_ BK103.out 1 rfl; have hcz78_2 := cel_ BK103.out 2 rfl; have hfz78_0 := blk_frozen BK103.out 0; have hfz78_1 := blk_frozen BK103.out 1; have hfz78_2 := blk_frozen BK103.out 2) | ((with_reducible refine gate_callee (f := 21) rfl ?_); refine goesL_ (some 81) rfl rfl Tryd.func21 (by kernel_rfl) rfl #[.int .i64 a1, .int .i64 a0_7, .agg #[.int .i64 a2_0, .int .i64 a2_1, .string a2_2], .agg #[.int .i64 a3_0, .int .i64 a3_1, .string a3_2]] rfl (by (try simp only [List.map_toArray, List.map_cons, List.map_nil]); rfl) ?_; (with_reducible refine (cleanseref04_Of.calls kj28 a1 a0_7 a2_0 a2_1 a2_2 a3_0 a3_1 a3_2 t124 t125 t126 _ A54.out).mono ?_); rintro e w79 ⟨rfl, hb⟩; refine ⟨_, rfl, ?_⟩; have n0_ := Aside0.mk (blk_below (g := gb101) (o := .cells #[.string a0_0, .string a0_1, .string a0_2, .slice A0_3 l0_3.length c0_3, .slice A0_4 l0_4.length c0_4, .int .i64 a0_5, .int .i64 a0_6, .int .i64 a0_7] 24 (0, 0)) (by refine blk_far ?_ NB101_123.out _; refine blk_far ?_ NB101_123.out _; exact BK101.out) hb); have n1_ := Aside0.mk (blk_below (g := gb102) (o := .cells #[.int .i64 a2_0, .int .i64 a2_1, .string a2_2] 26 (0, 0)) (by refine blk_far ?_ NB102_123.out _; refine blk_far ?_ NB102_123.out _; exact BK102.out) hb); have n2_ := Aside0.mk (blk_below (g := gb103) (o := .cells #[.int .i64 a3_0, .int .i64 a3_1, .string a3_2] 26 (0, 0)) (by refine blk_far ?_ NB103_123.out _; refine blk_far ?_ NB103_123.out _; exact BK103.out) hb); have n3_ := Aside0.mk (blk_below (g := gb123) (o := .cells #[.int .i64 t120, .int .i64 t121] 32 (0, 0)) (by refine blk_put (cs := #[.int .i64 t120, .int .i64 0]) ?_ 1 _ rfl; refine blk_put (cs := #[.int .i64 0, .int .i64 0]) ?_ 0 _ rfl; exact BK123.out) hb); have n4_ := Aside0.mk (below_step (by repeat ((with_reducible first | exact HB.out | refine below_set ?_ GE123.out))) hb); clear BK101; clear BK102; clear BK103; clear BK123; clear HB; have BK101 := n0_; have BK102 := n1_; have BK103 := n2_; have BK123 := n3_; have HB := n4_; clear n0_ n1_ n2_ n3_ n4_; (try clear hb)) | ((with_reducible refine gate_dst (N := 13) rfl ?_); (try (refine gate_guard (by rfl) ?_; dsimp only)); refine box_event ?hg (N := 13) ?hd (cs := #[.int .i64 0, .int .i64 0]) (t := 32) ?hr ?_; (case hd => rfl); (case hg => rfl); (case hr => (go_simp; done)); intro gb127 hg w80 hbox hb; have n0_ := Aside0.mk (blk_below (g := gb101) (o := .cells #[.string a0_0, .string a0_1, .string a0_2, .slice A0_3 l0_3.length c0_3, .slice A0_4 l0_4.length c0_4, .int .i64 a0_5, .int .i64 a0_6, .int .i64 a0_7] 24 (0, 0)) (by exact BK101.out) hb); have n1_ := Aside0.mk (blk_below (g := gb102) (o := .cells #[.int .i64 a2_0, .int .i64 a2_1, .string a2_2] 26 (0, 0)) (by exact BK102.out) hb); have n2_ := Aside0.mk (blk_below (g := gb103) (o := .cells #[.int .i64 a3_0, .int .i64 a3_1, .string a3_2] 26 (0, 0)) (by exact BK103.out) hb); have n3_ := Aside0.mk (blk_below (g := gb123) (o := .cells #[.int .i64 t120, .int .i64 t121] 32 (0, 0)) (by exact BK123.out) hb); have n4_ := Aside0.mk (below_step HB.out hb); have n5_ := Aside0.mk (hbox); have n6_ := Aside0.mk ((by rw [hg]; exact (below_size HB.out) : w.heap.size ≤ gb127)); have n7_ := Aside0.mk ((by rw [hg]; exact (below_size HB.out) : w.heap.size ≤ gb127)); have n8_ := Aside0.mk ((by rw [hg]; exact Nat.ne_of_lt (blk_lt (g := gb101) (o := .cells #[.string a0_0, .string a0_1, .string a0_2, .slice A0_3 l0_3.length c0_3, .slice A0_4 l0_4.length c0_4, .int .i64 a0_5, .int .i64 a0_6, .int .i64 a0_7] 24 (0, 0)) (by exact BK101.out)) : gb101 ≠ gb127)); have n9_ := Aside0.mk ((by rw [hg]; exact Nat.ne_of_gt (blk_lt (g := gb101) (o := .cells #[.string a0_0, .string a0_1, .string a0_2, .slice A0_3 l0_3.length c0_3, .slice A0_4 l0_4.length c0_4, .int .i64 a0_5, .int .i64 a0_6, .int .i64 a0_7] 24 (0, 0)) (by exact BK101.out)) : gb127 ≠ gb101)); have n10_ := Aside0.mk ((by rw [hg]; exact Nat.ne_of_lt (blk_lt (g := gb102) (o := .cells #[.int .i64 a2_0, .int .i64 a2_1, .string a2_2] 26 (0, 0)) (by exact BK102.out)) : gb102 ≠ gb127)); have n11_ := Aside0.mk ((by rw [hg]; exact Nat.ne_of_gt (blk_lt (g := gb102) (o := .cells #[.int .i64 a2_0, .int .i64 a2_1, .string a2_2] 26 (0, 0)) (by exact BK102.out)) : gb127 ≠ gb102)); have n12_ := Aside0.mk ((by rw [hg]; exact Nat.ne_of_lt (blk_lt (g := gb103) (o := .cells #[.int .i64 a3_0, .int .i64 a3_1, .string a3_2] 26 (0, 0)) (by exact BK103.out)) : gb103 ≠ gb127)); have n13_ := Aside0.mk ((by rw [hg]; exact Nat.ne_of_gt (blk_lt (g := gb103) (o := .cells #[.int .i64 a3_0, .int .i64 a3_1, .string a3_2] 26 (0, 0)) (by exact BK103.out)) : gb127 ≠ gb103)); have n14_ := Aside0.mk ((by rw [hg]; exact Nat.ne_of_lt (blk_lt (g := gb123) (o := .cells #[.int .i64 t120, .int .i64 t121] 32 (0, 0)) (by exact BK123.out)) : gb123 ≠ gb127)); have n15_ := Aside0.mk ((by rw [hg]; exact Nat.ne_of_gt (blk_lt (g := gb123) (o := .cells #[.int .i64 t120, .int .i64 t121] 32 (0, 0)) (by exact BK123.out)) : gb127 ≠ gb123)); clear BK101; clear BK102; clear BK103; clear BK123; clear HB; have BK101 := n0_; have BK102 := n1_; have BK103 := n2_; have BK123 := n3_; have HB := n4_; have BK127 := n5_; have GW127 := n6_; have GE127 := n7_; have NB101_127 := n8_; have NB127_101 := n9_; have NB102_127 := n10_; have NB127_102 := n11_; have NB103_127 := n12_; have NB127_103 := n13_; have NB123_127 := n14_; have NB127_123 := n15_; clear n0_ n1_ n2_ n3_ n4_ n5_ n6_ n7_ n8_ n9_ n10_ n11_ n12_ n13_ n14_ n15_; clear hb hbox hg; have hnb81 := NB127_101.out; have hnc81 := NB101_127.out; have hnb82 := NB127_102.out; have hnc82 := NB102_127.out; have hnb83 := NB127_103.out; have hnc83 := NB103_127.out; have hnb84 := NB127_123.out; have hnc84 := NB123_127.out; have hcz85_0 := cel_ BK127.out 0 rfl; have hcz85_1 := cel_ BK127.out 1 rfl; have hfz85_0 := blk_frozen BK127.out 0; have hfz85_1 := blk_frozen BK127.out 1))
        have n0_ : Aside0 (((w80.setCell ⟨gb127, 0, none⟩ (.int .i64 t124)).setCell ⟨gb127, 1, none⟩ (.int .i64 t125)).heap[gb101]? = some (.cells #[.string a0_0, .string a0_1, .string a0_2, .slice A0_3 l0_3.length c0_3, .slice A0_4 l0_4.length c0_4, .int .i64 a0_5, .int .i64 a0_6, .int .i64 a0_7] 24 (0, 0))) := ⟨by refine blk_far ?_ NB101_127.out _; refine blk_far ?_ NB101_127.out _; exact BK101.out⟩
        have n1_ : Aside0 (((w80.setCell ⟨gb127, 0, none⟩ (.int .i64 t124)).setCell ⟨gb127, 1, none⟩ (.int .i64 t125)).heap[gb102]? = some (.cells #[.int .i64 a2_0, .int .i64 a2_1, .string a2_2] 26 (0, 0))) := ⟨by refine blk_far ?_ NB102_127.out _; refine blk_far ?_ NB102_127.out _; exact BK102.out⟩
        have n2_ : Aside0 (((w80.setCell ⟨gb127, 0, none⟩ (.int .i64 t124)).setCell ⟨gb127, 1, none⟩ (.int .i64 t125)).heap[gb103]? = some (.cells #[.int .i64 a3_0, .int .i64 a3_1, .string a3_2] 26 (0, 0))) := ⟨by refine blk_far ?_ NB103_127.out _; refine blk_far ?_ NB103_127.out _; exact BK103.out⟩
        have n3_ : Aside0 (((w80.setCell ⟨gb127, 0, none⟩ (.int .i64 t124)).setCell ⟨gb127, 1, none⟩ (.int .i64 t125)).heap[gb123]? = some (.cells #[.int .i64 t120, .int .i64 t121] 32 (0, 0))) := ⟨by refine blk_far ?_ NB123_127.out _; refine blk_far ?_ NB123_127.out _; exact BK123.out⟩
        have n4_ : Aside0 (((w80.setCell ⟨gb127, 0, none⟩ (.int .i64 t124)).setCell ⟨gb127, 1, none⟩ (.int .i64 t125)).heap[gb127]? = some (.cells #[.int .i64 t124, .int .i64 t125] 32 (0, 0))) := ⟨by refine blk_put (cs := #[.int .i64 t124, .int .i64 0]) ?_ 1 _ rfl; refine blk_put (cs := #[.int .i64 0, .int .i64 0]) ?_ 0 _ rfl; exact BK127.out⟩
        have n5_ : Aside0 (Below w.heap.size w ((w80.setCell ⟨gb127, 0, none⟩ (.int .i64 t124)).setCell ⟨gb127, 1, none⟩ (.int .i64 t125))) := ⟨by repeat ((with_reducible first | exact HB.out | refine below_set ?_ GE127.out))⟩
        (try clear BK101)
        (try clear BK102)
        (try clear BK103)
        (try clear BK123)
        (try clear BK127)
        (try clear HB)
        generalize ((w80.setCell ⟨gb127, 0, none⟩ (.int .i64 t124)).setCell ⟨gb127, 1, none⟩ (.int .i64 t125)) = w86 at n0_ n1_ n2_ n3_ n4_ n5_ ⊢
        have BK101 := n0_
        have BK102 := n1_
        have BK103 := n2_
        have BK123 := n3_
        have BK127 := n4_
        have HB := n5_
        clear n0_ n1_ n2_ n3_ n4_ n5_
        have n0_ := Aside0.mk (blk_drew BK101.out)
        have n1_ := Aside0.mk (blk_drew BK102.out)
        have n2_ := Aside0.mk (blk_drew BK103.out)
        have n3_ := Aside0.mk (blk_drew BK123.out)
        have n4_ := Aside0.mk (blk_drew BK127.out)
        have n5_ := Aside0.mk (below_drew1 HB.out)
        clear BK101
        clear BK102
        clear BK103
        clear BK123
        clear BK127
        clear HB
        have BK101 := n0_
        have BK102 := n1_
        have BK103 := n2_
        have BK123 := n3_
        have BK127 := n4_
        have HB := n5_
        clear n0_ n1_ n2_ n3_ n4_ n5_
        refine start_ (n := 45) (S := fun w' => w'.cell? ⟨gb101, 0, none⟩ = some (.string a0_0) ∧ w'.cell? ⟨gb101, 1, none⟩ = some (.string a0_1) ∧ w'.cell? ⟨gb101, 2, none⟩ = some (.string a0_2) ∧ w'.cell? ⟨gb101, 3, none⟩ = some (.slice A0_3 l0_3.length c0_3) ∧ w'.cell? ⟨gb101, 4, none⟩ = some (.slice A0_4 l0_4.length c0_4) ∧ w'.cell? ⟨gb101, 5, none⟩ = some (.int .i64 a0_5) ∧ w'.cell? ⟨gb101, 6, none⟩ = some (.int .i64 a0_6) ∧ w'.cell? ⟨gb101, 7, none⟩ = some (.int .i64 a0_7) ∧ w'.cell? ⟨gb123, 0, none⟩ = some (.int .i64 t120) ∧ w'.cell? ⟨gb123, 1, none⟩ = some (.int .i64 t121) ∧ w'.cell? ⟨gb127, 0, none⟩ = some (.int .i64 t124) ∧ w'.cell? ⟨gb127, 1, none⟩ = some (.int .i64 t125)) (ds := []) #[false, false, false, false, false, false, false, false, false, false, false, false, false, false, false, false, false, false, false, false, false, false, false, false, false, false, false, false, false, false, false, false, false, false, false, false, false, false, false, false, false, false, false, false, false] (by kernel_rfl) rfl rfl ⟨(blk_cell BK101.out 0).trans rfl, (blk_cell BK101.out 1).trans rfl, (blk_cell BK101.out 2).trans rfl, (blk_cell BK101.out 3).trans rfl, (blk_cell BK101.out 4).trans rfl, (blk_cell BK101.out 5).trans rfl, (blk_cell BK101.out 6).trans rfl, (blk_cell BK101.out 7).trans rfl, (blk_cell BK123.out 0).trans rfl, (blk_cell BK123.out 1).trans rfl, (blk_cell BK127.out 0).trans rfl, (blk_cell BK127.out 1).trans rfl⟩ (fun hHeld => ?_); refine with_tabW cleanselaw04_MeasureMatchesReference.tab7 cleanselaw04_MeasureMatchesReference.bits7 (fun HT_ HW_ => ?_)
        generalize w86.drew = w87 at BK101 BK102 BK103 BK123 BK127 HB hHeld ⊢
        refine pure_ (i := 0) (N := some 84) (v := ?_) (a' := ?_) #[true, false, false, false, false, false, false, false, false, false, false, false, false, false, false, false, false, false, false, false, false, false, false, false, false, false, false, false, false, false, false, false, false, false, false, false, false, false, false, false, false, false, false, false, false] rfl rfl (any_of HT_.out (by kernel_rfl)) (fun _ _ _ h => h) (Or.inl ⟨by rfl, ?_⟩) ?_ ?_
        rotate_left
        ·intro w'
         go_simp
         with_reducible rfl
        rotate_left
        ·simp only [Act.put, pS_, pZ_, pC_, i64_w, i32_w]
         rfl
        refine pure_ (i := 1) (N := some 85) (v := ?_) (a' := ?_) #[true, true, false, false, false, false, false, false, false, false, false, false, false, false, false, false, false, false, false, false, false, false, false, false, false, false, false, false, false, false, false, false, false, false, false, false, false, false, false, false, false, false, false, false, false] rfl rfl (any_of HT_.out (by kernel_rfl)) (fun _ _ _ h => h) (Or.inl ⟨by rfl, ?_⟩) ?_ ?_
        rotate_left
        ·intro w'
         go_simp
         with_reducible rfl
        rotate_left
        ·simp only [Act.put, pS_, pZ_, pC_, i64_w, i32_w]
         rfl
        refine pure_ (i := 2) (N := some 86) (v := ?_) (a' := ?_) #[true, true, true, false, false, false, false, false, false, false, false, false, false, false, false, false, false, false, false, false, false, false, false, false, false, false, false, false, false, false, false, false, false, false, false, false, false, false, false, false, false, false, false, false, false] rfl rfl (any_of HT_.out (by kernel_rfl)) (fun _ _ _ h => h) (Or.inl ⟨by rfl, ?_⟩) ?_ ?_
        rotate_left
        ·intro w'
         go_simp
         with_reducible rfl
        rotate_left
        ·simp only [Act.put, pS_, pZ_, pC_, i64_w, i32_w]
         rfl
        refine pure_ (i := 3) (N := some 87) (v := ?_) (a' := ?_) #[true, true, true, true, false, false, false, false, false, false, false, false, false, false, false, false, false, false, false, false, false, false, false, false, false, false, false, false, false, false, false, false, false, false, false, false, false, false, false, false, false, false, false, false, false] rfl rfl (any_of HT_.out (by kernel_rfl)) (fun _ _ _ h => h) (Or.inl ⟨by rfl, ?_⟩) ?_ ?_
        rotate_left
        ·intro w'
         go_simp
         with_reducible rfl
        rotate_left
        ·simp only [Act.put, pS_, pZ_, pC_, i64_w, i32_w]
         rfl
        refine pure_ (i := 4) (N := some 88) (v := ?_) (a' := ?_) #[true, true, true, true, true, false, false, false, false, false, false, false, false, false, false, false, false, false, false, false, false, false, false, false, false, false, false, false, false, false, false, false, false, false, false, false, false, false, false, false, false, false, false, false, false] rfl rfl (any_of HT_.out (by kernel_rfl)) (fun _ _ _ h => h) (Or.inl ⟨by rfl, ?_⟩) ?_ ?_
        rotate_left
        ·intro w'
         go_simp
         with_reducible rfl
        rotate_left
        ·simp only [Act.put, pS_, pZ_, pC_, i64_w, i32_w]
         rfl
        refine pure_ (i := 5) (N := some 89) (v := ?_) (a' := ?_) #[true, true, true, true, true, true, false, false, false, false, false, false, false, false, false, false, false, false, false, false, false, false, false, false, false, false, false, false, false, false, false, false, false, false, false, false, false, false, false, false, false, false, false, false, false] rfl rfl (any_of HT_.out (by kernel_rfl)) (fun _ _ _ h => h) (Or.inl ⟨by rfl, ?_⟩) ?_ ?_
        rotate_left
        ·intro w'
         go_simp
         with_reducible rfl
        rotate_left
        ·simp only [Act.put, pS_, pZ_, pC_, i64_w, i32_w]
         rfl
        refine pure_ (i := 7) (N := some 91) (v := ?_) (a' := ?_) #[true, true, true, true, true, true, false, true, false, false, false, false, false, false, false, false, false, false, false, false, false, false, false, false, false, false, false, false, false, false, false, false, false, false, false, false, false, false, false, false, false, false, false, false, false] rfl rfl (any_of HT_.out (by kernel_rfl)) (fun _ _ _ h => h) (Or.inl ⟨by rfl, ?_⟩) ?_ ?_
        rotate_left
        ·intro w'
         go_simp
         with_reducible rfl
        rotate_left
        ·simp only [Act.put, pS_, pZ_, pC_, i64_w, i32_w]
         rfl
        refine pure_ (i := 10) (N := some 94) (v := ?_) (a' := ?_) #[true, true, true, true, true, true, false, true, false, false, true, false, false, false, false, false, false, false, false, false, false, false, false, false, false, false, false, false, false, false, false, false, false, false, false, false, false, false, false, false, false, false, false, false, false] rfl rfl (any_of HT_.out (by kernel_rfl)) (fun _ _ _ h => h) (Or.inl ⟨by rfl, ?_⟩) ?_ ?_
        rotate_left
        ·intro w'
         go_simp
         with_reducible rfl
        rotate_left
        ·simp only [Act.put, pS_, pZ_, pC_, i64_w, i32_w]
         rfl
        refine pure_ (i := 12) (N := some 96) (v := ?_) (a' := ?_) #[true, true, true, true, true, true, false, true, false, false, true, false, true, false, false, false, false, false, false, false, false, false, false, false, false, false, false, false, false, false, false, false, false, false, false, false, false, false, false, false, false, false, false, false, false] rfl rfl (any_of HT_.out (by kernel_rfl)) (fun _ _ _ h => h) (Or.inl ⟨by rfl, ?_⟩) ?_ ?_
        rotate_left
        ·intro w'
         go_simp
         with_reducible rfl
        rotate_left
        ·simp only [Act.put, pS_, pZ_, pC_, i64_w, i32_w]
         rfl
        refine take_ (i := 6) (N := some 90) (v := ?_) (a' := ?_) #[true, true, true, true, true, true, true, true, false, false, true, false, true, false, false, false, false, false, false, false, false, false, false, false, false, false, false, false, false, false, false, false, false, false, false, false, false, false, false, false, false, false, false, false, false] rfl rfl (take_ofW HT_.out HW_.out (by kernel_rfl)) (fun _ _ _ h => h) (Or.inl ⟨by rfl, ?_⟩) hHeld ?_ ?_
        rotate_left
        ·rintro w' ⟨s0, s1, s2, s3, s4, s5, s6, s7, s8, s9, s10, s11⟩
         go_simp
         with_reducible rfl
        rotate_left
        ·simp only [Act.put, pS_, pZ_, pC_, i64_w, i32_w]
         rfl
        refine take_ (i := 8) (N := some 92) (v := ?_) (a' := ?_) #[true, true, true, true, true, true, true, true, true, false, true, false, true, false, false, false, false, false, false, false, false, false, false, false, false, false, false, false, false, false, false, false, false, false, false, false, false, false, false, false, false, false, false, false, false] rfl rfl (take_ofW HT_.out HW_.out (by kernel_rfl)) (fun _ _ _ h => h) (Or.inl ⟨by rfl, ?_⟩) hHeld ?_ ?_
        rotate_left
        ·rintro w' ⟨s0, s1, s2, s3, s4, s5, s6, s7, s8, s9, s10, s11⟩
         go_simp
         with_reducible rfl
        rotate_left
        ·simp only [Act.put, pS_, pZ_, pC_, i64_w, i32_w]
         rfl
        refine take_ (i := 11) (N := some 95) (v := ?_) (a' := ?_) #[true, true, true, true, true, true, true, true, true, false, true, true, true, false, false, false, false, false, false, false, false, false, false, false, false, false, false, false, false, false, false, false, false, false, false, false, false, false, false, false, false, false, false, false, false] rfl rfl (take_ofW HT_.out HW_.out (by kernel_rfl)) (fun _ _ _ h => h) (Or.inl ⟨by rfl, ?_⟩) hHeld ?_ ?_
        rotate_left
        ·rintro w' ⟨s0, s1, s2, s3, s4, s5, s6, s7, s8, s9, s10, s11⟩
         go_simp
         with_reducible rfl
        rotate_left
        ·simp only [Act.put, pS_, pZ_, pC_, i64_w, i32_w]
         rfl
        refine take_ (i := 13) (N := some 97) (v := ?_) (a' := ?_) #[true, true, true, true, true, true, true, true, true, false, true, true, true, true, false, false, false, false, false, false, false, false, false, false, false, false, false, false, false, false, false, false, false, false, false, false, false, false, false, false, false, false, false, false, false] rfl rfl (take_ofW HT_.out HW_.out (by kernel_rfl)) (fun _ _ _ h => h) (Or.inl ⟨by rfl, ?_⟩) hHeld ?_ ?_
        rotate_left
        ·rintro w' ⟨s0, s1, s2, s3, s4, s5, s6, s7, s8, s9, s10, s11⟩
         go_simp
         with_reducible rfl
        rotate_left
        ·simp only [Act.put, pS_, pZ_, pC_, i64_w, i32_w]
         rfl
        refine one_ (i := 9) (N := some 93) #[true, true, true, true, true, true, true, true, true, true, true, true, true, true, false, false, false, false, false, false, false, false, false, false, false, false, false, false, false, false, false, false, false, false, false, false, false, false, false, false, false, false, false, false, false] rfl rfl (one_of HT_.out (by kernel_rfl)) (by decide) (fun K hK => ?_)
        refine goes_ Tryd.func22 (by kernel_rfl) rfl #[.string a0_0, .string a0_1] (by rfl) rfl rfl (by (try simp only [List.map_toArray, List.map_cons, List.map_nil]); rfl) ?_
        with_reducible refine (measure_Jaro.calls kj28 a0_0 a0_1 t128 t129 _ ?sGl A57.out).mono ?_
        case sGl => exact Gl.below HGl.out HB.out
        rintro e w88 ⟨rfl, hb⟩
        refine ⟨_, rfl, ?_⟩
        have n0_ := Aside0.mk (blk_below (g := gb101) (o := .cells #[.string a0_0, .string a0_1, .string a0_2, .slice A0_3 l0_3.length c0_3, .slice A0_4 l0_4.length c0_4, .int .i64 a0_5, .int .i64 a0_6, .int .i64 a0_7] 24 (0, 0)) (by exact BK101.out) hb)
        have n1_ := Aside0.mk (blk_below (g := gb102) (o := .cells #[.int .i64 a2_0, .int .i64 a2_1, .string a2_2] 26 (0, 0)) (by exact BK102.out) hb)
        have n2_ := Aside0.mk (blk_below (g := gb103) (o := .cells #[.int .i64 a3_0, .int .i64 a3_1, .string a3_2] 26 (0, 0)) (by exact BK103.out) hb)
        have n3_ := Aside0.mk (blk_below (g := gb123) (o := .cells #[.int .i64 t120, .int .i64 t121] 32 (0, 0)) (by exact BK123.out) hb)
        have n4_ := Aside0.mk (blk_below (g := gb127) (o := .cells #[.int .i64 t124, .int .i64 t125] 32 (0, 0)) (by exact BK127.out) hb)
        have n5_ := Aside0.mk (below_step HB.out hb)
        clear BK101
        clear BK102
        clear BK103
        clear BK123
        clear BK127
        clear HB
        have BK101 := n0_
        have BK102 := n1_
        have BK103 := n2_
        have BK123 := n3_
        have BK127 := n4_
        have HB := n5_
        clear n0_ n1_ n2_ n3_ n4_ n5_
        (try clear hb)
        refine hK.out _ _ ⟨(blk_cell BK101.out 0).trans rfl, (blk_cell BK101.out 1).trans rfl, (blk_cell BK101.out 2).trans rfl, (blk_cell BK101.out 3).trans rfl, (blk_cell BK101.out 4).trans rfl, (blk_cell BK101.out 5).trans rfl, (blk_cell BK101.out 6).trans rfl, (blk_cell BK101.out 7).trans rfl, (blk_cell BK123.out 0).trans rfl, (blk_cell BK123.out 1).trans rfl, (blk_cell BK127.out 0).trans rfl, (blk_cell BK127.out 1).trans rfl⟩ (fun hHeld => ?_)
        clear hK K
        refine norm_ (a' := ?_) ?_ ?_
        rotate_left
        ·show Act.put _ (some 93) _ = _
         simp only [Act.put, pS_, pZ_, pC_, i64_w, i32_w]
         rfl
        refine one_ (i := 14) (N := some 98) #[true, true, true, true, true, true, true, true, true, true, true, true, true, true, true, false, false, false, false, false, false, false, false, false, false, false, false, false, false, false, false, false, false, false, false, false, false, false, false, false, false, false, false, false, false] rfl rfl (one_of HT_.out (by kernel_rfl)) (by decide) (fun K hK => ?_)
        refine goes_ Tryd.func23 (by kernel_rfl) rfl #[.string a0_0, .string a0_1] (by rfl) rfl rfl (by (try simp only [List.map_toArray, List.map_cons, List.map_nil]); rfl) ?_
        with_reducible refine (cleanseref04_Jaro.calls kj28 a0_0 a0_1 t130 t131 _ A58.out).mono ?_
        rintro e w89 ⟨rfl, hb⟩
        refine ⟨_, rfl, ?_⟩
        have n0_ := Aside0.mk (blk_below (g := gb101) (o := .cells #[.string a0_0, .string a0_1, .string a0_2, .slice A0_3 l0_3.length c0_3, .slice A0_4 l0_4.length c0_4, .int .i64 a0_5, .int .i64 a0_6, .int .i64 a0_7] 24 (0, 0)) (by exact BK101.out) hb)
        have n1_ := Aside0.mk (blk_below (g := gb102) (o := .cells #[.int .i64 a2_0, .int .i64 a2_1, .string a2_2] 26 (0, 0)) (by exact BK102.out) hb)
        have n2_ := Aside0.mk (blk_below (g := gb103) (o := .cells #[.int .i64 a3_0, .int .i64 a3_1, .string a3_2] 26 (0, 0)) (by exact BK103.out) hb)
        have n3_ := Aside0.mk (blk_below (g := gb123) (o := .cells #[.int .i64 t120, .int .i64 t121] 32 (0, 0)) (by exact BK123.out) hb)
        have n4_ := Aside0.mk (blk_below (g := gb127) (o := .cells #[.int .i64 t124, .int .i64 t125] 32 (0, 0)) (by exact BK127.out) hb)
        have n5_ := Aside0.mk (below_step HB.out hb)
        clear BK101
        clear BK102
        clear BK103
        clear BK123
        clear BK127
        clear HB
        have BK101 := n0_
        have BK102 := n1_
        have BK103 := n2_
        have BK123 := n3_
        have BK127 := n4_
        have HB := n5_
        clear n0_ n1_ n2_ n3_ n4_ n5_
        (try clear hb)
        refine hK.out _ _ ⟨(blk_cell BK101.out 0).trans rfl, (blk_cell BK101.out 1).trans rfl, (blk_cell BK101.out 2).trans rfl, (blk_cell BK101.out 3).trans rfl, (blk_cell BK101.out 4).trans rfl, (blk_cell BK101.out 5).trans rfl, (blk_cell BK101.out 6).trans rfl, (blk_cell BK101.out 7).trans rfl, (blk_cell BK123.out 0).trans rfl, (blk_cell BK123.out 1).trans rfl, (blk_cell BK127.out 0).trans rfl, (blk_cell BK127.out 1).trans rfl⟩ (fun hHeld => ?_)
        clear hK K
        refine norm_ (a' := ?_) ?_ ?_
        rotate_left
        ·show Act.put _ (some 98) _ = _
         simp only [Act.put, pS_, pZ_, pC_, i64_w, i32_w]
         rfl
        refine pure_ (i := 15) (N := some 99) (v := ?_) (a' := ?_) #[true, true, true, true, true, true, true, true, true, true, true, true, true, true, true, true, false, false, false, false, false, false, false, false, false, false, false, false, false, false, false, false, false, false, false, false, false, false, false, false, false, false, false, false, false] rfl rfl (any_of HT_.out (by kernel_rfl)) (fun _ _ _ h => h) (Or.inl ⟨by rfl, ?_⟩) ?_ ?_
        rotate_left
        ·intro w'
         go_simp
         with_reducible rfl
        rotate_left
        ·simp only [Act.put, pS_, pZ_, pC_, i64_w, i32_w]
         rfl
        refine pure_ (i := 16) (N := some 100) (v := ?_) (a' := ?_) #[true, true, true, true, true, true, true, true, true, true, true, true, true, true, true, true, true, false, false, false, false, false, false, false, false, false, false, false, false, false, false, false, false, false, false, false, false, false, false, false, false, false, false, false, false] rfl rfl (any_of HT_.out (by kernel_rfl)) (fun _ _ _ h => h) (Or.inl ⟨by rfl, ?_⟩) ?_ ?_
        rotate_left
        ·intro w'
         go_simp
         with_reducible rfl
        rotate_left
        ·simp only [Act.put, pS_, pZ_, pC_, i64_w, i32_w]
         rfl
        refine pure_ (i := 17) (N := some 101) (v := ?_) (a' := ?_) #[true, true, true, true, true, true, true, true, true, true, true, true, true, true, true, true, true, true, false, false, false, false, false, false, false, false, false, false, false, false, false, false, false, false, false, false, false, false, false, false, false, false, false, false, false] rfl rfl (any_of HT_.out (by kernel_rfl)) (fun _ _ _ h => h) (Or.inl ⟨by rfl, ?_⟩) ?_ ?_
        rotate_left
        ·intro w'
         go_simp
         with_reducible rfl
        rotate_left
        ·simp only [Act.put, pS_, pZ_, pC_, i64_w, i32_w]
         rfl
        refine pure_ (i := 18) (N := some 102) (v := ?_) (a' := ?_) #[true, true, true, true, true, true, true, true, true, true, true, true, true, true, true, true, true, true, true, false, false, false, false, false, false, false, false, false, false, false, false, false, false, false, false, false, false, false, false, false, false, false, false, false, false] rfl rfl (any_of HT_.out (by kernel_rfl)) (fun _ _ _ h => h) (Or.inl ⟨by rfl, ?_⟩) ?_ ?_
        rotate_left
        ·intro w'
         go_simp
         with_reducible rfl
        rotate_left
        ·simp only [Act.put, pS_, pZ_, pC_, i64_w, i32_w]
         rfl
        refine pure_ (i := 20) (N := some 104) (v := ?_) (a' := ?_) #[true, true, true, true, true, true, true, true, true, true, true, true, true, true, true, true, true, true, true, false, true, false, false, false, false, false, false, false, false, false, false, false, false, false, false, false, false, false, false, false, false, false, false, false, false] rfl rfl (any_of HT_.out (by kernel_rfl)) (fun _ _ _ h => h) (Or.inl ⟨by rfl, ?_⟩) ?_ ?_
        rotate_left
        ·intro w'
         go_simp
         with_reducible rfl
        rotate_left
        ·simp only [Act.put, pS_, pZ_, pC_, i64_w, i32_w]
         rfl
        refine pure_ (i := 22) (N := some 106) (v := ?_) (a' := ?_) #[true, true, true, true, true, true, true, true, true, true, true, true, true, true, true, true, true, true, true, false, true, false, true, false, false, false, false, false, false, false, false, false, false, false, false, false, false, false, false, false, false, false, false, false, false] rfl rfl (any_of HT_.out (by kernel_rfl)) (fun _ _ _ h => h) (Or.inl ⟨by rfl, ?_⟩) ?_ ?_
        rotate_left
        ·intro w'
         go_simp
         with_reducible rfl
        rotate_left
        ·simp only [Act.put, pS_, pZ_, pC_, i64_w, i32_w]
         rfl
        refine pure_ (i := 25) (N := some 109) (v := ?_) (a' := ?_) #[true, true, true, true, true, true, true, true, true, true, true, true, true, true, true, true, true, true, true, false, true, false, true, false, false, true, false, false, false, false, false, false, false, false, false, false, false, false, false, false, false, false, false, false, false] rfl rfl (any_of HT_.out (by kernel_rfl)) (fun _ _ _ h => h) (Or.inl ⟨by rfl, ?_⟩) ?_ ?_
        rotate_left
        ·intro w'
         go_simp
         with_reducible rfl
        rotate_left
        ·simp only [Act.put, pS_, pZ_, pC_, i64_w, i32_w]
         rfl
        refine pure_ (i := 27) (N := some 111) (v := ?_) (a' := ?_) #[true, true, true, true, true, true, true, true, true, true, true, true, true, true, true, true, true, true, true, false, true, false, true, false, false, true, false, true, false, false, false, false, false, false, false, false, false, false, false, false, false, false, false, false, false] rfl rfl (any_of HT_.out (by kernel_rfl)) (fun _ _ _ h => h) (Or.inl ⟨by rfl, ?_⟩) ?_ ?_
        rotate_left
        ·intro w'
         go_simp
         with_reducible rfl
        rotate_left
        ·simp only [Act.put, pS_, pZ_, pC_, i64_w, i32_w]
         rfl
        refine pure_ (i := 29) (N := some 113) (v := ?_) (a' := ?_) #[true, true, true, true, true, true, true, true, true, true, true, true, true, true, true, true, true, true, true, false, true, false, true, false, false, true, false, true, false, true, false, false, false, false, false, false, false, false, false, false, false, false, false, false, false] rfl rfl (any_of HT_.out (by kernel_rfl)) (fun _ _ _ h => h) (Or.inl ⟨by rfl, ?_⟩) ?_ ?_
        rotate_left
        ·intro w'
         go_simp
         with_reducible rfl
        rotate_left
        ·simp only [Act.put, pS_, pZ_, pC_, i64_w, i32_w]
         rfl
        refine take_ (i := 19) (N := some 103) (v := ?_) (a' := ?_) #[true, true, true, true, true, true, true, true, true, true, true, true, true, true, true, true, true, true, true, true, true, false, true, false, false, true, false, true, false, true, false, false, false, false, false, false, false, false, false, false, false, false, false, false, false] rfl rfl (take_ofW HT_.out HW_.out (by kernel_rfl)) (fun _ _ _ h => h) (Or.inl ⟨by rfl, ?_⟩) hHeld ?_ ?_
        rotate_left
        ·rintro w' ⟨s0, s1, s2, s3, s4, s5, s6, s7, s8, s9, s10, s11⟩
         go_simp
         with_reducible rfl
        rotate_left
        ·simp only [Act.put, pS_, pZ_, pC_, i64_w, i32_w]
         rfl
        refine take_ (i := 21) (N := some 105) (v := ?_) (a' := ?_) #[true, true, true, true, true, true, true, true, true, true, true, true, true, true, true, true, true, true, true, true, true, true, true, false, false, true, false, true, false, true, false, false, false, false, false, false, false, false, false, false, false, false, false, false, false] rfl rfl (take_ofW HT_.out HW_.out (by kernel_rfl)) (fun _ _ _ h => h) (Or.inl ⟨by rfl, ?_⟩) hHeld ?_ ?_
        rotate_left
        ·rintro w' ⟨s0, s1, s2, s3, s4, s5, s6, s7, s8, s9, s10, s11⟩
         go_simp
         with_reducible rfl
        rotate_left
        ·simp only [Act.put, pS_, pZ_, pC_, i64_w, i32_w]
         rfl
        refine take_ (i := 23) (N := some 107) (v := ?_) (a' := ?_) #[true, true, true, true, true, true, true, true, true, true, true, true, true, true, true, true, true, true, true, true, true, true, true, true, false, true, false, true, false, true, false, false, false, false, false, false, false, false, false, false, false, false, false, false, false] rfl rfl (take_ofW HT_.out HW_.out (by kernel_rfl)) (fun _ _ _ h => h) (Or.inl ⟨by rfl, ?_⟩) hHeld ?_ ?_
        rotate_left
        ·rintro w' ⟨s0, s1, s2, s3, s4, s5, s6, s7, s8, s9, s10, s11⟩
         go_simp
         with_reducible rfl
        rotate_left
        ·simp only [Act.put, pS_, pZ_, pC_, i64_w, i32_w]
         rfl
        refine take_ (i := 26) (N := some 110) (v := ?_) (a' := ?_) #[true, true, true, true, true, true, true, true, true, true, true, true, true, true, true, true, true, true, true, true, true, true, true, true, false, true, true, true, false, true, false, false, false, false, false, false, false, false, false, false, false, false, false, false, false] rfl rfl (take_ofW HT_.out HW_.out (by kernel_rfl)) (fun _ _ _ h => h) (Or.inl ⟨by rfl, ?_⟩) hHeld ?_ ?_
        rotate_left
        ·rintro w' ⟨s0, s1, s2, s3, s4, s5, s6, s7, s8, s9, s10, s11⟩
         go_simp
         with_reducible rfl
        rotate_left
        ·simp only [Act.put, pS_, pZ_, pC_, i64_w, i32_w]
         rfl
        refine take_ (i := 28) (N := some 112) (v := ?_) (a' := ?_) #[true, true, true, true, true, true, true, true, true, true, true, true, true, true, true, true, true, true, true, true, true, true, true, true, false, true, true, true, true, true, false, false, false, false, false, false, false, false, false, false, false, false, false, false, false] rfl rfl (take_ofW HT_.out HW_.out (by kernel_rfl)) (fun _ _ _ h => h) (Or.inl ⟨by rfl, ?_⟩) hHeld ?_ ?_
        rotate_left
        ·rintro w' ⟨s0, s1, s2, s3, s4, s5, s6, s7, s8, s9, s10, s11⟩
         go_simp
         with_reducible rfl
        rotate_left
        ·simp only [Act.put, pS_, pZ_, pC_, i64_w, i32_w]
         rfl
        refine take_ (i := 30) (N := some 114) (v := ?_) (a' := ?_) #[true, true, true, true, true, true, true, true, true, true, true, true, true, true, true, true, true, true, true, true, true, true, true, true, false, true, true, true, true, true, true, false, false, false, false, false, false, false, false, false, false, false, false, false, false] rfl rfl (take_ofW HT_.out HW_.out (by kernel_rfl)) (fun _ _ _ h => h) (Or.inl ⟨by rfl, ?_⟩) hHeld ?_ ?_
        rotate_left
        ·rintro w' ⟨s0, s1, s2, s3, s4, s5, s6, s7, s8, s9, s10, s11⟩
         go_simp
         with_reducible rfl
        rotate_left
        ·simp only [Act.put, pS_, pZ_, pC_, i64_w, i32_w]
         rfl
        refine one_ (i := 24) (N := some 108) #[true, true, true, true, true, true, true, true, true, true, true, true, true, true, true, true, true, true, true, true, true, true, true, true, true, true, true, true, true, true, true, false, false, false, false, false, false, false, false, false, false, false, false, false, false] rfl rfl (one_of HT_.out (by kernel_rfl)) (by decide) (fun K hK => ?_)
        refine goes_ Tryd.func24 (by kernel_rfl) rfl #[.int .i64 a0_5, .int .i64 a0_6, .int .i64 a0_7] (by rfl) rfl rfl (by (try simp only [List.map_toArray, List.map_cons, List.map_nil]); rfl) ?_
        with_reducible refine (measure_Near.calls kj28 a0_5 a0_6 a0_7 t132 t133 _ ?sGl A60.out).mono ?_
        case sGl => exact Gl.below HGl.out HB.out
        rintro e w90 ⟨rfl, hb⟩
        refine ⟨_, rfl, ?_⟩
        have n0_ := Aside0.mk (blk_below (g := gb101) (o := .cells #[.string a0_0, .string a0_1, .string a0_2, .slice A0_3 l0_3.length c0_3, .slice A0_4 l0_4.length c0_4, .int .i64 a0_5, .int .i64 a0_6, .int .i64 a0_7] 24 (0, 0)) (by exact BK101.out) hb)
        have n1_ := Aside0.mk (blk_below (g := gb102) (o := .cells #[.int .i64 a2_0, .int .i64 a2_1, .string a2_2] 26 (0, 0)) (by exact BK102.out) hb)
        have n2_ := Aside0.mk (blk_below (g := gb103) (o := .cells #[.int .i64 a3_0, .int .i64 a3_1, .string a3_2] 26 (0, 0)) (by exact BK103.out) hb)
        have n3_ := Aside0.mk (blk_below (g := gb123) (o := .cells #[.int .i64 t120, .int .i64 t121] 32 (0, 0)) (by exact BK123.out) hb)
        have n4_ := Aside0.mk (blk_below (g := gb127) (o := .cells #[.int .i64 t124, .int .i64 t125] 32 (0, 0)) (by exact BK127.out) hb)
        have n5_ := Aside0.mk (below_step HB.out hb)
        clear BK101
        clear BK102
        clear BK103
        clear BK123
        clear BK127
        clear HB
        have BK101 := n0_
        have BK102 := n1_
        have BK103 := n2_
        have BK123 := n3_
        have BK127 := n4_
        have HB := n5_
        clear n0_ n1_ n2_ n3_ n4_ n5_
        (try clear hb)
        refine hK.out _ _ ⟨(blk_cell BK101.out 0).trans rfl, (blk_cell BK101.out 1).trans rfl, (blk_cell BK101.out 2).trans rfl, (blk_cell BK101.out 3).trans rfl, (blk_cell BK101.out 4).trans rfl, (blk_cell BK101.out 5).trans rfl, (blk_cell BK101.out 6).trans rfl, (blk_cell BK101.out 7).trans rfl, (blk_cell BK123.out 0).trans rfl, (blk_cell BK123.out 1).trans rfl, (blk_cell BK127.out 0).trans rfl, (blk_cell BK127.out 1).trans rfl⟩ (fun hHeld => ?_)
        clear hK K
        refine norm_ (a' := ?_) ?_ ?_
        rotate_left
        ·show Act.put _ (some 108) _ = _
         simp only [Act.put, pS_, pZ_, pC_, i64_w, i32_w]
         rfl
        refine one_ (i := 31) (N := some 115) #[true, true, true, true, true, true, true, true, true, true, true, true, true, true, true, true, true, true, true, true, true, true, true, true, true, true, true, true, true, true, true, true, false, false, false, false, false, false, false, false, false, false, false, false, false] rfl rfl (one_of HT_.out (by kernel_rfl)) (by decide) (fun K hK => ?_)
        refine goes_ Tryd.func25 (by kernel_rfl) rfl #[.int .i64 a0_5, .int .i64 a0_6, .int .i64 a0_7] (by rfl) rfl rfl (by (try simp only [List.map_toArray, List.map_cons, List.map_nil]); rfl) ?_
        with_reducible refine (cleanseref04_Near.calls kj28 a0_5 a0_6 a0_7 t134 t135 _ A61.out).mono ?_
        rintro e w91 ⟨rfl, hb⟩
        refine ⟨_, rfl, ?_⟩
        have n0_ := Aside0.mk (blk_below (g := gb101) (o := .cells #[.string a0_0, .string a0_1, .string a0_2, .slice A0_3 l0_3.length c0_3, .slice A0_4 l0_4.length c0_4, .int .i64 a0_5, .int .i64 a0_6, .int .i64 a0_7] 24 (0, 0)) (by exact BK101.out) hb)
        have n1_ := Aside0.mk (blk_below (g := gb102) (o := .cells #[.int .i64 a2_0, .int .i64 a2_1, .string a2_2] 26 (0, 0)) (by exact BK102.out) hb)
        have n2_ := Aside0.mk (blk_below (g := gb103) (o := .cells #[.int .i64 a3_0, .int .i64 a3_1, .string a3_2] 26 (0, 0)) (by exact BK103.out) hb)
        have n3_ := Aside0.mk (blk_below (g := gb123) (o := .cells #[.int .i64 t120, .int .i64 t121] 32 (0, 0)) (by exact BK123.out) hb)
        have n4_ := Aside0.mk (blk_below (g := gb127) (o := .cells #[.int .i64 t124, .int .i64 t125] 32 (0, 0)) (by exact BK127.out) hb)
        have n5_ := Aside0.mk (below_step HB.out hb)
        clear BK101
        clear BK102
        clear BK103
        clear BK123
        clear BK127
        clear HB
        have BK101 := n0_
        have BK102 := n1_
        have BK103 := n2_
        have BK123 := n3_
        have BK127 := n4_
        have HB := n5_
        clear n0_ n1_ n2_ n3_ n4_ n5_
        (try clear hb)
        refine hK.out _ _ ⟨(blk_cell BK101.out 0).trans rfl, (blk_cell BK101.out 1).trans rfl, (blk_cell BK101.out 2).trans rfl, (blk_cell BK101.out 3).trans rfl, (blk_cell BK101.out 4).trans rfl, (blk_cell BK101.out 5).trans rfl, (blk_cell BK101.out 6).trans rfl, (blk_cell BK101.out 7).trans rfl, (blk_cell BK123.out 0).trans rfl, (blk_cell BK123.out 1).trans rfl, (blk_cell BK127.out 0).trans rfl, (blk_cell BK127.out 1).trans rfl⟩ (fun hHeld => ?_)
        clear hK K
        refine norm_ (a' := ?_) ?_ ?_
        rotate_left
        ·show Act.put _ (some 115) _ = _
         simp only [Act.put, pS_, pZ_, pC_, i64_w, i32_w]
         rfl
        refine pure_ (i := 32) (N := some 116) (v := ?_) (a' := ?_) #[true, true, true, true, true, true, true, true, true, true, true, true, true, true, true, true, true, true, true, true, true, true, true, true, true, true, true, true, true, true, true, true, true, false, false, false, false, false, false, false, false, false, false, false, false] rfl rfl (any_of HT_.out (by kernel_rfl)) (fun _ _ _ h => h) (Or.inl ⟨by rfl, ?_⟩) ?_ ?_
        rotate_left
        ·intro w'
         go_simp
         with_reducible rfl
        rotate_left
        ·simp only [Act.put, pS_, pZ_, pC_, i64_w, i32_w]
         rfl
        refine pure_ (i := 33) (N := some 117) (v := ?_) (a' := ?_) #[true, true, true, true, true, true, true, true, true, true, true, true, true, true, true, true, true, true, true, true, true, true, true, true, true, true, true, true, true, true, true, true, true, true, false, false, false, false, false, false, false, false, false, false, false] rfl rfl (any_of HT_.out (by kernel_rfl)) (fun _ _ _ h => h) (Or.inl ⟨by rfl, ?_⟩) ?_ ?_
        rotate_left
        ·intro w'
         go_simp
         with_reducible rfl
        rotate_left
        ·simp only [Act.put, pS_, pZ_, pC_, i64_w, i32_w]
         rfl
        refine pure_ (i := 34) (N := some 118) (v := ?_) (a' := ?_) #[true, true, true, true, true, true, true, true, true, true, true, true, true, true, true, true, true, true, true, true, true, true, true, true, true, true, true, true, true, true, true, true, true, true, true, false, false, false, false, false, false, false, false, false, false] rfl rfl (any_of HT_.out (by kernel_rfl)) (fun _ _ _ h => h) (Or.inl ⟨by rfl, ?_⟩) ?_ ?_
        rotate_left
        ·intro w'
         go_simp
         with_reducible rfl
        rotate_left
        ·simp only [Act.put, pS_, pZ_, pC_, i64_w, i32_w]
         rfl
        refine take_ (i := 35) (N := some 119) (v := ?_) (a' := ?_) #[true, true, true, true, true, true, true, true, true, true, true, true, true, true, true, true, true, true, true, true, true, true, true, true, true, true, true, true, true, true, true, true, true, true, true, true, false, false, false, false, false, false, false, false, false] rfl rfl (take_ofW HT_.out HW_.out (by kernel_rfl)) (fun _ _ _ h => h) (Or.inl ⟨by rfl, ?_⟩) hHeld ?_ ?_
        rotate_left
        ·rintro w' ⟨s0, s1, s2, s3, s4, s5, s6, s7, s8, s9, s10, s11⟩
         go_simp
         with_reducible rfl
        rotate_left
        ·simp only [Act.put, pS_, pZ_, pC_, i64_w, i32_w]
         rfl
        refine take_ (i := 36) (N := some 120) (v := ?_) (a' := ?_) #[true, true, true, true, true, true, true, true, true, true, true, true, true, true, true, true, true, true, true, true, true, true, true, true, true, true, true, true, true, true, true, true, true, true, true, true, true, false, false, false, false, false, false, false, false] rfl rfl (take_ofW HT_.out HW_.out (by kernel_rfl)) (fun _ _ _ h => h) (Or.inl ⟨by rfl, ?_⟩) hHeld ?_ ?_
        rotate_left
        ·rintro w' ⟨s0, s1, s2, s3, s4, s5, s6, s7, s8, s9, s10, s11⟩
         go_simp
         with_reducible rfl
        rotate_left
        ·simp only [Act.put, pS_, pZ_, pC_, i64_w, i32_w]
         rfl
        refine pure_ (i := 37) (N := some 121) (v := ?_) (a' := ?_) #[true, true, true, true, true, true, true, true, true, true, true, true, true, true, true, true, true, true, true, true, true, true, true, true, true, true, true, true, true, true, true, true, true, true, true, true, true, true, false, false, false, false, false, false, false] rfl rfl (any_of HT_.out (by kernel_rfl)) (fun _ _ _ h => h) (Or.inl ⟨by rfl, ?_⟩) ?_ ?_
        rotate_left
        ·intro w'
         go_simp
         with_reducible rfl
        rotate_left
        ·simp only [Act.put, pS_, pZ_, pC_, i64_w, i32_w]
         rfl
        refine pure_ (i := 38) (N := some 122) (v := ?_) (a' := ?_) #[true, true, true, true, true, true, true, true, true, true, true, true, true, true, true, true, true, true, true, true, true, true, true, true, true, true, true, true, true, true, true, true, true, true, true, true, true, true, true, false, false, false, false, false, false] rfl rfl (any_of HT_.out (by kernel_rfl)) (fun _ _ _ h => h) (Or.inl ⟨by rfl, ?_⟩) ?_ ?_
        rotate_left
        ·intro w'
         go_simp
         with_reducible rfl
        rotate_left
        ·simp only [Act.put, pS_, pZ_, pC_, i64_w, i32_w]
         rfl
        refine pure_ (i := 39) (N := some 123) (v := ?_) (a' := ?_) #[true, true, true, true, true, true, true, true, true, true, true, true, true, true, true, true, true, true, true, true, true, true, true, true, true, true, true, true, true, true, true, true, true, true, true, true, true, true, true, true, false, false, false, false, false] rfl rfl (any_of HT_.out (by kernel_rfl)) (fun _ _ _ h => h) (Or.inl ⟨by rfl, ?_⟩) ?_ ?_
        rotate_left
        ·intro w'
         go_simp
         with_reducible rfl
        rotate_left
        ·simp only [Act.put, pS_, pZ_, pC_, i64_w, i32_w]
         rfl
        refine pure_ (i := 40) (N := some 124) (v := ?_) (a' := ?_) #[true, true, true, true, true, true, true, true, true, true, true, true, true, true, true, true, true, true, true, true, true, true, true, true, true, true, true, true, true, true, true, true, true, true, true, true, true, true, true, true, true, false, false, false, false] rfl rfl (any_of HT_.out (by kernel_rfl)) (fun _ _ _ h => h) (Or.inl ⟨by rfl, ?_⟩) ?_ ?_
        rotate_left
        ·intro w'
         go_simp
         with_reducible rfl
        rotate_left
        ·simp only [Act.put, pS_, pZ_, pC_, i64_w, i32_w]
         rfl
        refine pure_ (i := 41) (N := some 125) (v := ?_) (a' := ?_) #[true, true, true, true, true, true, true, true, true, true, true, true, true, true, true, true, true, true, true, true, true, true, true, true, true, true, true, true, true, true, true, true, true, true, true, true, true, true, true, true, true, true, false, false, false] rfl rfl (any_of HT_.out (by kernel_rfl)) (fun _ _ _ h => h) (Or.inl ⟨by rfl, ?_⟩) ?_ ?_
        rotate_left
        ·intro w'
         go_simp
         with_reducible rfl
        rotate_left
        ·simp only [Act.put, pS_, pZ_, pC_, i64_w, i32_w]
         rfl
        refine pure_ (i := 42) (N := some 126) (v := ?_) (a' := ?_) #[true, true, true, true, true, true, true, true, true, true, true, true, true, true, true, true, true, true, true, true, true, true, true, true, true, true, true, true, true, true, true, true, true, true, true, true, true, true, true, true, true, true, true, false, false] rfl rfl (any_of HT_.out (by kernel_rfl)) (fun _ _ _ h => h) (Or.inl ⟨by rfl, ?_⟩) ?_ ?_
        rotate_left
        ·intro w'
         go_simp
         with_reducible rfl
        rotate_left
        ·simp only [Act.put, pS_, pZ_, pC_, i64_w, i32_w]
         rfl
        refine pure_ (i := 43) (N := some 127) (v := ?_) (a' := ?_) #[true, true, true, true, true, true, true, true, true, true, true, true, true, true, true, true, true, true, true, true, true, true, true, true, true, true, true, true, true, true, true, true, true, true, true, true, true, true, true, true, true, true, true, true, false] rfl rfl (any_of HT_.out (by kernel_rfl)) (fun _ _ _ h => h) (Or.inl ⟨by rfl, ?_⟩) ?_ ?_
        rotate_left
        ·intro w'
         go_simp
         with_reducible rfl
        rotate_left
        ·simp only [Act.put, pS_, pZ_, pC_, i64_w, i32_w]
         rfl
        refine pure_ (i := 44) (N := some 8) (v := ?_) (a' := ?_) #[true, true, true, true, true, true, true, true, true, true, true, true, true, true, true, true, true, true, true, true, true, true, true, true, true, true, true, true, true, true, true, true, true, true, true, true, true, true, true, true, true, true, true, true, true] rfl rfl (any_of HT_.out (by kernel_rfl)) (fun _ _ _ h => h) (Or.inl ⟨by rfl, ?_⟩) ?_ ?_
        rotate_left
        ·intro w'
         go_simp
         with_reducible rfl
        rotate_left
        ·simp only [Act.put, pS_, pZ_, pC_, i64_w, i32_w]
         rfl
        refine done_ (done_of HT_.out (by kernel_rfl)) ?_
        try go_wp2
        go_ret
        exact ⟨by rfl, by repeat ((with_reducible (exact HB.out)))⟩
       rw [if_neg c63] at H
       have c63b0 : (t120 == t124 && (t121 == t125)) = false := by simpa using c63
       (try (have c63b1 : decide (t120 = t124 && (t121 == t125)) = false := by simpa using c63))
       (try (have c63b2 : (t120 == t124 && (t121 == t125)) = false := by simpa using c63))
       (try (have c63b3 : ¬ (t120 = t124 && (t121 == t125)) := by simpa using c63))
       clear c63
       exact absurd ((Option.some.inj H).trans HT.out) (by decide)
      rw [if_neg c62] at H
      have c62b0 : (t132 == t134 && (t133 == t135)) = false := by simpa using c62
      (try (have c62b1 : decide (t132 = t134 && (t133 == t135)) = false := by simpa using c62))
      (try (have c62b2 : (t132 == t134 && (t133 == t135)) = false := by simpa using c62))
      (try (have c62b3 : ¬ (t132 = t134 && (t133 == t135)) := by simpa using c62))
      clear c62
      exact absurd ((Option.some.inj H).trans HT.out) (by decide)
     rw [if_neg c59] at H
     have c59b0 : (t128 == t130 && (t129 == t131)) = false := by simpa using c59
     (try (have c59b1 : decide (t128 = t130 && (t129 == t131)) = false := by simpa using c59))
     (try (have c59b2 : (t128 == t130 && (t129 == t131)) = false := by simpa using c59))
     (try (have c59b3 : ¬ (t128 = t130 && (t129 == t131)) := by simpa using c59))
     clear c59
     exact absurd ((Option.some.inj H).trans HT.out) (by decide)
    replace c56 := Bool.eq_false_iff.mpr c56
    subst c56
    have H1 : (some false) = some r := by rw [if_neg (show ¬ (false = true) by decide)] at H; exact H
    clear H
    have H := H1
    clear H1
    exact absurd ((Option.some.inj H).trans HT.out) (by decide)
   replace c55 := Bool.eq_false_iff.mpr c55
   subst c55
   have H1 : (some false) = some r := by rw [if_neg (show ¬ (false = true) by decide)] at H; exact H
   clear H
   have H := H1
   clear H1
   exact absurd ((Option.some.inj H).trans HT.out) (by decide)

end Go.Proofs.YtgomlpndoolllaaDoor.LMatchesReference
end

section
/- What the reference's functions of layer 4 tell: the same as_ the program's. -/
namespace Go.Proofs.YtgomlpndoolllaaDoor.Pure
open Go Go.RowKit Go.Proofs.YtgomlpndoolllaaDoor.Q Go.Proofs.YtgomlpndoolllaaDoorW.PrintWords Go.Proofs.YtgomlpndoolllaaDoorW.PrintLast Go.Proofs.YtgomlpndoolllaaDoorW.PrintMore
set_option linter.unusedVariables false
set_option linter.unusedSimpArgs false

/-! Quotients -/
theorem rof_f (n d : Nat) (hd : 0 < d) (hn : n ≤ d) (hb : d ≤ 1000000000) : Ev (fun k => cleanseref01_of.f k false (n : Int) (d : Int)) ((rat n d).1, (rat n d).2, 0) := by
  have h1 : n / Nat.gcd n d ≤ 1000000000 := Nat.le_trans (Nat.div_le_self _ _) (by omega)
  have h2 : d / Nat.gcd n d ≤ 1000000000 := Nat.le_trans (Nat.div_le_self _ _) hb
  have hg : 0 < Nat.gcd n d := Nat.gcd_pos_of_pos_right n hd
  refine Ev.congr (fun k => by unfold cleanseref01_of.f; rw [if_neg (by omega)]) (Ev.bind (refGcd_f n d) ?_)
  have e1 : IntKind.u64.wrap (Int.tdiv (n : Int) ((Nat.gcd n d : Nat) : Int)) = ((n / Nat.gcd n d : Nat) : Int) := by
    rw [tdiv_cast]
    generalize n / Nat.gcd n d = p at *
    exact u64_id (by omega) (by omega)
  have e2 : IntKind.u64.wrap (Int.tdiv (d : Int) ((Nat.gcd n d : Nat) : Int)) = ((d / Nat.gcd n d : Nat) : Int) := by
    rw [tdiv_cast]
    generalize d / Nat.gcd n d = p at *
    exact u64_id (by omega) (by omega)
  unfold rat
  generalize n / Nat.gcd n d = p at *
  generalize d / Nat.gcd n d = q at *
  generalize Nat.gcd n d = g at *
  refine Ev.congr (f := fun k => cleanseref01_of.j0 k false (n : Int) (d : Int) (g : Int) false) (fun k => ?_) (Ev.step (f := fun _ => some ((p : Int), (q : Int), 0)) (fun k => ?_) (Ev.now _))
  · rw [if_neg (by omega), e1, e2, if_neg (by omega), decide_eq_false (by omega)]
  · simp only [cleanseref01_of.j0]
    rw [if_neg (by simp), if_neg (by omega), if_neg (by simp), e1, e2, i64_id (by omega) (by omega), i64_id (by omega) (by omega)]
theorem rshare_f (n d : Nat) (hd : 0 < d) (hn : n ≤ d) (hb : d ≤ 1000000000) : Ev (fun k => cleanseref04_share.f k (n : Int) (d : Int)) (rat n d) := by
  have hm : Ev (fun k => cleanseref01_Make.f k (n : Int) (d : Int)) ((rat n d).1, (rat n d).2, 0) := by
    refine Ev.congr (f := fun k => (cleanseref01_of.f k false (n : Int) (d : Int)).bind fun b => some (b.1, b.2.1, b.2.2)) (fun k => ?_) (Ev.bind (rof_f n d hd hn hb) (Ev.now _))
    unfold cleanseref01_Make.f
    rw [size_f _ (by omega), size_f _ (by omega), Option.bind_some, Option.bind_some, decide_eq_false (by omega), decide_eq_false (by omega)]
    rfl
  exact Ev.congr (fun k => by unfold cleanseref04_share.f; rfl) (Ev.bind hm (Ev.congr (fun k => by rw [if_pos rfl]) (Ev.now _)))
/-! The edit distance -/
theorem redit_l0 (x0 x1 : ByteArray) (hx1 : x1.size ≤ 1000) (v : Int)
    (next : ∀ R : List Int, R.length = x1.size + 1 → (∀ j : Nat, j ≤ x1.size → R[j]? = some (j : Int)) → Ev (fun k => cleanseref04_Edit.l1 k x0 x1 R 0) v) :
    ∀ (d i : Nat) (R : List Int), d + i = x1.size + 1 → R.length = x1.size + 1 → (∀ j : Nat, j < i → R[j]? = some (j : Int)) → Ev (fun k => cleanseref04_Edit.l0 k x0 x1 R i) v
  | 0, i, R, hd, hl, hR => Ev.step (fun k => by simp only [cleanseref04_Edit.l0]; rw [if_neg (by omega)]) (next R hl (fun j hj => hR j (by omega)))
  | d + 1, i, R, hd, hl, hR => by
    have := redit_l0 x0 x1 hx1 v next d (i + 1) (R.set i (i : Int)) (by omega) (by rw [List.length_set]; exact hl) (fun j hj => by
      by_cases e : j = i
      · subst e; rw [List.getElem?_set_self (by omega)]
      · rw [List.getElem?_set_ne (fun h => e h.symm)]; exact hR j (by omega))
    refine Ev.step (fun k => ?_) this
    simp only [cleanseref04_Edit.l0]
    rw [if_pos (by omega), if_pos (by omega), if_pos (by omega), wrap_succ _ (by omega), Int.toNat_natCast]
theorem mn_cast (p q r : Nat) : mn (mn (p : Int) (q : Int)) (r : Int) = ((min p (min r q) : Nat) : Int) := by unfold mn; (repeat' split) <;> omega
theorem redit_l2 (x0 x1 : ByteArray) (hx0 : x0.toList.length ≤ 1000) (hx1 : x1.toList.length ≤ 1000) (i : Nat) (hi : i < x0.toList.length) (v : Int) (R : List Int) (hRl : R.length = x1.toList.length + 1)
    (hR : ∀ t : Nat, t ≤ x1.toList.length → R[t]? = some (D x0.toList x1.toList i t : Int))
    (next : ∀ N : List Int, N.length = x1.toList.length + 1 → (∀ t : Nat, t ≤ x1.toList.length → N[t]? = some (D x0.toList x1.toList (i + 1) t : Int)) → Ev (fun k => cleanseref04_Edit.l1 k x0 x1 N ((i + 1 : Nat) : Int)) v) :
    ∀ (d j : Nat) (N : List Int), d + j = x1.toList.length → N.length = x1.toList.length + 1 → (∀ t : Nat, t ≤ j → N[t]? = some (D x0.toList x1.toList (i + 1) t : Int)) →
      Ev (fun k => cleanseref04_Edit.l2 k x0 x1 R i N j) v
  | 0, j, N, hd, hl, h1 => by
    have e1 := tl_size x1
    refine Ev.step (fun k => ?_) (next N hl (fun t ht => h1 t (by omega)))
    simp only [cleanseref04_Edit.l2]
    rw [if_neg (by omega), wrap_succ _ (by omega)]
  | d + 1, j, N, hd, hl, h1 => by
    have e0 := tl_size x0
    have e1 := tl_size x1
    have hj : j < x1.toList.length := by omega
    have p1 : (j : Int) < (x1.size : Int) := by omega
    have p2 : (0 : Int) ≤ (j : Int) := by omega
    have p3 : (j : Int) < (R.length : Int) := by omega
    have p4 : (0 : Int) ≤ (i : Int) := by omega
    have p5 : (i : Int) < (x0.size : Int) := by omega
    have p6 : (0 : Int) ≤ ((j + 1 : Nat) : Int) := by omega
    have p7 : ((j + 1 : Nat) : Int) < (R.length : Int) := by omega
    have p8 : (j : Int) < (N.length : Int) := by omega
    have p9 : ((j + 1 : Nat) : Int) < (N.length : Int) := by omega
    have p10 : d + (j + 1) = x1.toList.length := by omega
    have p11 : j + 1 < N.length := by omega
    have p12 : j + 1 ≤ x1.toList.length := by omega
    have p13 : j ≤ x1.toList.length := by omega
    have hwj : wrap64 ((j : Int) + 1) = ((j + 1 : Nat) : Int) := wrap_succ _ (by omega)
    have big : x0.toList.length + x1.toList.length < 4611686018427387904 := by omega
    have hw1 : wrap64 ((D x0.toList x1.toList i j : Int) + 1) = ((D x0.toList x1.toList i j + 1 : Nat) : Int) := wrap_succ _ (Nat.lt_of_le_of_lt (D_le x0.toList x1.toList i j) big)
    have hw2 : wrap64 ((D x0.toList x1.toList (i + 1) j : Int) + 1) = ((D x0.toList x1.toList (i + 1) j + 1 : Nat) : Int) := wrap_succ _ (Nat.lt_of_le_of_lt (D_le x0.toList x1.toList (i + 1) j) big)
    have hw3 : wrap64 ((D x0.toList x1.toList i (j + 1) : Int) + 1) = ((D x0.toList x1.toList i (j + 1) + 1 : Nat) : Int) := wrap_succ _ (Nat.lt_of_le_of_lt (D_le x0.toList x1.toList i (j + 1)) big)
    have r1 := rd_get R j _ (hR j p13)
    have r2 := rd_get R (j + 1) _ (hR (j + 1) p12)
    have r3 := rd_get N j _ (h1 j (Nat.le_refl _))
    have hrec := redit_l2 x0 x1 hx0 hx1 i hi v R hRl hR next d (j + 1) (N.set (j + 1) (D x0.toList x1.toList (i + 1) (j + 1) : Int)) p10 (by rw [List.length_set]; exact hl)
      (fun t ht => by
        by_cases e : t = j + 1
        · subst e; rw [List.getElem?_set_self p11]
        · rw [List.getElem?_set_ne (fun h => e h.symm)]; exact h1 t (Nat.le_of_lt_succ (Nat.lt_of_le_of_ne ht e)))
    have hs := D_step x0.toList x1.toList i j hi hj
    have c0 := bt_nat x0 i hi
    have c1 := bt_nat x1 j hj
    have ceq : Go.Proofs.YtgomlpndoolllaaDoorW.PrintWords.bt x0 (i : Int) = Go.Proofs.YtgomlpndoolllaaDoorW.PrintWords.bt x1 (j : Int) ↔ x0.toList[i] = x1.toList[j] := by
      rw [c0, c1]
      exact ⟨fun h => UInt8.toNat_inj.1 (Int.ofNat.inj h), fun h => by rw [h]⟩
    generalize D x0.toList x1.toList i j = dA at *
    generalize D x0.toList x1.toList (i + 1) j = dB at *
    generalize D x0.toList x1.toList i (j + 1) = dC at *
    refine Ev.step (fun k => ?_) hrec
    simp only [cleanseref04_Edit.l2]
    rw [if_pos p1, if_pos p2, if_pos p3, if_pos p4, if_pos p5, hwj]
    by_cases hq : x0.toList[i] = x1.toList[j]
    · rw [if_pos hq] at hs
      rw [if_pos (ceq.2 hq), if_pos p6, if_pos p7, if_pos p8, if_pos p9, r1, r2, r3, hw2, hw3, mn_cast, Int.toNat_natCast, hs]
      rfl
    · rw [if_neg hq] at hs
      rw [if_neg (fun h => hq (ceq.1 h)), if_pos p6, if_pos p7, if_pos p8, if_pos p9, r1, r2, r3, hw1, hw2, hw3, mn_cast, Int.toNat_natCast, hs]
theorem redit_l1 (x0 x1 : ByteArray) (hx0 : x0.toList.length ≤ 1000) (hx1 : x1.toList.length ≤ 1000) :
    ∀ (d i : Nat) (R : List Int), d + i = x0.toList.length → R.length = x1.toList.length + 1 → (∀ t : Nat, t ≤ x1.toList.length → R[t]? = some (D x0.toList x1.toList i t : Int)) → Ev (fun k => cleanseref04_Edit.l1 k x0 x1 R i) (dist x0.toList x1.toList : Int)
  | 0, i, R, hd, hl, hR => by
    have e0 := tl_size x0
    have e1 := tl_size x1
    have hr := rd_get R x1.toList.length _ (hR _ (Nat.le_refl _))
    rw [show i = x0.toList.length by omega, D_end] at hr
    refine Ev.step (f := fun _ => some (dist x0.toList x1.toList : Int)) (fun k => ?_) (Ev.now _)
    simp only [cleanseref04_Edit.l1]
    rw [if_neg (by omega), if_pos (by omega), if_pos (by omega), ← e1, hr]
  | d + 1, i, R, hd, hl, hR => by
    have e0 := tl_size x0
    have e1 := tl_size x1
    have ih := redit_l2 x0 x1 hx0 hx1 i (by omega) (dist x0.toList x1.toList : Int) R hl hR (fun N hN hNt => redit_l1 x0 x1 hx0 hx1 d (i + 1) N (by omega) hN hNt) x1.toList.length 0
      ((List.replicate (x1.toList.length + 1) (0 : Int)).set 0 ((i + 1 : Nat) : Int)) rfl (by simp) (fun t ht => by
        obtain rfl : t = 0 := by omega
        rw [List.getElem?_set_self (by simp), D_zero_r _ _ _ (by omega)])
    refine Ev.step (fun k => ?_) ih
    simp only [cleanseref04_Edit.l1]
    have hw : wrap64 ((x1.size : Int) + 1) = ((x1.toList.length + 1 : Nat) : Int) := by rw [e1]; exact wrap_succ _ (by omega)
    rw [if_pos (by omega), hw, if_pos (by omega), if_pos (by omega), Option.bind_some, if_pos (by rw [List.length_replicate]; omega), wrap_succ _ (by omega)]
    rfl
theorem redit_f (x0 x1 : ByteArray) (hx0 : x0.toList.length ≤ 1000) (hx1 : x1.toList.length ≤ 1000) : Ev (fun k => cleanseref04_Edit.f k x0 x1) (dist x0.toList x1.toList : Int) := by
  have e1 := tl_size x1
  have h := redit_l0 x0 x1 (by omega) (dist x0.toList x1.toList : Int) (fun R hl hR => redit_l1 x0 x1 hx0 hx1 x0.toList.length 0 R rfl (by omega) (fun t ht => by rw [hR t (by omega), D_zero_l _ _ _ ht])) (x1.size + 1) 0
    (List.replicate (x1.size + 1) 0) rfl List.length_replicate (fun j hj => by omega)
  have hw : wrap64 ((x1.size : Int) + 1) = ((x1.size + 1 : Nat) : Int) := wrap_succ _ (by omega)
  refine Ev.congr (fun k => ?_) h
  unfold cleanseref04_Edit.f
  rw [hw, if_pos (by omega), if_pos (by omega)]
  rfl
theorem ralike_f (a b : ByteArray) (ha : a.toList.length ≤ 1000) (hb : b.toList.length ≤ 1000) : Ev (fun k => cleanseref04_Alike.f k a b) (alikeS a.toList b.toList) := by
  have e0 := tl_size a
  have e1 := tl_size b
  have hm : mx (a.size : Int) (b.size : Int) = ((max a.toList.length b.toList.length : Nat) : Int) := by rw [mx_nat, e0, e1]
  unfold alikeS
  refine Ev.congr (fun k => by unfold cleanseref04_Alike.f; rw [hm]) ?_
  by_cases h0 : max a.toList.length b.toList.length = 0
  · rw [if_pos h0]
    exact Ev.congr (fun k => by rw [if_pos (by omega)]) (Ev.now _)
  · rw [if_neg h0]
    refine Ev.congr (fun k => by rw [if_neg (by omega)]) (Ev.bind (redit_f a b ha hb) ?_)
    have hd := (dist_bounds a.toList b.toList).2.2
    have e2 : wrap64 (((max a.toList.length b.toList.length : Nat) : Int) - ((dist a.toList b.toList : Nat) : Int)) = ((max a.toList.length b.toList.length - dist a.toList b.toList : Nat) : Int) := by
      rw [i64_id (by omega) (by omega)]; omega
    rw [e2]
    exact Ev.bind (rshare_f _ _ (by omega) (by omega) (by omega)) (Ev.now _)
/-! Jaccard -/
theorem dataL_get (l : List ByteArray) (i : Nat) (h : i < l.length) : (dataL l)[i]? = some l[i].toList := by
  unfold dataL; rw [List.getElem?_map, List.getElem?_eq_getElem h, Go.ByteArray.toList_eq]; rfl
theorem dataL_take2 (l : List ByteArray) (i : Nat) (h : i < l.length) : (dataL l).take (i + 1) = (dataL l).take i ++ [l[i].toList] := by
  have hl : i < (dataL l).length := by unfold dataL; rw [List.length_map]; exact h
  rw [List.take_succ_eq_append_getElem hl]
  have := dataL_get l i h
  rw [List.getElem?_eq_getElem hl] at this
  rw [Option.some.inj this]
theorem dataL_len (l : List ByteArray) : (dataL l).length = l.length := by unfold dataL; rw [List.length_map]
theorem rin_l0 (l : List ByteArray) (n : Nat) (hn : n ≤ l.length) (hl : l.length ≤ 1000000) (s : ByteArray) : ∀ (d i : Nat), d + i = n → s.toList ∉ (dataL l).take i → Ev (fun k => cleanseref04_in.l0 k l (n : Int) s (i : Int)) (decide (s.toList ∈ (dataL l).take n))
  | 0, i, hd, hs => by
    rw [show n = i by omega, decide_eq_false hs]
    refine Ev.step (f := fun _ => some false) (fun k => ?_) (Ev.now _)
    simp only [cleanseref04_in.l0]
    rw [if_neg (by omega)]
  | d + 1, i, hd, hs => by
    have hi : i < l.length := by omega
    have hr : rdOf ByteArray.empty l (i : Int) = l[i] := by simp [rdOf, List.getD_eq_getElem?_getD, hi]
    by_cases he : l[i].toList = s.toList
    · rw [decide_eq_true (by
        have h1 : s.toList ∈ (dataL l).take (i + 1) := by rw [dataL_take2 l i hi, he]; simp
        have h2 : (dataL l).take (i + 1) = ((dataL l).take n).take (i + 1) := by rw [List.take_take, Nat.min_eq_left (by omega)]
        rw [h2] at h1
        exact List.mem_of_mem_take h1)]
      refine Ev.step (f := fun _ => some true) (fun k => ?_) (Ev.now _)
      simp only [cleanseref04_in.l0]
      rw [if_pos (by omega), if_pos (by omega), if_pos (by omega), hr, if_pos he]
    · refine Ev.step (fun k => ?_) (rin_l0 l n hn hl s d (i + 1) (by omega) (by
        rw [dataL_take2 l i hi]
        intro h
        rcases List.mem_append.1 h with k | k
        · exact hs k
        · exact he (List.mem_singleton.1 k).symm))
      simp only [cleanseref04_in.l0]
      rw [if_pos (by omega), if_pos (by omega), if_pos (by omega), hr, if_neg he, wrap_suc _ (by omega)]
theorem rin_f (l : List ByteArray) (n : Nat) (hn : n ≤ l.length) (hl : l.length ≤ 1000000) (s : ByteArray) : Ev (fun k => cleanseref04_in.f k l (n : Int) s) (decide (s.toList ∈ (dataL l).take n)) := rin_l0 l n hn hl s n 0 rfl (by simp)
theorem jLeft_in {A : List Bs} {x : Bs} (h : x ∈ A) : jLeft (A ++ [x]) = jLeft A := by
  rw [jLeft_snoc]; unfold addL; rw [if_pos ((mem_jLeft A x).2 h)]
theorem jLeft_out {A : List Bs} {x : Bs} (h : x ∉ A) : jLeft (A ++ [x]) = x :: jLeft A := by
  rw [jLeft_snoc]; unfold addL; rw [if_neg (fun k => h ((mem_jLeft A x).1 k))]
theorem rjac_l1 (a b : List ByteArray) (ha : a.length ≤ 1000000) (hb : b.length ≤ 1000000) (bo : Nat) (hbo : bo ≤ (jLeft (dataL a)).length) : ∀ (d j : Nat), d + j = b.length →
    Ev (fun k => cleanseref04_Jaccard.l1 k a b (bo : Int) (((jLeft (dataL a)).length + ((jLeft ((dataL b).take j)).filter fun x => decide (x ∉ dataL a)).length : Nat) : Int) (j : Int))
      (if (jLeft (dataL a)).length + ((jLeft (dataL b)).filter fun x => decide (x ∉ dataL a)).length = 0 then (1, 1) else rat bo ((jLeft (dataL a)).length + ((jLeft (dataL b)).filter fun x => decide (x ∉ dataL a)).length))
  | 0, j, hd => by
    have hl1 := jLeft_len (dataL a)
    have hl2 : ((jLeft (dataL b)).filter fun x => decide (x ∉ dataL a)).length ≤ b.length := Nat.le_trans (List.length_filter_le _ _) (Nat.le_trans (jLeft_len _) (by rw [dataL_len]; exact Nat.le_refl _))
    rw [dataL_len] at hl1
    have ht : (dataL b).take j = dataL b := List.take_of_length_le (by rw [dataL_len]; omega)
    rw [ht]
    generalize ((jLeft (dataL b)).filter fun x => decide (x ∉ dataL a)).length = y at *
    generalize (jLeft (dataL a)).length = x at *
    by_cases h0 : x + y = 0
    · rw [if_pos h0]
      refine Ev.step (f := fun _ => some (1, 1)) (fun k => ?_) (Ev.now _)
      simp only [cleanseref04_Jaccard.l1]
      rw [if_neg (by omega), if_pos (by omega)]
    · rw [if_neg h0]
      refine Ev.step (f := fun k => (cleanseref04_share.f k (bo : Int) ((x + y : Nat) : Int)).bind fun z => some (z.1, z.2)) (fun k => ?_) (Ev.bind (rshare_f bo (x + y) (by omega) (by omega) (by omega)) (Ev.now _))
      simp only [cleanseref04_Jaccard.l1]
      rw [if_neg (by omega), if_neg (by omega)]
  | d + 1, j, hd => by
    have hj : j < b.length := by omega
    have hr : rdOf ByteArray.empty b (j : Int) = b[j] := by simp [rdOf, List.getD_eq_getElem?_getD, hj]
    have hl1 := jLeft_len (dataL a)
    have hl2 : ((jLeft ((dataL b).take j)).filter fun x => decide (x ∉ dataL a)).length ≤ b.length := Nat.le_trans (List.length_filter_le _ _) (Nat.le_trans (jLeft_len _) (by rw [List.length_take, dataL_len]; omega))
    rw [dataL_len] at hl1
    have ih := rjac_l1 a b ha hb bo hbo d (j + 1) (by omega)
    have h1 := rin_f b j (by omega) hb b[j]
    have h2 := rin_f a a.length (Nat.le_refl _) ha b[j]
    rw [List.take_of_length_le (l := dataL a) (by rw [dataL_len]; omega)] at h2
    rw [dataL_take2 b j hj] at ih
    refine Ev.step (f := fun k => (cleanseref04_in.f k b (j : Int) b[j]).bind fun t => if t = true then cleanseref04_Jaccard.l1 k a b (bo : Int) (((jLeft (dataL a)).length + ((jLeft ((dataL b).take j)).filter fun x => decide (x ∉ dataL a)).length : Nat) : Int) ((j + 1 : Nat) : Int) else
      (cleanseref04_in.f k a (a.length : Int) b[j]).bind fun u => if u = true then cleanseref04_Jaccard.l1 k a b (bo : Int) (((jLeft (dataL a)).length + ((jLeft ((dataL b).take j)).filter fun x => decide (x ∉ dataL a)).length : Nat) : Int) ((j + 1 : Nat) : Int) else
        cleanseref04_Jaccard.l1 k a b (bo : Int) (((jLeft (dataL a)).length + ((jLeft ((dataL b).take j)).filter fun x => decide (x ∉ dataL a)).length + 1 : Nat) : Int) ((j + 1 : Nat) : Int)) (fun k => ?_) (Ev.bind h1 ?_)
    · simp only [cleanseref04_Jaccard.l1]
      rw [if_pos (by omega), if_pos (by omega), hr, wrap_suc j (by omega), wrap_suc _ (by omega)]
    · by_cases hin : b[j].toList ∈ (dataL b).take j
      · rw [jLeft_in hin] at ih
        exact Ev.congr (fun k => by rw [if_pos (decide_eq_true hin)]) ih
      · rw [jLeft_out hin, List.filter_cons] at ih
        refine Ev.congr (fun k => by rw [if_neg (by rw [decide_eq_false hin]; simp)]) (Ev.bind h2 ?_)
        by_cases hia : b[j].toList ∈ dataL a
        · rw [if_neg (by simpa using hia)] at ih
          exact Ev.congr (fun k => by rw [if_pos (decide_eq_true hia)]) ih
        · rw [if_pos (by simpa using hia), List.length_cons, ← Nat.add_assoc] at ih
          exact Ev.congr (fun k => by rw [if_neg (by rw [decide_eq_false hia]; simp)]) ih
theorem rjac_l0 (a b : List ByteArray) (ha : a.length ≤ 1000000) (hb : b.length ≤ 1000000) (v : Int × Int)
    (next : Ev (fun k => cleanseref04_Jaccard.l1 k a b (((jLeft (dataL a)).filter fun x => decide (x ∈ dataL b)).length : Int) ((jLeft (dataL a)).length : Int) 0) v) : ∀ (d i : Nat), d + i = a.length →
    Ev (fun k => cleanseref04_Jaccard.l0 k a b (((jLeft ((dataL a).take i)).filter fun x => decide (x ∈ dataL b)).length : Int) ((jLeft ((dataL a).take i)).length : Int) (i : Int)) v
  | 0, i, hd => by
    have ht : (dataL a).take i = dataL a := List.take_of_length_le (by rw [dataL_len]; omega)
    rw [ht]
    refine Ev.step (fun k => ?_) next
    simp only [cleanseref04_Jaccard.l0]
    rw [if_neg (by omega)]
  | d + 1, i, hd => by
    have hi : i < a.length := by omega
    have hr : rdOf ByteArray.empty a (i : Int) = a[i] := by simp [rdOf, List.getD_eq_getElem?_getD, hi]
    have hl1 := jLeft_len ((dataL a).take i)
    have hl2 := List.length_filter_le (fun x => decide (x ∈ dataL b)) (jLeft ((dataL a).take i))
    rw [List.length_take, dataL_len] at hl1
    have ih := rjac_l0 a b ha hb v next d (i + 1) (by omega)
    have h1 := rin_f a i (by omega) ha a[i]
    have h2 := rin_f b b.length (Nat.le_refl _) hb a[i]
    rw [List.take_of_length_le (l := dataL b) (by rw [dataL_len]; omega)] at h2
    rw [dataL_take2 a i hi] at ih
    generalize hA : (dataL a).take i = A at *
    refine Ev.step (f := fun k => (cleanseref04_in.f k a (i : Int) a[i]).bind fun t => if t = true then cleanseref04_Jaccard.l0 k a b (((jLeft A).filter fun x => decide (x ∈ dataL b)).length : Int) ((jLeft A).length : Int) ((i + 1 : Nat) : Int) else
      (cleanseref04_in.f k b (b.length : Int) a[i]).bind fun u => if u = true then cleanseref04_Jaccard.l0 k a b ((((jLeft A).filter fun x => decide (x ∈ dataL b)).length + 1 : Nat) : Int) (((jLeft A).length + 1 : Nat) : Int) ((i + 1 : Nat) : Int) else
        cleanseref04_Jaccard.l0 k a b (((jLeft A).filter fun x => decide (x ∈ dataL b)).length : Int) (((jLeft A).length + 1 : Nat) : Int) ((i + 1 : Nat) : Int)) (fun k => ?_) (Ev.bind h1 ?_)
    · simp only [cleanseref04_Jaccard.l0]
      rw [if_pos (by omega), if_pos (by omega), hr, wrap_suc i (by omega), wrap_suc (jLeft A).length (by omega), wrap_suc (((jLeft A).filter fun x => decide (x ∈ dataL b)).length) (by omega)]
    · by_cases hin : a[i].toList ∈ A
      · rw [jLeft_in hin] at ih
        exact Ev.congr (fun k => by rw [if_pos (decide_eq_true hin)]) ih
      · rw [jLeft_out hin, List.filter_cons, List.length_cons] at ih
        refine Ev.congr (fun k => by rw [if_neg (by rw [decide_eq_false hin]; simp)]) (Ev.bind h2 ?_)
        by_cases hib : a[i].toList ∈ dataL b
        · rw [if_pos (by simpa using hib), List.length_cons] at ih
          exact Ev.congr (fun k => by rw [if_pos (decide_eq_true hib)]) ih
        · rw [if_neg (by simpa using hib)] at ih
          exact Ev.congr (fun k => by rw [if_neg (by rw [decide_eq_false hib]; simp)]) ih
theorem both_same (a b : List Bs) : ((jLeft a).filter fun x => decide (x ∈ b)).length = ((jLeft b).filter fun x => decide (x ∈ a)).length := by
  have hU := nodup_jLeft (a ++ b)
  have ha : ∀ x, x ∈ a → x ∈ jLeft (a ++ b) := fun x hx => (mem_jLeft _ _).2 (List.mem_append_left _ hx)
  have hb : ∀ x, x ∈ b → x ∈ jLeft (a ++ b) := fun x hx => (mem_jLeft _ _).2 (List.mem_append_right _ hx)
  rw [count_in (nodup_jLeft a) hU (fun x hx => ha x ((mem_jLeft a x).1 hx)) (fun x => decide (x ∈ b)), count_in (nodup_jLeft b) hU (fun x hx => hb x ((mem_jLeft b x).1 hx)) (fun x => decide (x ∈ a))]
  refine cU_congr (fun x _ => ?_)
  rw [decide_eq_decide.2 (mem_jLeft a x), decide_eq_decide.2 (mem_jLeft b x), Bool.and_comm]
theorem rjac_f (a b : List ByteArray) (ha : a.length ≤ 1000000) (hb : b.length ≤ 1000000) : Ev (fun k => cleanseref04_Jaccard.f k a b) (jacS (dataL a) (dataL b)) := by
  have hj := jFold_is (dataL a) (dataL b)
  unfold jacS
  rw [hj.2.2.2.1, hj.2.2.2.2, ← both_same]
  have h1 := rjac_l1 a b ha hb _ (List.length_filter_le (fun x => decide (x ∈ dataL b)) (jLeft (dataL a))) b.length 0 rfl
  have z : (((jLeft ((dataL b).take 0)).filter fun x => decide (x ∉ dataL a)).length) = 0 := rfl
  rw [z, Nat.add_zero] at h1
  exact rjac_l0 a b ha hb _ h1 a.length 0 rfl
/-! Near -/
theorem rapart_f (x y l : Int) (hx : I64 x) (hy : I64 y) (hl : 0 ≤ l ∧ l ≤ 1000000000) : Ev (fun k => cleanseref04_apart.f k x y l) (if ((x - y).natAbs : Int) > l then l else ((x - y).natAbs : Int)) := by
  have hfar : ∀ (a b : Int), I64 a → I64 b → ¬ a < b → IntKind.u64.wrap (IntKind.u64.wrap a - IntKind.u64.wrap b) = a - b := by
    intro a b ha hb hab
    rw [u64_w, u64_w, u64_w]; omega
  have main : ∀ (a b : Int), I64 a → I64 b → ¬ a > b → Ev (fun k => cleanseref04_apart.f k a b l) (if ((a - b).natAbs : Int) > l then l else ((a - b).natAbs : Int)) := by
    intro a b ha hb hab
    refine Ev.step (f := fun _ => some (if ((a - b).natAbs : Int) > l then l else ((a - b).natAbs : Int))) (fun k => ?_) (Ev.now _)
    simp only [cleanseref04_apart.f]
    rw [if_neg hab, hfar b a hb ha (by omega), u64_id (n := l) (by omega) (by omega)]
    by_cases h : b - a > l
    · rw [if_pos h, if_pos (by omega)]
    · rw [if_neg h, if_neg (by omega), i64_id (by omega) (by omega)]
      congr 1; omega
  by_cases h : x > y
  · have m := main y x hy hx (by omega)
    rw [show (y - x).natAbs = (x - y).natAbs by omega] at m
    refine Ev.step (f := fun k => (cleanseref04_apart.f k y x l).bind fun t => some t) (fun k => ?_) (Ev.bind m (Ev.now _))
    simp only [cleanseref04_apart.f]
    rw [if_pos h]
  · exact main x y hx hy h
theorem rnear_f (x y t : Int) (hx : I64 x) (hy : I64 y) (ht : I64 t) : Ev (fun k => cleanseref04_Near.f k x y t) (nearS x y t) := by
  unfold cleanseref04_Near.f
  by_cases h0 : t < 0
  · refine Ev.congr (fun k => by rw [if_pos h0]) (Ev.step (f := fun _ => some (0, 1)) (fun k => by simp only [cleanseref04_Near.j0]; rw [if_pos trivial]) ?_)
    unfold nearS; rw [if_neg (by omega)]; exact Ev.now _
  · refine Ev.congr (fun k => by rw [if_neg h0]) ?_
    by_cases h1 : t > 999999999
    · refine Ev.step (f := fun _ => some (0, 1)) (fun k => by simp only [cleanseref04_Near.j0]; rw [if_pos (decide_eq_true h1)]) ?_
      unfold nearS; rw [if_neg (by omega)]; exact Ev.now _
    · have ha := rapart_f x y (t + 1) hx hy (by omega)
      have e0 : wrap64 (t + 1) = t + 1 := i64_id (by omega) (by omega)
      refine Ev.step (f := fun k => (cleanseref04_apart.f k x y (t + 1)).bind fun u => (cleanseref04_share.f k (wrap64 (t + 1 - u)) (t + 1)).bind fun z => some (z.1, z.2)) (fun k => by simp only [cleanseref04_Near.j0]; rw [if_neg (by simp; omega), e0]) (Ev.bind ha ?_)
      have e1 : wrap64 (t + 1 - (if ((x - y).natAbs : Int) > t + 1 then t + 1 else ((x - y).natAbs : Int))) = ((t.toNat + 1 - (x - y).natAbs : Nat) : Int) := by
        split
        · rw [i64_id (by omega) (by omega)]; omega
        · rw [i64_id (by omega) (by omega)]; omega
      have e2 : t + 1 = ((t.toNat + 1 : Nat) : Int) := by omega
      rw [e1]
      have hs := rshare_f (t.toNat + 1 - (x - y).natAbs) (t.toNat + 1) (by omega) (by omega) (by omega)
      rw [← e2] at hs
      have hn : nearS x y t = rat (t.toNat + 1 - (x - y).natAbs) (t.toNat + 1) := by
        unfold nearS
        by_cases h : ((x - y).natAbs : Int) ≤ t
        · rw [if_pos ⟨by omega, by omega, h⟩]
        · rw [if_neg (fun k => h k.2.2), show t.toNat + 1 - (x - y).natAbs = 0 by omega, rat_nil (by omega)]
      rw [hn]
      exact Ev.bind hs (Ev.now _)
/-! Values -/
theorem two_sided (b : Bool) (x l h : Int) : (if b = true then (false : Bool) else if l ≤ x then decide (x ≤ h) else false) = (!b && (decide (l ≤ x) && decide (x ≤ h))) := by
  cases b <;> by_cases g : l ≤ x <;> simp [g]
theorem rvalid_f (a0 a1 : Int) (a2 : ByteArray) : cleanseref02_Valid.f a0 a1 a2 = some (valB a0 a1 a2) := by
  have key : (a2.toList == ([] : List UInt8)) = !(a2.toList != ([] : List UInt8)) := by simp [bne]
  have zero : ∀ x : Int, (decide (0 ≤ x) && decide (x ≤ 0)) = decide (x = 0) := fun x => by rw [Bool.eq_iff_iff]; simp; omega
  have one : ∀ x : Int, (decide (0 ≤ x) && decide (x ≤ 1)) = (decide (x = 0) || decide (x = 1)) := fun x => by rw [Bool.eq_iff_iff]; simp; omega
  unfold cleanseref02_Valid.f valB
  rw [key]
  generalize (a2.toList != ([] : List UInt8)) = e
  by_cases h0 : a0 = 0
  · subst h0
    have : valJ (if (0 : Int) = 1 then false else e) 0 a1 a2 = (!e && decide (a1 = 0)) := by
      rw [← zero, ← two_sided]; rfl
    rw [this]
    by_cases z : a1 = 0 <;> cases e <;> simp [z]
  · by_cases h1 : a0 = 1
    · subst h1
      have : valJ (if (1 : Int) = 1 then false else e) 1 a1 a2 = (!(decide ((a2.size : Int) > 200)) && decide (a1 = 0)) := by
        rw [← zero, ← two_sided]
        simp [valJ]
      rw [this]
      by_cases z : a1 = 0
      · subst z
        by_cases g : (a2.size : Int) ≤ 200
        · have g2 : ¬ (a2.size : Int) > 200 := by omega
          rw [if_neg (by decide), if_pos rfl, if_pos rfl, decide_eq_true g, decide_eq_false g2]; rfl
        · have g2 : (a2.size : Int) > 200 := by omega
          rw [if_neg (by decide), if_pos rfl, if_pos rfl, decide_eq_false g, decide_eq_true g2]; rfl
      · simp [z]
    · by_cases h2 : a0 = 2
      · subst h2
        have : valJ (if (2 : Int) = 1 then false else e) 2 a1 a2 = (!e && (decide (-1000000000 ≤ a1) && decide (a1 ≤ 1000000000))) := by
          rw [← two_sided]; rfl
        rw [this]
        by_cases z : a1 ≥ -1000000000
        · by_cases y : a1 ≤ 1000000000
          · cases e <;> simp [z, y]
          · cases e <;> simp [z, y]
        · have z' : ¬ (-1000000000 ≤ a1) := z
          cases e <;> simp [z, z']
      · by_cases h3 : a0 = 3
        · subst h3
          have : valJ (if (3 : Int) = 1 then false else e) 3 a1 a2 = (!e && (decide (0 ≤ a1) && decide (a1 ≤ 73048))) := by
            rw [← two_sided]; rfl
          rw [this]
          by_cases z : a1 ≥ 0
          · by_cases y : a1 ≤ 73048
            · cases e <;> simp [z, y]
            · cases e <;> simp [z, y]
          · have z' : ¬ (0 ≤ a1) := z
            cases e <;> simp [z, z']
        · by_cases h4 : a0 = 4
          · subst h4
            have : valJ (if (4 : Int) = 1 then false else e) 4 a1 a2 = (!e && (decide (a1 = 0) || decide (a1 = 1))) := by
              rw [← one, ← two_sided]; rfl
            rw [this]
            by_cases z : a1 = 0
            · cases e <;> simp [z]
            · by_cases y : a1 = 1
              · cases e <;> simp [y]
              · cases e <;> simp [z, y]
          · have : valJ (if a0 = 1 then false else e) a0 a1 a2 = false := by
              unfold valJ
              rw [if_neg h0, if_neg h1, if_neg h1, if_neg h2, if_neg h3, if_neg h4]
              split <;> rfl
            rw [this, if_neg h0, if_neg h1, if_neg h2, if_neg h3, if_neg h4]
end Go.Proofs.YtgomlpndoolllaaDoor.Pure
end

section
/- What the reference's Jaro tells. -/
namespace Go.Proofs.YtgomlpndoolllaaDoor.Pure
open Go Go.RowKit Go.Proofs.YtgomlpndoolllaaDoor.Q Go.Proofs.YtgomlpndoolllaaDoorW.PrintWords Go.Proofs.YtgomlpndoolllaaDoorW.PrintLast Go.Proofs.YtgomlpndoolllaaDoorW.PrintMore
set_option linter.unusedVariables false
set_option linter.unusedSimpArgs false
section
variable (x0 x1 : ByteArray)
theorem rjaro_l1 (h0 : x0.size ≤ 200) (h1 : x1.size ≤ 200) (i : Nat) (hi : i < x0.size) (T : List Bool) (hT : JSt1 x0 x1 i T) (v : Int × Int)
    (next : ∀ T', JSt1 x0 x1 (i + 1) T' → Ev (fun k => cleanseref04_Jaro.l0 k x0 x1 ((win x0.size x1.size : Nat) : Int) T' (jL x0 x1 (i + 1)) ((i + 1 : Nat) : Int)) v) :
    ∀ (d j : Nat), x1.size ≤ d + j → j ≤ 400 → i ≤ j + win x0.size x1.size → (∀ t, t < j → mt (jC x0 x1) i t = false) →
      Ev (fun k => cleanseref04_Jaro.l1 k x0 x1 ((win x0.size x1.size : Nat) : Int) T (jL x0 x1 i) (i : Int) (j : Int)) v := by
  have hww : win x0.size x1.size ≤ 200 := by unfold win; omega
  have done : ∀ j : Nat, (x1.size ≤ j ∨ i + win x0.size x1.size < j) → (∀ t, t < j → mt (jC x0 x1) i t = false) → Ev (fun k => cleanseref04_Jaro.l0 k x0 x1 ((win x0.size x1.size : Nat) : Int) T (jL x0 x1 i) ((i + 1 : Nat) : Int)) v := by
    intro j he hz
    have hall : ∀ t, t < x1.size → mt (jC x0 x1) i t = false := by
      intro t ht
      by_cases htj : t < j
      · exact hz t htj
      · cases k : mt (jC x0 x1) i t with
        | false => rfl
        | true =>
          have := (jC_iff x0 x1 i t).1 ((mt_iff _ _ _).1 k).1
          omega
    have hL : jL x0 x1 (i + 1) = jL x0 x1 i := by
      show lefts _ _ _ _ = _
      rw [lefts_succ, if_neg (fun h => by obtain ⟨t, ht, hm⟩ := hasL_iff.1 h; rw [hall t ht] at hm; cases hm)]
    have hn := next T ⟨hT.1, fun t ht => by rw [hT.2 t ht, hasR_succ, hall t ht, Bool.or_false]⟩
    rw [hL] at hn
    exact hn
  have j4f : ∀ j : Nat, (x1.size ≤ j ∨ i + win x0.size x1.size < j) → (∀ t, t < j → mt (jC x0 x1) i t = false) → Ev (fun k => cleanseref04_Jaro.j4 k x0 x1 ((win x0.size x1.size : Nat) : Int) T (jL x0 x1 i) (i : Int) (j : Int) false) v := by
    intro j he hz
    refine Ev.step (fun k => ?_) (done j he hz)
    simp only [cleanseref04_Jaro.j4]
    rw [if_neg (by simp), wrap_suc _ (by omega)]
  intro d
  induction d with
  | zero =>
    intro j hd hj4 hw hz
    refine Ev.step (fun k => ?_) (j4f j (.inl (by omega)) hz)
    simp only [cleanseref04_Jaro.l1]
    rw [if_neg (by omega)]
  | succ d ih =>
    intro j hd hj4 hw hz
    by_cases hjl : x1.size ≤ j
    · refine Ev.step (fun k => ?_) (j4f j (.inl hjl) hz)
      simp only [cleanseref04_Jaro.l1]
      rw [if_neg (by omega)]
    · have ew : wrap64 ((i : Int) + ((win x0.size x1.size : Nat) : Int)) = ((i + win x0.size x1.size : Nat) : Int) := by rw [i64_id (by omega) (by omega)]; omega
      by_cases hje : i + win x0.size x1.size < j
      · refine Ev.step (fun k => ?_) (j4f j (.inr hje) hz)
        simp only [cleanseref04_Jaro.l1]
        rw [if_pos (by omega), ew, decide_eq_false (by omega)]
      · have hjb : j < x1.size := by omega
        have hr : rdOf false T (j : Int) = hasR (jC x0 x1) i j := rdOf_get (hT.2 j hjb)
        have hTl := hT.1
        have cont : mt (jC x0 x1) i j = false → Ev (fun k => cleanseref04_Jaro.l1 k x0 x1 ((win x0.size x1.size : Nat) : Int) T (jL x0 x1 i) (i : Int) ((j + 1 : Nat) : Int)) v := fun hm =>
          ih (j + 1) (by omega) (by omega) (by omega) (fun t ht => by
            by_cases hte : t = j
            · rw [hte]; exact hm
            · exact hz t (by omega))
        have enter : Ev (fun k => cleanseref04_Jaro.j4 k x0 x1 ((win x0.size x1.size : Nat) : Int) T (jL x0 x1 i) (i : Int) (j : Int) true) v := by
          cases hb : hasR (jC x0 x1) i j with
          | true =>
            have hm : mt (jC x0 x1) i j = false := by
              obtain ⟨i', hi', hm'⟩ := hasR_iff.1 hb
              cases k : mt (jC x0 x1) i j with
              | false => rfl
              | true => have := ((mt_iff _ _ _).1 k).2.2 i' hi'; rw [this] at hm'; cases hm'
            refine Ev.step (fun k => ?_) (cont hm)
            simp only [cleanseref04_Jaro.j4]
            rw [if_pos trivial, if_pos (by omega), if_pos (by omega), hr, hb, if_pos rfl, wrap_suc _ (by omega)]
          | false =>
            have hfree : ∀ t, t < i → mt (jC x0 x1) t j = false := fun t ht => by
              cases k : mt (jC x0 x1) t j with
              | false => rfl
              | true => have := hasR_iff.2 ⟨t, ht, k⟩; rw [hb] at this; cases this
            by_cases hq : Go.Proofs.YtgomlpndoolllaaDoorW.PrintWords.bt x0 (i : Int) = Go.Proofs.YtgomlpndoolllaaDoorW.PrintWords.bt x1 (j : Int)
            · have hm : mt (jC x0 x1) i j = true := (mt_iff _ _ _).2 ⟨(jC_iff x0 x1 i j).2 ⟨hw, by omega, hq⟩, hz, hfree⟩
              have hL : jL x0 x1 (i + 1) = jL x0 x1 i ++ [Go.Proofs.YtgomlpndoolllaaDoorW.PrintWords.bt x0 (i : Int)] := by
                show lefts _ _ _ _ = _
                rw [lefts_succ, if_pos (hasL_iff.2 ⟨j, hjb, hm⟩)]
              have hn := next (T.set j true) ⟨by rw [List.length_set]; exact hTl, fun t ht => by
                rw [hasR_succ]
                by_cases hte : t = j
                · subst hte; rw [hm, Bool.or_true, List.getElem?_set_self (by omega)]
                · rw [mt_row hm hte, Bool.or_false, List.getElem?_set_ne (fun h => hte h.symm)]; exact hT.2 t ht⟩
              rw [hL] at hn
              have hle2 : (jL x0 x1 i).length ≤ i := lefts_le (jC x0 x1) (jA x0) x1.size i
              refine Ev.step (fun k => ?_) hn
              simp only [cleanseref04_Jaro.j4]
              rw [if_pos trivial, if_pos (by omega), if_pos (by omega), hr, hb, if_neg (by simp), if_pos (by omega), if_pos (by omega), if_pos (by omega), if_pos hq, if_pos (by omega), wrap_suc _ (by omega), Int.toNat_natCast]
            · have hm : mt (jC x0 x1) i j = false := by
                cases k : mt (jC x0 x1) i j with
                | false => rfl
                | true => exact absurd ((jC_iff x0 x1 i j).1 ((mt_iff _ _ _).1 k).1).2.2 hq
              refine Ev.step (fun k => ?_) (cont hm)
              simp only [cleanseref04_Jaro.j4]
              rw [if_pos trivial, if_pos (by omega), if_pos (by omega), hr, hb, if_neg (by simp), if_pos (by omega), if_pos (by omega), if_pos (by omega), if_neg hq, wrap_suc _ (by omega)]
        refine Ev.step (fun k => ?_) enter
        simp only [cleanseref04_Jaro.l1]
        rw [if_pos (by omega), ew, decide_eq_true (by omega)]
theorem rjaro_l0 (h0 : x0.size ≤ 200) (h1 : x1.size ≤ 200) (v : Int × Int)
    (next : ∀ T', JSt1 x0 x1 x0.size T' → Ev (fun k => if ((jL x0 x1 x0.size).length : Int) = 0 then some (0, 1) else cleanseref04_Jaro.l2 k x0 x1 T' (jL x0 x1 x0.size) ((jL x0 x1 x0.size).length : Int) 0 0 0) v) :
    ∀ (d i : Nat) (T : List Bool), d + i = x0.size → JSt1 x0 x1 i T → Ev (fun k => cleanseref04_Jaro.l0 k x0 x1 ((win x0.size x1.size : Nat) : Int) T (jL x0 x1 i) (i : Int)) v := by
  intro d
  induction d with
  | zero =>
    intro i T hd hT
    obtain rfl : i = x0.size := by omega
    refine Ev.step (fun k => ?_) (next T hT)
    simp only [cleanseref04_Jaro.l0]
    rw [if_neg (by omega)]
  | succ d ih =>
    intro i T hd hT
    have hww : win x0.size x1.size ≤ 200 := by unfold win; omega
    have hl := rjaro_l1 x0 x1 h0 h1 i (by omega) T hT v (fun T' hT' => ih (i + 1) T' (by omega) hT') x1.size (i - win x0.size x1.size) (by omega) (by omega) (by omega)
      (fun t ht => by
        cases k : mt (jC x0 x1) i t with
        | false => rfl
        | true =>
          have := (jC_iff x0 x1 i t).1 ((mt_iff _ _ _).1 k).1
          omega)
    refine Ev.step (fun k => ?_) hl
    simp only [cleanseref04_Jaro.l0]
    have e2 : mx 0 (wrap64 ((i : Int) - ((win x0.size x1.size : Nat) : Int))) = ((i - win x0.size x1.size : Nat) : Int) := by
      rw [i64_id (by omega) (by omega)]; unfold mx; split <;> omega
    rw [if_pos (by omega), e2]
theorem rjaro_num (m la lb u : Nat) (hm : m ≤ 200) (ha : la ≤ 200) (hb : lb ≤ 200) (hu : u ≤ m) :
    wrap64 ((wrap64 ((wrap64 ((wrap64 (2 * (m : Int))) * (m : Int))) * (wrap64 ((la : Int) + (lb : Int))))) + (wrap64 ((wrap64 ((wrap64 (2 * (m : Int))) - (u : Int))) * (wrap64 ((la : Int) * (lb : Int)))))) = ((2 * m * m * lb + 2 * m * m * la + (2 * m - u) * la * lb : Nat) : Int) ∧
    wrap64 ((wrap64 (6 * (m : Int))) * (wrap64 ((la : Int) * (lb : Int)))) = ((6 * la * lb * m : Nat) : Int) := by
  have big : ∀ {n b : Nat}, n ≤ b → b ≤ 1000000000 → n < 9223372036854775808 := fun h k => by omega
  have a1 : 2 * m * m ≤ 400 * 200 := Nat.mul_le_mul (by omega) hm
  have a2 : 2 * m * m * (la + lb) ≤ 400 * 200 * 400 := Nat.mul_le_mul a1 (by omega)
  have a3 : la * lb ≤ 200 * 200 := Nat.mul_le_mul ha hb
  have a4 : (2 * m - u) * (la * lb) ≤ 400 * (200 * 200) := Nat.mul_le_mul (by omega) a3
  have a5 : 6 * m * (la * lb) ≤ 1200 * (200 * 200) := Nat.mul_le_mul (by omega) a3
  have a6 : 2 * m ≤ 400 := by omega
  have a7 : 2 * m - u ≤ 400 := by omega
  have a8 : 6 * m ≤ 1200 := by omega
  have a9 : la + lb ≤ 400 := by omega
  have hu2 : u ≤ 2 * m := by omega
  have w1 : wrap64 (2 * (m : Int)) = ((2 * m : Nat) : Int) := (congrArg wrap64 (Int.natCast_mul 2 m).symm).trans (wrap_nat (big a6 (by decide)))
  have w2 : wrap64 (((2 * m : Nat) : Int) * (m : Int)) = ((2 * m * m : Nat) : Int) := (congrArg wrap64 (Int.natCast_mul (2 * m) m).symm).trans (wrap_nat (big a1 (by decide)))
  have w3 : wrap64 ((la : Int) + (lb : Int)) = ((la + lb : Nat) : Int) := (congrArg wrap64 (Int.natCast_add la lb).symm).trans (wrap_nat (big a9 (by decide)))
  have w4 : wrap64 (((2 * m * m : Nat) : Int) * ((la + lb : Nat) : Int)) = ((2 * m * m * (la + lb) : Nat) : Int) := (congrArg wrap64 (Int.natCast_mul (2 * m * m) (la + lb)).symm).trans (wrap_nat (big a2 (by decide)))
  have w5 : wrap64 (((2 * m : Nat) : Int) - (u : Int)) = ((2 * m - u : Nat) : Int) := (congrArg wrap64 (Int.ofNat_sub hu2).symm).trans (wrap_nat (big a7 (by decide)))
  have w6 : wrap64 ((la : Int) * (lb : Int)) = ((la * lb : Nat) : Int) := (congrArg wrap64 (Int.natCast_mul la lb).symm).trans (wrap_nat (big a3 (by decide)))
  have w7 : wrap64 (((2 * m - u : Nat) : Int) * ((la * lb : Nat) : Int)) = (((2 * m - u) * (la * lb) : Nat) : Int) := (congrArg wrap64 (Int.natCast_mul (2 * m - u) (la * lb)).symm).trans (wrap_nat (big a4 (by decide)))
  have w8 : wrap64 (6 * (m : Int)) = ((6 * m : Nat) : Int) := (congrArg wrap64 (Int.natCast_mul 6 m).symm).trans (wrap_nat (big a8 (by decide)))
  have w9 : wrap64 (((6 * m : Nat) : Int) * ((la * lb : Nat) : Int)) = ((6 * m * (la * lb) : Nat) : Int) := (congrArg wrap64 (Int.natCast_mul (6 * m) (la * lb)).symm).trans (wrap_nat (big a5 (by decide)))
  have e1 : 2 * m * m * lb + 2 * m * m * la + (2 * m - u) * la * lb = 2 * m * m * (la + lb) + (2 * m - u) * (la * lb) := by rw [Nat.mul_add, Nat.mul_assoc (2 * m - u), Nat.add_comm (2 * m * m * lb)]
  have e2 : 6 * la * lb * m = 6 * m * (la * lb) := by ac_rfl
  rw [e1, e2]
  refine ⟨?_, ?_⟩
  · rw [w1, w2, w3, w4, w5, w6, w7]
    exact (congrArg wrap64 (Int.natCast_add _ _).symm).trans (wrap_nat (big (Nat.add_le_add a2 a4) (by decide)))
  · rw [w8, w6, w9]
theorem rjaro_l2 (h0 : x0.size ≤ 200) (h1 : x1.size ≤ 200) (hp0 : 0 < (jL x0 x1 x0.size).length) (T : List Bool) (hT : JSt1 x0 x1 x0.size T) :
    ∀ (d j : Nat), d + j = x1.size → Ev (fun k => cleanseref04_Jaro.l2 k x0 x1 T (jL x0 x1 x0.size) ((jL x0 x1 x0.size).length : Int) ((unl (jL x0 x1 x0.size) (jR x0 x1 j) : Nat) : Int) (((jR x0 x1 j).length : Nat) : Int) (j : Int))
      (rat (2 * (jL x0 x1 x0.size).length * (jL x0 x1 x0.size).length * x1.size + 2 * (jL x0 x1 x0.size).length * (jL x0 x1 x0.size).length * x0.size + (2 * (jL x0 x1 x0.size).length - unl (jL x0 x1 x0.size) (jR x0 x1 x1.size)) * x0.size * x1.size) (6 * x0.size * x1.size * (jL x0 x1 x0.size).length)) := by
  have hm := lefts_le (jC x0 x1) (jA x0) x1.size x0.size
  have hR := rights_le (jC x0 x1) (jA x1) x0.size x1.size
  have hs := same_count (jC x0 x1) (jA x0) (jA x1) x1.size x0.size
  have hTl := hT.1
  intro d
  induction d with
  | zero =>
    intro j hd
    obtain rfl : j = x1.size := by omega
    have hu := unl_le (jL x0 x1 x0.size) (jR x0 x1 x1.size)
    obtain ⟨m, em⟩ : ∃ m, (jL x0 x1 x0.size).length = m := ⟨_, rfl⟩
    obtain ⟨u, eu⟩ : ∃ u, unl (jL x0 x1 x0.size) (jR x0 x1 x1.size) = u := ⟨_, rfl⟩
    have em' : (lefts (jC x0 x1) (jA x0) x1.size x0.size).length = m := em
    rw [em'] at hm hs
    rw [← hs] at hR
    rw [em] at hp0
    rw [em, eu] at hu
    rw [em, eu]
    obtain ⟨g1, g2⟩ := rjaro_num m x0.size x1.size u (by omega) h0 h1 hu
    have k1 : 2 * m * m * x1.size ≤ 2 * m * x0.size * x1.size := Nat.mul_le_mul_right _ (Nat.mul_le_mul_left (2 * m) hm)
    have k2 : 2 * m * m * x0.size ≤ 2 * m * x1.size * x0.size := Nat.mul_le_mul_right _ (Nat.mul_le_mul_left (2 * m) hR)
    have k3 : (2 * m - u) * x0.size * x1.size ≤ 2 * m * x0.size * x1.size := Nat.mul_le_mul_right _ (Nat.mul_le_mul_right _ (by omega))
    have e1 : 2 * m * x1.size * x0.size = 2 * m * x0.size * x1.size := Nat.mul_right_comm _ _ _
    have e2 : 6 * x0.size * x1.size * m = 3 * (2 * m * x0.size * x1.size) := by
      rw [show 6 = 3 * 2 from rfl, Nat.mul_assoc 3, Nat.mul_assoc 3, Nat.mul_assoc 3]
      congr 1
      rw [Nat.mul_right_comm 2 m, Nat.mul_right_comm (2 * x0.size) m]
    have p0 : 0 < 2 * m * x0.size * x1.size := Nat.mul_pos (Nat.mul_pos (by omega) (by omega)) (by omega)
    have p1 : 2 * m * x0.size * x1.size ≤ 2 * 200 * 200 * 200 := Nat.mul_le_mul (Nat.mul_le_mul (by omega) h0) h1
    have hsh := rshare_f (2 * m * m * x1.size + 2 * m * m * x0.size + (2 * m - u) * x0.size * x1.size) (6 * x0.size * x1.size * m) (by omega) (by omega) (by omega)
    refine Ev.step (fun k => ?_) (Ev.bind hsh (Ev.now _))
    simp only [cleanseref04_Jaro.l2]
    rw [if_neg (by omega), g1, g2]
  | succ d ih =>
    intro j hd
    have hr : rdOf false T (j : Int) = hasR (jC x0 x1) x0.size j := rdOf_get (hT.2 j (by omega))
    have ihj := ih (j + 1) (by omega)
    have hrs := rights_succ (jC x0 x1) (jA x1) x0.size j
    cases hb : hasR (jC x0 x1) x0.size j with
    | false =>
      rw [if_neg (by rw [hb]; simp)] at hrs
      have hrs2 : jR x0 x1 (j + 1) = jR x0 x1 j := hrs
      rw [hrs2] at ihj
      refine Ev.step (fun k => ?_) ihj
      simp only [cleanseref04_Jaro.l2]
      rw [if_pos (by omega), if_pos (by omega), if_pos (by omega), hr, hb, if_neg (by simp), wrap_suc _ (by omega)]
    | true =>
      rw [if_pos hb] at hrs
      have hmono := rights_mono (jC x0 x1) (jA x1) x0.size (x1.size - (j + 1)) (j + 1)
      rw [show j + 1 + (x1.size - (j + 1)) = x1.size by omega, hrs, List.length_append, ← hs] at hmono
      simp only [List.length_cons, List.length_nil] at hmono
      have hlt : (jR x0 x1 j).length < (jL x0 x1 x0.size).length := by
        show (rights _ _ _ _).length < (lefts _ _ _ _).length
        omega
      have hget : (jL x0 x1 x0.size)[(jR x0 x1 j).length]? = some ((jL x0 x1 x0.size)[(jR x0 x1 j).length]) := List.getElem?_eq_getElem hlt
      have hrd : rd (jL x0 x1 x0.size) (((jR x0 x1 j).length : Nat) : Int) = (jL x0 x1 x0.size)[(jR x0 x1 j).length] := by simp [rd, List.getD_eq_getElem?_getD, hget]
      have hun := unl_snoc (jA x1 j) (jL x0 x1 x0.size) (jR x0 x1 j) _ hget
      have hrs2 : jR x0 x1 (j + 1) = jR x0 x1 j ++ [jA x1 j] := hrs
      have hu := unl_le (jL x0 x1 x0.size) (jR x0 x1 j)
      have hm2 : (jL x0 x1 x0.size).length ≤ x0.size := hm
      rw [hrs2, hun, List.length_append] at ihj
      refine Ev.step (fun k => ?_) ihj
      simp only [cleanseref04_Jaro.l2]
      rw [if_pos (by omega), if_pos (by omega), if_pos (by omega), hr, hb, if_pos rfl, if_pos (by omega), if_pos (by omega), hrd, wrap_suc _ (by omega), wrap_suc _ (by omega), wrap_suc _ (by omega)]
      by_cases hq : (jL x0 x1 x0.size)[(jR x0 x1 j).length] = jA x1 j
      · rw [if_pos hq, if_pos hq.symm]; rfl
      · rw [if_neg hq, if_neg (fun e => hq e.symm)]; rfl
theorem rjaro_f (h0 : x0.size ≤ 200) (h1 : x1.size ≤ 200) : Ev (fun k => cleanseref04_Jaro.f k x0 x1) (jaroN x0.size x1.size (jA x0) (jA x1)) := by
  have hj1 : ¬ (x0.size = 0 ∧ x1.size = 0) → Ev (fun k => cleanseref04_Jaro.j1 k x0 x1 false) (jaroN x0.size x1.size (jA x0) (jA x1)) := by
    intro hne
    have hl := rjaro_l0 x0 x1 h0 h1 (jaroN x0.size x1.size (jA x0) (jA x1)) (fun T hT => by
      unfold jaroN
      rw [if_neg hne]
      dsimp only
      by_cases hm : (jL x0 x1 x0.size).length = 0
      · rw [if_pos hm]
        exact Ev.congr (fun k => by rw [if_pos (by omega)]) (Ev.now _)
      · rw [if_neg hm]
        have h2 := rjaro_l2 x0 x1 h0 h1 (by omega) T hT x1.size 0 rfl
        have z1 : jR x0 x1 0 = [] := rfl
        have z2 : unl (jL x0 x1 x0.size) [] = 0 := by unfold unl; rw [List.zip_nil_right]; rfl
        rw [z1, z2] at h2
        refine Ev.congr (fun k => ?_) h2
        rw [if_neg (by omega)]
        rfl) x0.size 0 (List.replicate x1.size false) rfl ⟨List.length_replicate, fun t ht => by rw [List.getElem?_replicate, if_pos ht]; rfl⟩
    refine Ev.step (fun k => ?_) hl
    simp only [cleanseref04_Jaro.j1]
    have e1 : mx (wrap64 (wrap64 (mx (x0.size : Int) (x1.size : Int) / 2) - 1)) 0 = ((win x0.size x1.size : Nat) : Int) := by
      rw [mx_nat, i64_id (n := ((max x0.size x1.size : Nat) : Int) / 2) (by omega) (by omega), i64_id (by omega) (by omega)]
      unfold win mx
      split <;> omega
    rw [if_neg (by simp), if_pos (by omega), if_pos (by omega), e1, Int.toNat_natCast]
    rfl
  have hj0 : Ev (fun k => cleanseref04_Jaro.j0 k x0 x1 false) (jaroN x0.size x1.size (jA x0) (jA x1)) := by
    by_cases hz0 : x0.size = 0
    · by_cases hz1 : x1.size = 0
      · refine Ev.step (f := fun k => cleanseref04_Jaro.j1 k x0 x1 true) (fun k => ?_) (Ev.step (f := fun _ => some (1, 1)) (fun k => ?_) ?_)
        · simp only [cleanseref04_Jaro.j0]
          rw [if_neg (by simp), if_pos (by omega), show ((x1.size : Int) == 0) = true by rw [beq_iff_eq]; omega]
        · simp only [cleanseref04_Jaro.j1]
          rw [if_pos trivial]
        · unfold jaroN; rw [if_pos ⟨hz0, hz1⟩]; exact Ev.now _
      · refine Ev.step (fun k => ?_) (hj1 (fun h => hz1 h.2))
        simp only [cleanseref04_Jaro.j0]
        rw [if_neg (by simp), if_pos (by omega), show ((x1.size : Int) == 0) = false by rw [beq_eq_false_iff_ne]; omega]
    · refine Ev.step (fun k => ?_) (hj1 (fun h => hz0 h.1))
      simp only [cleanseref04_Jaro.j0]
      rw [if_neg (by simp), if_neg (by omega)]
  refine Ev.congr (fun k => ?_) hj0
  unfold cleanseref04_Jaro.f
  rw [if_neg (by omega), decide_eq_false (by omega)]
theorem rjaroB_f : Ev (fun k => cleanseref04_Jaro.f k x0 x1) (jaroB x0 x1) := by
  unfold jaroB
  by_cases h : 200 < x0.size ∨ 200 < x1.size
  · rw [if_pos h]
    have hj : Ev (fun k => cleanseref04_Jaro.j0 k x0 x1 true) (0, 1) := Ev.step (f := fun _ => some (0, 1)) (fun k => by simp only [cleanseref04_Jaro.j0]; rw [if_pos trivial]) (Ev.now _)
    refine Ev.congr (fun k => ?_) hj
    unfold cleanseref04_Jaro.f
    by_cases h0 : (x0.size : Int) > 200
    · rw [if_pos h0]
    · rw [if_neg h0, decide_eq_true (by omega)]
  · rw [if_neg h]; exact rjaro_f x0 x1 (by omega) (by omega)
end
end Go.Proofs.YtgomlpndoolllaaDoor.Pure
end

section
/- The plain law of MeasureMatchesReference. -/
namespace Go.Proofs.YtgomlpndoolllaaDoor.Pure
open Go Go.RowKit Go.Proofs.YtgomlpndoolllaaDoor.Q Go.Proofs.YtgomlpndoolllaaDoor.LMatchesReference Go.Proofs.YtgomlpndoolllaaDoorW.PrintWords Go.Proofs.YtgomlpndoolllaaDoorW.PrintLast Go.Proofs.YtgomlpndoolllaaDoorW.PrintMore
set_option linter.unusedVariables false
set_option linter.unusedSimpArgs false

theorem rtext (m : Int) (a b : ByteArray) (ha : a.size ≤ 1000) (hb : b.size ≤ 1000) (x0 x1 : Int) (y0 y1 : Int) (hm : m = 2 ∨ m = 3 ∨ m = 4) : Ev (fun k => cleanseref04_Of.j2 k m false x0 x1 a y0 y1 b) (withE (textS m a b)) := by
  have ta := tl_size a
  have tb := tl_size b
  have e1 : a.toList = a.data.toList := Go.ByteArray.toList_eq a
  have e2 : b.toList = b.data.toList := Go.ByteArray.toList_eq b
  refine Ev.step (f := fun k => if m = 3 then ((cleanseref03_Tokens.f k a).bind fun t332 => ((cleanseref03_Tokens.f k b).bind fun t335 => ((cleanseref04_Jaccard.f k t332 t335).bind fun bt338 => (some (bt338.1, bt338.2, 0))))) else ((cleanseref03_Fold.f k a).bind fun t340 => ((cleanseref03_Fold.f k b).bind fun t341 => (if m = 2 then ((cleanseref04_Alike.f k t340 t341).bind fun bt342 => (some (bt342.1, bt342.2, 0))) else ((cleanseref04_Jaro.f k t340 t341).bind fun bt344 => (some (bt344.1, bt344.2, 0))))))) (fun k => by simp only [cleanseref04_Of.j2]; rw [if_neg (by simp)]) ?_
  by_cases h3 : m = 3
  · subst h3
    have l1 := sortU_len (wordsL a.toList)
    have l2 := words_len a.toList
    have l3 := sortU_len (wordsL b.toList)
    have l4 := words_len b.toList
    have hj := rjac_f ((sortU (wordsL a.toList)).map ofL) ((sortU (wordsL b.toList)).map ofL) (by rw [List.length_map]; omega) (by rw [List.length_map]; omega)
    rw [dataL_ofL, dataL_ofL] at hj
    unfold textS
    rw [if_neg (by decide), if_pos rfl, ← e1, ← e2]
    exact Ev.congr (fun k => by rw [if_pos rfl]) (Ev.bind (rtokens_f (s := a) (by omega)) (Ev.bind (rtokens_f (s := b) (by omega)) (Ev.bind hj (Ev.now (withE (jacS _ _))))))
  · refine Ev.congr (fun k => by rw [if_neg h3]) (Ev.bind (rfold_f (s := a) (by omega)) (Ev.bind (rfold_f (s := b) (by omega)) ?_))
    unfold textS
    rw [← e1, ← e2]
    have f1 := foldL_len a.toList
    have f2 := foldL_len b.toList
    by_cases h2 : m = 2
    · rw [if_pos h2]
      have hal := ralike_f (ofL (foldL a.toList)) (ofL (foldL b.toList)) (by rw [tl_ofL]; omega) (by rw [tl_ofL]; omega)
      rw [tl_ofL, tl_ofL] at hal
      exact Ev.congr (fun k => by rw [if_pos h2]) (Ev.bind hal (Ev.now (withE (alikeS _ _))))
    · rw [if_neg h2, if_neg h3]
      exact Ev.congr (fun k => by rw [if_neg h2]) (Ev.bind (rjaroB_f _ _) (Ev.now (withE (jaroB _ _))))
theorem rof_j1 (m tol a0 a1 : Int) (a2 : ByteArray) (b0 b1 : Int) (b2 : ByteArray) (hm : ¬ (m < 1 ∨ 5 < m)) (ht : I64 tol) (ha : I64 a1) (hb : I64 b1) (sa : a2.size ≤ 1000) (sb : b2.size ≤ 1000) (h1 : ¬ (m = 5 ∧ (tol < 0 ∨ 1000000000 ≤ tol))) :
    Ev (fun k => cleanseref04_Of.j1 k m tol (decide (a0 = 0 ∨ b0 = 0)) a0 a1 a2 b0 b1 b2) (ofT m tol a0 a1 a2 b0 b1 b2) := by
  unfold ofT
  rw [if_neg h1]
  by_cases h2 : a0 = 0 ∨ b0 = 0
  · rw [if_pos h2, decide_eq_true h2]
    exact Ev.step (f := fun _ => some (0, 1, 0)) (fun k => by simp only [cleanseref04_Of.j1]; rw [if_pos trivial]) (Ev.now _)
  · rw [if_neg h2, decide_eq_false h2]
    by_cases h3 : m = 1
    · rw [if_pos h3]
      by_cases h : a0 = b0 ∧ a1 = b1 ∧ a2.toList = b2.toList
      · rw [if_pos h]
        refine Ev.step (f := fun _ => some (1, 1, 0)) (fun k => ?_) (Ev.now _)
        simp only [cleanseref04_Of.j1]
        rw [if_neg (by simp), if_pos h3, if_pos (by simp [h])]
      · rw [if_neg h]
        refine Ev.step (f := fun _ => some (0, 1, 0)) (fun k => ?_) (Ev.now _)
        simp only [cleanseref04_Of.j1]
        rw [if_neg (by simp), if_pos h3, if_neg (by simpa using h)]
    · rw [if_neg h3]
      by_cases h5 : m = 5
      · subst h5
        by_cases he : a0 = b0
        · by_cases h6 : a0 = 2
          · rw [if_neg (by omega), if_pos rfl]
            refine Ev.step (f := fun k => (cleanseref04_Near.f k a1 b1 tol).bind fun z => some (z.1, z.2, 0)) (fun k => ?_) (Ev.bind (rnear_f a1 b1 tol ha hb ht) (Ev.now _))
            simp only [cleanseref04_Of.j1]
            rw [if_neg (by simp), if_neg (by decide), if_pos trivial, if_pos he, if_pos h6]
          · by_cases h7 : a0 = 3
            · rw [if_neg (by omega), if_pos rfl]
              refine Ev.step (f := fun k => (cleanseref04_Near.f k a1 b1 tol).bind fun z => some (z.1, z.2, 0)) (fun k => ?_) (Ev.bind (rnear_f a1 b1 tol ha hb ht) (Ev.now _))
              simp only [cleanseref04_Of.j1]
              rw [if_neg (by simp), if_neg (by decide), if_pos trivial, if_pos he, if_neg h6, if_pos h7]
            · rw [if_pos (by omega)]
              refine Ev.step (f := fun _ => some (0, 0, 10)) (fun k => ?_) (Ev.now _)
              simp only [cleanseref04_Of.j1]
              rw [if_neg (by simp), if_neg (by decide), if_pos trivial, if_pos he, if_neg h6, if_neg h7]
        · rw [if_pos (.inl he)]
          refine Ev.step (f := fun _ => some (0, 0, 10)) (fun k => ?_) (Ev.now _)
          simp only [cleanseref04_Of.j1]
          rw [if_neg (by simp), if_neg (by decide), if_pos trivial, if_neg he]
      · have bad : Ev (fun k => cleanseref04_Of.j2 k m true a0 a1 a2 b0 b1 b2) (0, 0, 10) := Ev.step (f := fun _ => some (0, 0, 10)) (fun k => by simp only [cleanseref04_Of.j2]; rw [if_pos trivial]) (Ev.now _)
        by_cases ha1 : a0 = 1
        · by_cases hb1 : b0 = 1
          · rw [if_neg (by omega), if_neg h5]
            refine Ev.step (fun k => ?_) (rtext m a2 b2 sa sb a0 a1 b0 b1 (by omega))
            simp only [cleanseref04_Of.j1]
            rw [if_neg (by simp), if_neg h3, if_neg h5, if_pos ha1, show (b0 != 1) = false by rw [hb1]; rfl]
          · rw [if_pos (by omega)]
            refine Ev.step (fun k => ?_) bad
            simp only [cleanseref04_Of.j1]
            rw [if_neg (by simp), if_neg h3, if_neg h5, if_pos ha1, show (b0 != 1) = true by simpa using hb1]
        · rw [if_pos (by omega)]
          refine Ev.step (fun k => ?_) bad
          simp only [cleanseref04_Of.j1]
          rw [if_neg (by simp), if_neg h3, if_neg h5, if_neg ha1]
theorem rOf_f (m tol a0 a1 : Int) (a2 : ByteArray) (b0 b1 : Int) (b2 : ByteArray) (ht : I64 tol) (ha : I64 a1) (hb : I64 b1) (sa : a2.size ≤ 1000) (sb : b2.size ≤ 1000) :
    Ev (fun k => cleanseref04_Of.f k m tol a0 a1 a2 b0 b1 b2) (ofS m tol a0 a1 a2 b0 b1 b2) := by
  have bad : Ev (fun k => cleanseref04_Of.j0 k m tol true a0 a1 a2 b0 b1 b2) (0, 0, 1) := Ev.step (f := fun _ => some (0, 0, 1)) (fun k => by simp only [cleanseref04_Of.j0]; rw [if_pos trivial]) (Ev.now _)
  unfold ofS
  by_cases h1 : m < 1
  · rw [if_pos (.inl h1)]
    exact Ev.congr (fun k => by unfold cleanseref04_Of.f; rw [if_pos h1]) bad
  · by_cases h2 : m > 5
    · rw [if_pos (.inr h2)]
      exact Ev.congr (fun k => by unfold cleanseref04_Of.f; rw [if_neg h1, if_pos h2]) bad
    · rw [if_neg (by omega)]
      refine Ev.congr (fun k => by unfold cleanseref04_Of.f; rw [if_neg h1, if_neg h2, rvalid_f, Option.bind_some, rvalid_f, Option.bind_some]) ?_
      cases hva : valB a0 a1 a2 with
      | false => exact Ev.congr (fun k => by rw [if_neg (by simp)]) (by rw [if_neg (by simp)]; exact bad)
      | true =>
        rw [if_pos rfl]
        cases hvb : valB b0 b1 b2 with
        | false => exact Ev.congr (fun k => by rw [if_pos rfl, if_neg (by simp)]) (by rw [if_neg (by simp)]; exact bad)
        | true =>
          rw [if_pos rfl]
          refine Ev.congr (fun k => by rw [if_pos rfl, if_pos rfl]) ?_
          have good : ¬ (m = 5 ∧ (tol < 0 ∨ 1000000000 ≤ tol)) → Ev (fun k => cleanseref04_Of.j0 k m tol false a0 a1 a2 b0 b1 b2) (ofT m tol a0 a1 a2 b0 b1 b2) := by
            intro hg
            have hj := rof_j1 m tol a0 a1 a2 b0 b1 b2 (by omega) ht ha hb sa sb hg
            refine Ev.step (fun k => ?_) hj
            simp only [cleanseref04_Of.j0]
            rw [if_neg (by simp)]
            by_cases z : a0 = 0
            · rw [if_pos z, decide_eq_true (.inl z)]
            · rw [if_neg z]
              by_cases y : b0 = 0
              · rw [decide_eq_true (.inr y), show (b0 == 0) = true by rw [beq_iff_eq]; exact y]
              · rw [decide_eq_false (by omega), show (b0 == 0) = false by rw [beq_eq_false_iff_ne]; exact y]
          by_cases h5 : m = 5
          · by_cases h6 : tol < 0
            · have : ofT m tol a0 a1 a2 b0 b1 b2 = (0, 0, 1) := by unfold ofT; rw [if_pos ⟨h5, .inl h6⟩]
              rw [this]
              exact Ev.congr (fun k => by rw [if_pos h5, if_pos h6]) bad
            · by_cases h7 : tol > 999999999
              · have : ofT m tol a0 a1 a2 b0 b1 b2 = (0, 0, 1) := by unfold ofT; rw [if_pos ⟨h5, .inr (by omega)⟩]
                rw [this]
                exact Ev.congr (fun k => by rw [if_pos h5, if_neg h6, decide_eq_true h7]) bad
              · exact Ev.congr (fun k => by rw [if_pos h5, if_neg h6, decide_eq_false h7]) (good (by omega))
          · exact Ev.congr (fun k => by rw [if_neg h5]) (good (by omega))
theorem small_f2 (a b c : ByteArray) (l m : List ByteArray) (x y t : Int) : ∃ r, Ev (fun k => cleanselaw04_small.f k a b c l m x y t) r ∧ (r = true → a.size ≤ 300 ∧ b.size ≤ 300 ∧ FewP l ∧ FewP m) := by
  obtain ⟨b1, hb, hbi⟩ := short_f 300 [a, b, c] (by simp)
  cases b1 with
  | false => exact ⟨false, Ev.congr (fun k => by unfold cleanselaw04_small.f; rfl) (Ev.bind hb (Ev.congr (fun k => by rw [if_neg (by simp)]) (Ev.now _))), fun h => (by cases h)⟩
  | true =>
    obtain ⟨b2, hf, hfi⟩ := few_f [l, m] (by simp)
    refine ⟨b2, Ev.congr (fun k => by unfold cleanselaw04_small.f; rfl) (Ev.bind hb (Ev.congr (fun k => by rw [if_pos rfl]) (Ev.bind hf (Ev.now _)))), fun h => ?_⟩
    have hh := hbi.1 rfl
    exact ⟨Int.ofNat_le.1 (hh a (by simp)), Int.ofNat_le.1 (hh b (by simp)), hfi h l (by simp), hfi h m (by simp)⟩
theorem refl_pair (x y : Int) : (x == x && y == y) = true := by simp
theorem matches_ev (a b c : ByteArray) (l m : List ByteArray) (x y t : Int) (kind : Int) (p0 p1 : Int) (p2 : ByteArray) (q0 q1 : Int) (q2 : ByteArray) (hx : I64 x) (hy : I64 y) (ht : I64 t) (hk : (Lit.int .i64 kind).wf = true) (hp : I64 p1) (hq : I64 q1) :
    Ev (fun k => cleanselaw04_MeasureMatchesReference.f k a b c l m x y t kind p0 p1 p2 q0 q1 q2) true := by
  have out : Ev (fun k => cleanselaw04_MeasureMatchesReference.j0 k kind true true a b c l m x y t p0 p1 p2 q0 q1 q2) true := Ev.step (f := fun _ => some true) (fun k => by simp only [cleanselaw04_MeasureMatchesReference.j0]; rw [if_pos trivial]) (Ev.now _)
  obtain ⟨r, hr, hri⟩ := small_f2 a b c l m x y t
  refine Ev.congr (fun k => by unfold cleanselaw04_MeasureMatchesReference.f cleanselaw04_head.f; rw [Option.bind_some]) (Ev.bind hr ?_)
  cases r with
  | false => exact Ev.congr (fun k => by rw [if_neg (by simp)]) out
  | true =>
    obtain ⟨ha, hb, hl, hm⟩ := hri rfl
    clear hr hri
    obtain ⟨s, hs, hsi⟩ := short_f 300 [p2, q2] (by simp)
    refine Ev.congr (fun k => by rw [if_pos rfl]) (Ev.bind hs ?_)
    cases s with
    | false => exact Ev.congr (fun k => rfl) out
    | true =>
      have hh := hsi.1 rfl
      have b2 : p2.size ≤ 300 := Int.ofNat_le.1 (hh p2 (by simp))
      have b3 : q2.size ≤ 300 := Int.ofNat_le.1 (hh q2 (by simp))
      clear hs hsi hh
      have l1 := hl.1
      have l2 := hm.1
      have ta := tl_size a
      have tb := tl_size b
      have j1 : Ev (fun k => cleanselaw04_MeasureMatchesReference.j1 k kind true true a b c l m x y t p0 p1 p2 q0 q1 q2) true := by
        refine Ev.step (fun k => by simp only [cleanselaw04_MeasureMatchesReference.j1]; rfl) (Ev.bind (of_f kind t p0 p1 p2 q0 q1 q2 hk ht hp hq (by omega) (by omega)) (Ev.bind (rOf_f kind t p0 p1 p2 q0 q1 q2 ht hp hq (by omega) (by omega)) ?_))
        refine Ev.congr (fun k => by rw [if_pos trivial, if_pos trivial]) (Ev.bind (jaroB_f a b) (Ev.bind (rjaroB_f a b) ?_))
        refine Ev.congr (fun k => by rw [if_pos (refl_pair _ _)]) (Ev.bind (near_f x y t hx hy ht) (Ev.bind (rnear_f x y t hx hy ht) ?_))
        exact Ev.congr (fun k => by rw [if_pos (refl_pair _ _), if_pos (refl_pair _ _), beq_self_eq_true]) (Ev.now true)
      refine Ev.congr (f := fun k => cleanselaw04_MeasureMatchesReference.j0 k kind true false a b c l m x y t p0 p1 p2 q0 q1 q2) (fun k => rfl) ?_
      refine Ev.step (fun k => by simp only [cleanselaw04_MeasureMatchesReference.j0]; rw [if_neg (by simp)]) (Ev.bind (edit_f a b (by omega) (by omega)) (Ev.bind (redit_f a b (by omega) (by omega)) ?_))
      refine Ev.congr (fun k => by rw [if_pos rfl]) (Ev.bind (alike_f a b (by omega) (by omega)) (Ev.bind (ralike_f a b (by omega) (by omega)) ?_))
      refine Ev.congr (fun k => by rw [if_pos (refl_pair _ _)]) (Ev.bind (jac_f l m (by rw [few_ok hl, few_ok hm]; rfl) (by omega)) (Ev.bind (rjac_f l m (by omega) (by omega)) ?_))
      exact Ev.congr (fun k => by rw [refl_pair]) j1
end Go.Proofs.YtgomlpndoolllaaDoor.Pure
end

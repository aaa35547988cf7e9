/- Parts of the proof of Values: words, contracts and plain laws. -/
import Derived.Test.YtgomlpndoolllaaDoorValues11
import Derived.Test.YtgomlpndoolllaaDoorValues12
import Derived.Test.YtgomlpndoolllaaDoorValues20
import Derived.Test.YtgomlpndoolllaaDoorValues21
section
namespace Go.Proofs.YtgomlpndoolllaaDoor.LValues
open Go.RowKit Go.Proofs.YtgomlpndoolllaaDoor.Q Go.Proofs.YtgomlpndoolllaaDoorW.PrintWords Go.Proofs.YtgomlpndoolllaaDoorW.PrintLast Go.Proofs.YtgomlpndoolllaaDoorW.PrintMore
attribute [local go_sem] max2_int min2_int max_two min_two max_three min_three max_four min_four   -- for this text's walks alone
set_option linter.unusedVariables false
set_option linter.unusedSimpArgs false

attribute [local go_sem high] eqA32
/-! ### cleanselaw04_MeasureValues: function 8 -/
def cleanselaw04_MeasureValues.f (k : Nat) (a0 : Int) (a1 : Int) (a2_0 : Int) (a2_1 : Int) (a2_2 : ByteArray) (a3_0 : Int) (a3_1 : Int) (a3_2 : ByteArray) : Option (Bool) := (cleanselaw04_head.f).bind fun t103 => ((cleanseref04_Short.f k 200 (([a2_2, a3_2] : List ByteArray))).bind fun t107 => (if t107 = true then ((measure_Of.f k a0 a1 a2_0 a2_1 a2_2 a3_0 a3_1 a3_2).bind fun bt108 => ((measure_Of.f k a0 a1 a3_0 a3_1 a3_2 a2_0 a2_1 a2_2).bind fun bt112 => ((measure_Of.f k a0 a1 a2_0 a2_1 a2_2 a2_0 a2_1 a2_2).bind fun bt116 => (if bt108.2.2 = bt112.2.2 then (if (!(bt108.1 == bt112.1) || (!(bt108.2.1 == bt112.2.1))) = true then (some false) else (if bt108.2.2 = 0 then ((cleanselaw04_unit.f k bt108.1 bt108.2.1).bind fun t120 => (if t120 = true then (if t103 = true then (if bt116.2.2 = 0 then ((cleanselaw04_of.f 1 1).bind fun bt121 => (if (bt116.1 == bt121.1 && (bt116.2.1 == bt121.2)) = true then (some true) else (some (a2_0 == 0)))) else (some true)) else (some false)) else (some false))) else (if t103 = true then (if bt116.2.2 = 0 then ((cleanselaw04_of.f 1 1).bind fun bt123 => (if (bt116.1 == bt123.1 && (bt116.2.1 == bt123.2)) = true then (some true) else (some (a2_0 == 0)))) else (some true)) else (some false)))) else (some false))))) else (some t103)))
def cleanselaw04_MeasureValues.T9 : Bool × List (List Nat × List Nat) := (true, [([], []), ([0], [0]), ([1], [1]), ([2, 1], [1, 2]), ([3, 1, 1], [1, 3]), ([4], [4]), ([4, 4], [4]), ([5, 6, 4], [4, 5, 6]), ([4, 7, 1], [1, 4, 7]), ([8, 6, 1], [1, 8]), ([9], [9]), ([10, 9], [9, 10]), ([11, 9], [9, 11]), ([9, 12, 1], [1, 9, 12]), ([1, 13], [1, 13]), ([14, 9, 0, 1, 2, 3, 4, 5, 6, 7, 8, 9, 10, 11, 12, 13, 14], [14])])
def cleanselaw04_MeasureValues.B9 : List Nat := [0, 1, 3, 7, 15, 31, 31, 127, 255, 511, 1023, 2047, 4095, 8191, 16383, 32767]
theorem cleanselaw04_MeasureValues.tab9 : rtab .any (opsOf Tryd.f8 9) = cleanselaw04_MeasureValues.T9 := by kernel_rfl
theorem cleanselaw04_MeasureValues.bits9 : waitsOk cleanselaw04_MeasureValues.T9.2 cleanselaw04_MeasureValues.B9 = true := by kernel_rfl
set_option maxHeartbeats 8000000 in
set_option maxRecDepth 100000 in
theorem cleanselaw04_MeasureValues.calls (k : Nat) (a0 : Int) (a1 : Int) (a2_0 : Int) (a2_1 : Int) (a2_2 : ByteArray) (a3_0 : Int) (a3_1 : Int) (a3_2 : ByteArray) (r : Bool) (w : World) (hG : Gl w) (hT : r = true) (h : cleanselaw04_MeasureValues.f k a0 a1 a2_0 a2_1 a2_2 a3_0 a3_1 a3_2 = some r) :
  Calls Tryd.prog 8 #[.int .i64 a0, .int .i64 a1, .agg #[.int .i64 a2_0, .int .i64 a2_1, .string a2_2], .agg #[.int .i64 a3_0, .int .i64 a3_1, .string a3_2]] w fun e w' => e = .returned (.bool r) ∧ Below w.heap.size w w' := by
 have HGl := Aside0.mk hG
 clear hG
 have HT := Aside0.mk hT
 clear hT
 have hu26 := Tryd.underlying26
 have hu32 := Tryd.underlying32
 have HB := Aside0.mk (Below.refl w.heap.size w)
 have H : ((cleanselaw04_head.f).bind fun t103 => ((cleanseref04_Short.f k 200 (([a2_2, a3_2] : List ByteArray))).bind fun t107 => (if t107 = true then ((measure_Of.f k a0 a1 a2_0 a2_1 a2_2 a3_0 a3_1 a3_2).bind fun bt108 => ((measure_Of.f k a0 a1 a3_0 a3_1 a3_2 a2_0 a2_1 a2_2).bind fun bt112 => ((measure_Of.f k a0 a1 a2_0 a2_1 a2_2 a2_0 a2_1 a2_2).bind fun bt116 => (if bt108.2.2 = bt112.2.2 then (if (!(bt108.1 == bt112.1) || (!(bt108.2.1 == bt112.2.1))) = true then (some false) else (if bt108.2.2 = 0 then ((cleanselaw04_unit.f k bt108.1 bt108.2.1).bind fun t120 => (if t120 = true then (if t103 = true then (if bt116.2.2 = 0 then ((cleanselaw04_of.f 1 1).bind fun bt121 => (if (bt116.1 == bt121.1 && (bt116.2.1 == bt121.2)) = true then (some true) else (some (a2_0 == 0)))) else (some true)) else (some false)) else (some false))) else (if t103 = true then (if bt116.2.2 = 0 then ((cleanselaw04_of.f 1 1).bind fun bt123 => (if (bt116.1 == bt123.1 && (bt116.2.1 == bt123.2)) = true then (some true) else (some (a2_0 == 0)))) else (some true)) else (some false)))) else (some false))))) else (some t103)))) = some r := h
 clear h
 replace H := Option.bind_eq_some_iff.mp H
 obtain ⟨t103, A50, H⟩ := H
 replace H : ((cleanseref04_Short.f k 200 (([a2_2, a3_2] : List ByteArray))).bind fun t107 => (if t107 = true then ((measure_Of.f k a0 a1 a2_0 a2_1 a2_2 a3_0 a3_1 a3_2).bind fun bt108 => ((measure_Of.f k a0 a1 a3_0 a3_1 a3_2 a2_0 a2_1 a2_2).bind fun bt112 => ((measure_Of.f k a0 a1 a2_0 a2_1 a2_2 a2_0 a2_1 a2_2).bind fun bt116 => (if bt108.2.2 = bt112.2.2 then (if (!(bt108.1 == bt112.1) || (!(bt108.2.1 == bt112.2.1))) = true then (some false) else (if bt108.2.2 = 0 then ((cleanselaw04_unit.f k bt108.1 bt108.2.1).bind fun t120 => (if t120 = true then (if t103 = true then (if bt116.2.2 = 0 then ((cleanselaw04_of.f 1 1).bind fun bt121 => (if (bt116.1 == bt121.1 && (bt116.2.1 == bt121.2)) = true then (some true) else (some (a2_0 == 0)))) else (some true)) else (some false)) else (some false))) else (if t103 = true then (if bt116.2.2 = 0 then ((cleanselaw04_of.f 1 1).bind fun bt123 => (if (bt116.1 == bt123.1 && (bt116.2.1 == bt123.2)) = true then (some true) else (some (a2_0 == 0)))) else (some true)) else (some false)))) else (some false))))) else (some t103))) = some r := H
 have A5 := Aside0.mk A50
 clear A50
 obtain ⟨y104, hy104⟩ : ∃ y_ : List ByteArray, y_ = (([a2_2, a3_2] : List ByteArray)) := ⟨_, rfl⟩
 replace H : ((cleanseref04_Short.f k 200 y104).bind fun t107 => (if t107 = true then ((measure_Of.f k a0 a1 a2_0 a2_1 a2_2 a3_0 a3_1 a3_2).bind fun bt108 => ((measure_Of.f k a0 a1 a3_0 a3_1 a3_2 a2_0 a2_1 a2_2).bind fun bt112 => ((measure_Of.f k a0 a1 a2_0 a2_1 a2_2 a2_0 a2_1 a2_2).bind fun bt116 => (if bt108.2.2 = bt112.2.2 then (if (!(bt108.1 == bt112.1) || (!(bt108.2.1 == bt112.2.1))) = true then (some false) else (if bt108.2.2 = 0 then ((cleanselaw04_unit.f k bt108.1 bt108.2.1).bind fun t120 => (if t120 = true then (if t103 = true then (if bt116.2.2 = 0 then ((cleanselaw04_of.f 1 1).bind fun bt121 => (if (bt116.1 == bt121.1 && (bt116.2.1 == bt121.2)) = true then (some true) else (some (a2_0 == 0)))) else (some true)) else (some false)) else (some false))) else (if t103 = true then (if bt116.2.2 = 0 then ((cleanselaw04_of.f 1 1).bind fun bt123 => (if (bt116.1 == bt123.1 && (bt116.2.1 == bt123.2)) = true then (some true) else (some (a2_0 == 0)))) else (some true)) else (some false)))) else (some false))))) else (some t103))) = some r := by (rw [hy104]; with_reducible exact H)
 have Ny104 := Aside0.mk hy104
 clear hy104
 replace H := Option.bind_eq_some_iff.mp H
 obtain ⟨t107, A60, H⟩ := H
 replace H : (if t107 = true then ((measure_Of.f k a0 a1 a2_0 a2_1 a2_2 a3_0 a3_1 a3_2).bind fun bt108 => ((measure_Of.f k a0 a1 a3_0 a3_1 a3_2 a2_0 a2_1 a2_2).bind fun bt112 => ((measure_Of.f k a0 a1 a2_0 a2_1 a2_2 a2_0 a2_1 a2_2).bind fun bt116 => (if bt108.2.2 = bt112.2.2 then (if (!(bt108.1 == bt112.1) || (!(bt108.2.1 == bt112.2.1))) = true then (some false) else (if bt108.2.2 = 0 then ((cleanselaw04_unit.f k bt108.1 bt108.2.1).bind fun t120 => (if t120 = true then (if t103 = true then (if bt116.2.2 = 0 then ((cleanselaw04_of.f 1 1).bind fun bt121 => (if (bt116.1 == bt121.1 && (bt116.2.1 == bt121.2)) = true then (some true) else (some (a2_0 == 0)))) else (some true)) else (some false)) else (some false))) else (if t103 = true then (if bt116.2.2 = 0 then ((cleanselaw04_of.f 1 1).bind fun bt123 => (if (bt116.1 == bt123.1 && (bt116.2.1 == bt123.2)) = true then (some true) else (some (a2_0 == 0)))) else (some true)) else (some false)))) else (some false))))) else (some t103)) = some r := H
 have A6 := Aside0.mk A60
 clear A60
 by_cases c7 : t107 = true
 ·subst c7
  have H1 : ((measure_Of.f k a0 a1 a2_0 a2_1 a2_2 a3_0 a3_1 a3_2).bind fun bt108 => ((measure_Of.f k a0 a1 a3_0 a3_1 a3_2 a2_0 a2_1 a2_2).bind fun bt112 => ((measure_Of.f k a0 a1 a2_0 a2_1 a2_2 a2_0 a2_1 a2_2).bind fun bt116 => (if bt108.2.2 = bt112.2.2 then (if (!(bt108.1 == bt112.1) || (!(bt108.2.1 == bt112.2.1))) = true then (some false) else (if bt108.2.2 = 0 then ((cleanselaw04_unit.f k bt108.1 bt108.2.1).bind fun t120 => (if t120 = true then (if t103 = true then (if bt116.2.2 = 0 then ((cleanselaw04_of.f 1 1).bind fun bt121 => (if (bt116.1 == bt121.1 && (bt116.2.1 == bt121.2)) = true then (some true) else (some (a2_0 == 0)))) else (some true)) else (some false)) else (some false))) else (if t103 = true then (if bt116.2.2 = 0 then ((cleanselaw04_of.f 1 1).bind fun bt123 => (if (bt116.1 == bt123.1 && (bt116.2.1 == bt123.2)) = true then (some true) else (some (a2_0 == 0)))) else (some true)) else (some false)))) else (some false))))) = some r := by rw [if_pos rfl] at H; exact H
  clear H
  have H := H1
  clear H1
  replace H := Option.bind_eq_some_iff.mp H
  obtain ⟨⟨t108, t109, t110⟩, A80, H⟩ := H
  replace H : ((measure_Of.f k a0 a1 a3_0 a3_1 a3_2 a2_0 a2_1 a2_2).bind fun bt112 => ((measure_Of.f k a0 a1 a2_0 a2_1 a2_2 a2_0 a2_1 a2_2).bind fun bt116 => (if t110 = bt112.2.2 then (if (!(t108 == bt112.1) || (!(t109 == bt112.2.1))) = true then (some false) else (if t110 = 0 then ((cleanselaw04_unit.f k t108 t109).bind fun t120 => (if t120 = true then (if t103 = true then (if bt116.2.2 = 0 then ((cleanselaw04_of.f 1 1).bind fun bt121 => (if (bt116.1 == bt121.1 && (bt116.2.1 == bt121.2)) = true then (some true) else (some (a2_0 == 0)))) else (some true)) else (some false)) else (some false))) else (if t103 = true then (if bt116.2.2 = 0 then ((cleanselaw04_of.f 1 1).bind fun bt123 => (if (bt116.1 == bt123.1 && (bt116.2.1 == bt123.2)) = true then (some true) else (some (a2_0 == 0)))) else (some true)) else (some false)))) else (some false)))) = some r := H
  have A8 := Aside0.mk A80
  clear A80
  replace H := Option.bind_eq_some_iff.mp H
  obtain ⟨⟨t112, t113, t114⟩, A90, H⟩ := H
  replace H : ((measure_Of.f k a0 a1 a2_0 a2_1 a2_2 a2_0 a2_1 a2_2).bind fun bt116 => (if t110 = t114 then (if (!(t108 == t112) || (!(t109 == t113))) = true then (some false) else (if t110 = 0 then ((cleanselaw04_unit.f k t108 t109).bind fun t120 => (if t120 = true then (if t103 = true then (if bt116.2.2 = 0 then ((cleanselaw04_of.f 1 1).bind fun bt121 => (if (bt116.1 == bt121.1 && (bt116.2.1 == bt121.2)) = true then (some true) else (some (a2_0 == 0)))) else (some true)) else (some false)) else (some false))) else (if t103 = true then (if bt116.2.2 = 0 then ((cleanselaw04_of.f 1 1).bind fun bt123 => (if (bt116.1 == bt123.1 && (bt116.2.1 == bt123.2)) = true then (some true) else (some (a2_0 == 0)))) else (some true)) else (some false)))) else (some false))) = some r := H
  have A9 := Aside0.mk A90
  clear A90
  replace H := Option.bind_eq_some_iff.mp H
  obtain ⟨⟨t116, t117, t118⟩, A100, H⟩ := H
  replace H : (if t110 = t114 then (if (!(t108 == t112) || (!(t109 == t113))) = true then (some false) else (if t110 = 0 then ((cleanselaw04_unit.f k t108 t109).bind fun t120 => (if t120 = true then (if t103 = true then (if t118 = 0 then ((cleanselaw04_of.f 1 1).bind fun bt121 => (if (t116 == bt121.1 && (t117 == bt121.2)) = true then (some true) else (some (a2_0 == 0)))) else (some true)) else (some false)) else (some false))) else (if t103 = true then (if t118 = 0 then ((cleanselaw04_of.f 1 1).bind fun bt123 => (if (t116 == bt123.1 && (t117 == bt123.2)) = true then (some true) else (some (a2_0 == 0)))) else (some true)) else (some false)))) else (some false)) = some r := H
  have A10 := Aside0.mk A100
  clear A100
  by_cases c11 : t110 = t114
  ·rw [if_pos c11] at H
   have c11b0 : (t110 == t114) = true := beq_iff_eq.mpr c11
   have c11b1 : (t110 != t114) = false := bne_eq_false_iff_eq.mpr c11
   clear c11
   by_cases c12 : (!(t108 == t112) || (!(t109 == t113))) = true
   ·rw [if_pos c12] at H
    have c12b0 : (!(t108 == t112) || (!(t109 == t113))) = true := c12
    clear c12
    exact absurd ((Option.some.inj H).trans HT.out) (by decide)
   ·rw [if_neg c12] at H
    have c12b0 : (!(t108 == t112) || (!(t109 == t113))) = false := by simpa using c12
    clear c12
    by_cases c13 : t110 = 0
    ·rw [if_pos c13] at H
     have c13b0 : (t110 == 0) = true := beq_iff_eq.mpr c13
     have c13b1 : (t110 != 0) = false := bne_eq_false_iff_eq.mpr c13
     clear c13
     replace H := Option.bind_eq_some_iff.mp H
     obtain ⟨t120, A140, H⟩ := H
     replace H : (if t120 = true then (if t103 = true then (if t118 = 0 then ((cleanselaw04_of.f 1 1).bind fun bt121 => (if (t116 == bt121.1 && (t117 == bt121.2)) = true then (some true) else (some (a2_0 == 0)))) else (some true)) else (some false)) else (some false)) = some r := H
     have A14 := Aside0.mk A140
     clear A140
     by_cases c15 : t120 = true
     ·subst c15
      have H1 : (if t103 = true then (if t118 = 0 then ((cleanselaw04_of.f 1 1).bind fun bt121 => (if (t116 == bt121.1 && (t117 == bt121.2)) = true then (some true) else (some (a2_0 == 0)))) else (some true)) else (some false)) = some r := by rw [if_pos rfl] at H; exact H
      clear H
      have H := H1
      clear H1
      by_cases c16 : t103 = true
      ·subst c16
       have H1 : (if t118 = 0 then ((cleanselaw04_of.f 1 1).bind fun bt121 => (if (t116 == bt121.1 && (t117 == bt121.2)) = true then (some true) else (some (a2_0 == 0)))) else (some true)) = some r := by rw [if_pos rfl] at H; exact H
       clear H
       have H := H1
       clear H1
       by_cases c17 : t118 = 0
       ·rw [if_pos c17] at H
        have c17b0 : (t118 == 0) = true := beq_iff_eq.mpr c17
        have c17b1 : (t118 != 0) = false := bne_eq_false_iff_eq.mpr c17
        clear c17
        replace H := Option.bind_eq_some_iff.mp H
        obtain ⟨⟨t121, t122⟩, A180, H⟩ := H
        replace H : (if (t116 == t121 && (t117 == t122)) = true then (some true) else (some (a2_0 == 0))) = some r := H
        have A18 := Aside0.mk A180
        clear A180
        by_cases c19 : (t116 == t121 && (t117 == t122)) = true
        ·rw [if_pos c19] at H
         have c19b0 : (t116 == t121 && (t117 == t122)) = true := c19
         (try (have c19b1 : decide (t116 = t121 && (t117 == t122)) = true := by simpa using c19))
         (try (have c19b2 : (t116 == t121 && (t117 == t122)) = true := by simpa using c19))
         clear c19
         obtain rfl := Option.some.inj H
         go_enter Tryd.func8, Tryd.ntmps8
         try go_wp2_with (first | ((with_reducible refine gate_dst (N := 6) rfl ?_); refine box_event ?hg (N := 6) ?hd (cs := #[.int .i64 a2_0, .int .i64 a2_1, .string a2_2]) (t := 26) ?hr ?_; (case hd => rfl); (case hg => rfl); (case hr => (go_simp; done)); intro gb101 hg w20 hbox hb; have n0_ := Aside0.mk (below_step (by repeat ((with_reducible (exact HB.out)))) hb); have n1_ := Aside0.mk (hbox); have n2_ := Aside0.mk ((by rw [hg]; exact (below_size (by repeat ((with_reducible (exact HB.out))))) : w.heap.size ≤ gb101)); have n3_ := Aside0.mk ((by rw [hg]; exact (below_size (by repeat ((with_reducible (exact HB.out))))) : w.heap.size ≤ gb101)); clear HB; have HB := n0_; have BK101 := n1_; have GW101 := n2_; have GE101 := n3_; clear n0_ n1_ n2_ n3_; clear hb hbox hg) | ((with_reducible refine gate_dst (N := 7) rfl ?_); refine box_event ?hg (N := 7) ?hd (cs := #[.int .i64 a3_0, .int .i64 a3_1, .string a3_2]) (t := 26) ?hr ?_; (case hd => rfl); (case hg => rfl); (case hr => (go_simp; done)); intro gb102 hg w21 hbox hb; have n0_ := Aside0.mk (blk_below (g := gb101) (o := .cells #[.int .i64 a2_0, .int .i64 a2_1, .string a2_2] 26 (0, 0)) (by (with_reducible skip); exact BK101.out) hb); have n1_ := Aside0.mk (below_step (by repeat ((with_reducible (exact HB.out)))) hb); have n2_ := Aside0.mk (hbox); have n3_ := Aside0.mk ((by rw [hg]; exact (below_size (by repeat ((with_reducible (exact HB.out))))) : w.heap.size ≤ gb102)); have n4_ := Aside0.mk ((by rw [hg]; exact (below_size (by repeat ((with_reducible (exact HB.out))))) : w.heap.size ≤ gb102)); have n5_ := Aside0.mk ((by rw [hg]; exact Nat.ne_of_lt (blk_lt (g := gb101) (o := .cells #[.int .i64 a2_0, .int .i64 a2_1, .string a2_2] 26 (0, 0)) (by (with_reducible skip); exact BK101.out)) : gb101 ≠ gb102)); have n6_ := Aside0.mk ((by rw [hg]; exact Nat.ne_of_gt (blk_lt (g := gb101) (o := .cells #[.int .i64 a2_0, .int .i64 a2_1, .string a2_2] 26 (0, 0)) (by (with_reducible skip); exact BK101.out)) : gb102 ≠ gb101)); clear BK101; clear HB; have BK101 := n0_; have HB := n1_; have BK102 := n2_; have GW102 := n3_; have GE102 := n4_; have NB101_102 := n5_; have NB102_101 := n6_; clear n0_ n1_ n2_ n3_ n4_ n5_ n6_; clear hb hbox hg) | ((with_reducible refine gate_callee (f := 11) rfl ?_); refine goesL_ (some 16) rfl rfl Tryd.func11 (by kernel_rfl) rfl #[] rfl (by (try simp only [List.map_toArray, List.map_cons, List.map_nil]); done) ?_; (with_reducible refine (cleanselaw04_head.calls  true _ ?sGl A5.out).mono ?_); (case sGl => exact Gl.below HGl.out (by repeat ((with_reducible (exact HB.out))))); rintro e w22 ⟨rfl, hb⟩; refine ⟨_, rfl, ?_⟩; have n0_ := Aside0.mk (blk_below (g := gb101) (o := .cells #[.int .i64 a2_0, .int .i64 a2_1, .string a2_2] 26 (0, 0)) (by (with_reducible skip); exact BK101.out) hb); have n1_ := Aside0.mk (blk_below (g := gb102) (o := .cells #[.int .i64 a3_0, .int .i64 a3_1, .string a3_2] 26 (0, 0)) (by (with_reducible skip); exact BK102.out) hb); have n2_ := Aside0.mk (below_step (by repeat ((with_reducible (exact HB.out)))) hb); clear BK101; clear BK102; clear HB; have BK101 := n0_; have BK102 := n1_; have HB := n2_; clear n0_ n1_ n2_; (try clear hb); have hnb23 := NB101_102.out; have hnc23 := NB102_101.out; have hcz24_0 : w22.cell? ⟨gb101, 0, none⟩ = some (.int .i64 a2_0) := (blk_cell BK101.out 0).trans rfl; have hcz24_1 : w22.cell? ⟨gb101, 1, none⟩ = some (.int .i64 a2_1) := (blk_cell BK101.out 1).trans rfl; have hcz24_2 : w22.cell? ⟨gb101, 2, none⟩ = some (.string a2_2) := (blk_cell BK101.out 2).trans rfl; have hfz24_0 := blk_frozen BK101.out 0; have hfz24_1 := blk_frozen BK101.out 1; have hfz24_2 := blk_frozen BK101.out 2; have hcz25_0 : w22.cell? ⟨gb102, 0, none⟩ = some (.int .i64 a3_0) := (blk_cell BK102.out 0).trans rfl; have hcz25_1 : w22.cell? ⟨gb102, 1, none⟩ = some (.int .i64 a3_1) := (blk_cell BK102.out 1).trans rfl; have hcz25_2 : w22.cell? ⟨gb102, 2, none⟩ = some (.string a3_2) := (blk_cell BK102.out 2).trans rfl; have hfz25_0 := blk_frozen BK102.out 0; have hfz25_1 := blk_frozen BK102.out 1; have hfz25_2 := blk_frozen BK102.out 2) | ((with_reducible refine gate_dst (N := 21) rfl ?_); refine Kd.R_lit Kd.string _ 9 ?hg (N := 21) ?hd (xs := ([a2_2, a3_2] : List ByteArray)) (inner := [.string a2_2, .string a3_2]) (ok := fun _ => True) (okp := fun _ => True) ?hr ?hp (fun _ hk => hk) trivial (Below.refl _ _) (Nat.le_refl _) (by simp) ?_; (case hd => rfl); (case hg => rfl); (case hr => (go_simp; done)); (case hp => exact (Reps.one (show Kd.M Kd.string _ _ _ a2_2 [.string a2_2] from rfl) (Reps.one (show Kd.M Kd.string _ _ _ a3_2 [.string a3_2] from rfl) (Reps.none _ _)))); intro v105 w26 ho27 hb hg_ hnew_; clear hg_ hnew_; ((rw [← Ny104.out] at ho27)); have n0_ := Aside0.mk (Kd.R_lower ho27 (below_size (by repeat ((with_reducible (exact HB.out)))))); have n1_ := Aside0.mk (blk_below (g := gb101) (o := .cells #[.int .i64 a2_0, .int .i64 a2_1, .string a2_2] 26 (0, 0)) (by (with_reducible skip); exact BK101.out) hb); have n2_ := Aside0.mk (blk_below (g := gb102) (o := .cells #[.int .i64 a3_0, .int .i64 a3_1, .string a3_2] 26 (0, 0)) (by (with_reducible skip); exact BK102.out) hb); have n3_ := Aside0.mk (below_step (by repeat ((with_reducible (exact HB.out)))) hb); clear BK101; clear BK102; clear HB; have HO106 := n0_; have BK101 := n1_; have BK102 := n2_; have HB := n3_; clear n0_ n1_ n2_ n3_; clear hb ho27; obtain ⟨Ao28, co28, eo28⟩ := Kd.R_slice HO106.out; subst eo28) | ((with_reducible refine gate_callee (f := 13) rfl ?_); refine goesL_ (some 22) rfl rfl Tryd.func13 (by kernel_rfl) rfl #[.int .i64 200, .slice Ao28 y104.length co28] rfl (by (try simp only [List.map_toArray, List.map_cons, List.map_nil]); rfl) ?_; (with_reducible refine (cleanseref04_Short.calls k 200 _ _ y104 true _ ?side1 ?side2 A6.out).mono ?_); (case side1 => repeat ((exact (Kd.R_reads' HO106.out).2.2))); (case side2 => exact (Kd.R_reads' HO106.out).2.1); rintro e w' ⟨rfl, ⟨nd, rfl⟩⟩; refine ⟨_, rfl, ?_⟩; (try (rw [drewN_self w26]; generalize hq_ : World.drewN w26 _ = w26; have n0_ : Aside0 (Kd.R Kd.string 9 w26 w.heap.size (fun _ => True) (.slice Ao28 y104.length co28) y104) := ⟨by rw [← hq_]; exact (by (with_reducible repeat ((apply Kd.R_drewN))); exact HO106.out)⟩; have n1_ : Aside0 (w26.heap[gb101]? = some (.cells #[.int .i64 a2_0, .int .i64 a2_1, .string a2_2] 26 (0, 0))) := ⟨by rw [← hq_]; exact (by (with_reducible repeat ((refine blk_drewN ?_ _))); exact BK101.out)⟩; have n2_ : Aside0 (w26.heap[gb102]? = some (.cells #[.int .i64 a3_0, .int .i64 a3_1, .string a3_2] 26 (0, 0))) := ⟨by rw [← hq_]; exact (by (with_reducible repeat ((refine blk_drewN ?_ _))); exact BK102.out)⟩; have n3_ : Aside0 (Below w.heap.size w w26) := ⟨by rw [← hq_]; exact (by repeat ((with_reducible first | exact HB.out | apply pw_below_drewN)))⟩; clear HO106 BK101 BK102 HB hq_; have HO106 := n0_; have BK101 := n1_; have BK102 := n2_; have HB := n3_; clear n0_ n1_ n2_ n3_)); have hcz29_0 : w26.cell? ⟨gb101, 0, none⟩ = some (.int .i64 a2_0) := (blk_cell BK101.out 0).trans rfl; have hcz29_1 : w26.cell? ⟨gb101, 1, none⟩ = some (.int .i64 a2_1) := (blk_cell BK101.out 1).trans rfl; have hcz29_2 : w26.cell? ⟨gb101, 2, none⟩ = some (.string a2_2) := (blk_cell BK101.out 2).trans rfl; have hfz29_0 := blk_frozen BK101.out 0; have hfz29_1 := blk_frozen BK101.out 1; have hfz29_2 := blk_frozen BK101.out 2; have hcz30_0 : w26.cell? ⟨gb102, 0, none⟩ = some (.int .i64 a3_0) := (blk_cell BK102.out 0).trans rfl; have hcz30_1 : w26.cell? ⟨gb102, 1, none⟩ = some (.int .i64 a3_1) := (blk_cell BK102.out 1).trans rfl; have hcz30_2 : w26.cell? ⟨gb102, 2, none⟩ = some (.string a3_2) := (blk_cell BK102.out 2).trans rfl; have hfz30_0 := blk_frozen BK102.out 0; have hfz30_1 := blk_frozen BK102.out 1; have hfz30_2 := blk_frozen BK102.out 2) | ((with_reducible refine gate_callee (f := 20) rfl ?_); refine goesL_ (some 30) rfl rfl Tryd.func20 (by kernel_rfl) rfl #[.int .i64 a0, .int .i64 a1, .agg #[.int .i64 a2_0, .int .i64 a2_1, .string a2_2], .agg #[.int .i64 a3_0, .int .i64 a3_1, .string a3_2]] rfl (by (try simp only [List.map_toArray, List.map_cons, List.map_nil]); rfl) ?_; (with_reducible refine (measure_Of.calls k a0 a1 a2_0 a2_1 a2_2 a3_0 a3_1 a3_2 t108 t109 t110 _ ?sGl A8.out).mono ?_); (case sGl => exact Gl.below HGl.out (by repeat ((with_reducible (exact HB.out))))); rintro e w31 ⟨rfl, hb⟩; refine ⟨_, rfl, ?_⟩; have n0_ := Aside0.mk (Kd.R_below (by (with_reducible skip); exact HO106.out) hb); have n1_ := Aside0.mk (blk_below (g := gb101) (o := .cells #[.int .i64 a2_0, .int .i64 a2_1, .string a2_2] 26 (0, 0)) (by (with_reducible skip); exact BK101.out) hb); have n2_ := Aside0.mk (blk_below (g := gb102) (o := .cells #[.int .i64 a3_0, .int .i64 a3_1, .string a3_2] 26 (0, 0)) (by (with_reducible skip); exact BK102.out) hb); have n3_ := Aside0.mk (below_step (by repeat ((with_reducible (exact HB.out)))) hb); clear HO106; clear BK101; clear BK102; clear HB; have HO106 := n0_; have BK101 := n1_; have BK102 := n2_; have HB := n3_; clear n0_ n1_ n2_ n3_; (try clear hb)) | ((with_reducible refine gate_dst (N := 10) rfl ?_); refine box_event ?hg (N := 10) ?hd (cs := #[.int .i64 0, .int .i64 0]) (t := 32) ?hr ?_; (case hd => rfl); (case hg => rfl); (case hr => (go_simp; done)); intro gb111 hg w32 hbox hb; have n0_ := Aside0.mk (Kd.R_below (by (with_reducible skip); exact HO106.out) hb); have n1_ := Aside0.mk (blk_below (g := gb101) (o := .cells #[.int .i64 a2_0, .int .i64 a2_1, .string a2_2] 26 (0, 0)) (by (with_reducible skip); exact BK101.out) hb); have n2_ := Aside0.mk (blk_below (g := gb102) (o := .cells #[.int .i64 a3_0, .int .i64 a3_1, .string a3_2] 26 (0, 0)) (by (with_reducible skip); exact BK102.out) hb); have n3_ := Aside0.mk (below_step (by repeat ((with_reducible (exact HB.out)))) hb); have n4_ := Aside0.mk (hbox); have n5_ := Aside0.mk ((by rw [hg]; exact (below_size (by repeat ((with_reducible (exact HB.out))))) : w.heap.size ≤ gb111)); have n6_ := Aside0.mk ((by rw [hg]; exact (below_size (by repeat ((with_reducible (exact HB.out))))) : w.heap.size ≤ gb111)); have n7_ := Aside0.mk ((by rw [hg]; exact Nat.ne_of_lt (blk_lt (g := gb101) (o := .cells #[.int .i64 a2_0, .int .i64 a2_1, .string a2_2] 26 (0, 0)) (by (with_reducible skip); exact BK101.out)) : gb101 ≠ gb111)); have n8_ := Aside0.mk ((by rw [hg]; exact Nat.ne_of_gt (blk_lt (g := gb101) (o := .cells #[.int .i64 a2_0, .int .i64 a2_1, .string a2_2] 26 (0, 0)) (by (with_reducible skip); exact BK101.out)) : gb111 ≠ gb101)); have n9_ := Aside0.mk ((by rw [hg]; exact Nat.ne_of_lt (blk_lt (g := gb102) (o := .cells #[.int .i64 a3_0, .int .i64 a3_1, .string a3_2] 26 (0, 0)) (by (with_reducible skip); exact BK102.out)) : gb102 ≠ gb111)); have n10_ := Aside0.mk ((by rw [hg]; exact Nat.ne_of_gt (blk_lt (g := gb102) (o := .cells #[.int .i64 a3_0, .int .i64 a3_1, .string a3_2] 26 (0, 0)) (by (with_reducible skip); exact BK102.out)) : gb111 ≠ gb102)); clear HO106; clear BK101; clear BK102; clear HB; have HO106 := n0_; have BK101 := n1_; have BK102 := n2_; have HB := n3_; have BK111 := n4_; have GW111 := n5_; have GE111 := n6_; have NB101_111 := n7_; have NB111_101 := n8_; have NB102_111 := n9_; have NB111_102 := n10_; clear n0_ n1_ n2_ n3_ n4_ n5_ n6_ n7_ n8_ n9_ n10_; clear hb hbox hg; have hnb33 := NB111_101.out; have hnc33 := NB101_111.out; have hnb34 := NB111_102.out; have hnc34 := NB102_111.out; have hcz35_0 : w32.cell? ⟨gb111, 0, none⟩ = some (.int .i64 0) := (blk_cell BK111.out 0).trans rfl; have hcz35_1 : w32.cell? ⟨gb111, 1, none⟩ = some (.int .i64 0) := (blk_cell BK111.out 1).trans rfl; have hfz35_0 := blk_frozen BK111.out 0; have hfz35_1 := blk_frozen BK111.out 1; have hcz36_0 : w32.cell? ⟨gb102, 0, none⟩ = some (.int .i64 a3_0) := (blk_cell BK102.out 0).trans rfl; have hcz36_1 : w32.cell? ⟨gb102, 1, none⟩ = some (.int .i64 a3_1) := (blk_cell BK102.out 1).trans rfl; have hcz36_2 : w32.cell? ⟨gb102, 2, none⟩ = some (.string a3_2) := (blk_cell BK102.out 2).trans rfl; have hfz36_0 := blk_frozen BK102.out 0; have hfz36_1 := blk_frozen BK102.out 1; have hfz36_2 := blk_frozen BK102.out 2; have hcz37_0 : w32.cell? ⟨gb101, 0, none⟩ = some (.int .i64 a2_0) := (blk_cell BK101.out 0).trans rfl; have hcz37_1 : w32.cell? ⟨gb101, 1, none⟩ = some (.int .i64 a2_1) := (blk_cell BK101.out 1).trans rfl; have hcz37_2 : w32.cell? ⟨gb101, 2, none⟩ = some (.string a2_2) := (blk_cell BK101.out 2).trans rfl; have hfz37_0 := blk_frozen BK101.out 0; have hfz37_1 := blk_frozen BK101.out 1; have hfz37_2 := blk_frozen BK101.out 2) | ((with_reducible refine gate_callee (f := 20) rfl ?_); refine goesL_ (some 38) rfl rfl Tryd.func20 (by kernel_rfl) rfl #[.int .i64 a0, .int .i64 a1, .agg #[.int .i64 a3_0, .int .i64 a3_1, .string a3_2], .agg #[.int .i64 a2_0, .int .i64 a2_1, .string a2_2]] rfl (by (try simp only [List.map_toArray, List.map_cons, List.map_nil]); rfl) ?_; (with_reducible refine (measure_Of.calls k a0 a1 a3_0 a3_1 a3_2 a2_0 a2_1 a2_2 t112 t113 t114 _ ?sGl A9.out).mono ?_); (case sGl => exact Gl.below HGl.out (by repeat ((with_reducible first | exact HB.out | refine below_set ?_ (Aside0.out (by assumption)))))); rintro e w38 ⟨rfl, hb⟩; refine ⟨_, rfl, ?_⟩; have n0_ := Aside0.mk (Kd.R_below (by (with_reducible skip); exact (Kd.R_mono (Kd.R_far (p := ⟨gb111, 1, none⟩) (Kd.R_far (p := ⟨gb111, 0, none⟩) (Kd.R_types HO106.out BK111.out (by decide)) (fun _ hk => hk.2) (.int .i64 t108)) (fun _ hk => hk.2) (.int .i64 t109)) (fun _ h_ => h_.1))) hb); have n1_ := Aside0.mk (blk_below (g := gb101) (o := .cells #[.int .i64 a2_0, .int .i64 a2_1, .string a2_2] 26 (0, 0)) (by (with_reducible skip); refine blk_far ?_ NB101_111.out _; (with_reducible skip); refine blk_far ?_ NB101_111.out _; (with_reducible skip); exact BK101.out) hb); have n2_ := Aside0.mk (blk_below (g := gb102) (o := .cells #[.int .i64 a3_0, .int .i64 a3_1, .string a3_2] 26 (0, 0)) (by (with_reducible skip); refine blk_far ?_ NB102_111.out _; (with_reducible skip); refine blk_far ?_ NB102_111.out _; (with_reducible skip); exact BK102.out) hb); have n3_ := Aside0.mk (blk_below (g := gb111) (o := .cells #[.int .i64 t108, .int .i64 t109] 32 (0, 0)) (by (with_reducible skip); refine blk_put (cs := #[.int .i64 t108, .int .i64 0]) ?_ 1 _ rfl; (with_reducible skip); refine blk_put (cs := #[.int .i64 0, .int .i64 0]) ?_ 0 _ rfl; (with_reducible skip); exact BK111.out) hb); have n4_ := Aside0.mk (below_step (by repeat ((with_reducible first | exact HB.out | refine below_set ?_ GE111.out))) hb); clear HO106; clear BK101; clear BK102; clear BK111; clear HB; have HO106 := n0_; have BK101 := n1_; have BK102 := n2_; have BK111 := n3_; have HB := n4_; clear n0_ n1_ n2_ n3_ n4_; (try clear hb)) | ((with_reducible refine gate_dst (N := 12) rfl ?_); refine box_event ?hg (N := 12) ?hd (cs := #[.int .i64 0, .int .i64 0]) (t := 32) ?hr ?_; (case hd => rfl); (case hg => rfl); (case hr => (go_simp; done)); intro gb115 hg w39 hbox hb; have n0_ := Aside0.mk (Kd.R_below (by (with_reducible skip); exact HO106.out) hb); have n1_ := Aside0.mk (blk_below (g := gb101) (o := .cells #[.int .i64 a2_0, .int .i64 a2_1, .string a2_2] 26 (0, 0)) (by (with_reducible skip); exact BK101.out) hb); have n2_ := Aside0.mk (blk_below (g := gb102) (o := .cells #[.int .i64 a3_0, .int .i64 a3_1, .string a3_2] 26 (0, 0)) (by (with_reducible skip); exact BK102.out) hb); have n3_ := Aside0.mk (blk_below (g := gb111) (o := .cells #[.int .i64 t108, .int .i64 t109] 32 (0, 0)) (by (with_reducible skip); exact BK111.out) hb); have n4_ := Aside0.mk (below_step (by repeat ((with_reducible (exact HB.out)))) hb); have n5_ := Aside0.mk (hbox); have n6_ := Aside0.mk ((by rw [hg]; exact (below_size (by repeat ((with_reducible (exact HB.out))))) : w.heap.size ≤ gb115)); have n7_ := Aside0.mk ((by rw [hg]; exact (below_size (by repeat ((with_reducible (exact HB.out))))) : w.heap.size ≤ gb115)); have n8_ := Aside0.mk ((by rw [hg]; exact Nat.ne_of_lt (blk_lt (g := gb101) (o := .cells #[.int .i64 a2_0, .int .i64 a2_1, .string a2_2] 26 (0, 0)) (by (with_reducible skip); exact BK101.out)) : gb101 ≠ gb115)); have n9_ := Aside0.mk ((by rw [hg]; exact Nat.ne_of_gt (blk_lt (g := gb101) (o := .cells #[.int .i64 a2_0, .int .i64 a2_1, .string a2_2] 26 (0, 0)) (by (with_reducible skip); exact BK101.out)) : gb115 ≠ gb101)); have n10_ := Aside0.mk ((by rw [hg]; exact Nat.ne_of_lt (blk_lt (g := gb102) (o := .cells #[.int .i64 a3_0, .int .i64 a3_1, .string a3_2] 26 (0, 0)) (by (with_reducible skip); exact BK102.out)) : gb102 ≠ gb115)); have n11_ := Aside0.mk ((by rw [hg]; exact Nat.ne_of_gt (blk_lt (g := gb102) (o := .cells #[.int .i64 a3_0, .int .i64 a3_1, .string a3_2] 26 (0, 0)) (by (with_reducible skip); exact BK102.out)) : gb115 ≠ gb102)); have n12_ := Aside0.mk ((by rw [hg]; exact Nat.ne_of_lt (blk_lt (g := gb111) (o := .cells #[.int .i64 t108, .int .i64 t109] 32 (0, 0)) (by (with_reducible skip); exact BK111.out)) : gb111 ≠ gb115)); have n13_ := Aside0.mk ((by rw [hg]; exact Nat.ne_of_gt (blk_lt (g := gb111) (o := .cells #[.int .i64 t108, .int .i64 t109] 32 (0, 0)) (by (with_reducible skip); exact BK111.out)) : gb115 ≠ gb111)); clear HO106; clear BK101; clear BK102; clear BK111; clear HB; have HO106 := n0_; have BK101 := n1_; have BK102 := n2_; have BK111 := n3_; have HB := n4_; have BK115 := n5_; have GW115 := n6_; have GE115 := n7_; have NB101_115 := n8_; have NB115_101 := n9_; have NB102_115 := n10_; have NB115_102 := n11_; have NB111_115 := n12_; have NB115_111 := n13_; clear n0_ n1_ n2_ n3_ n4_ n5_ n6_ n7_ n8_ n9_ n10_ n11_ n12_ n13_; clear hb hbox hg; have hnb40 := NB115_101.out; have hnc40 := NB101_115.out; have hnb41 := NB115_102.out; have hnc41 := NB102_115.out; have hnb42 := NB115_111.out; have hnc42 := NB111_115.out; have hcz43_0 : w39.cell? ⟨gb115, 0, none⟩ = some (.int .i64 0) := (blk_cell BK115.out 0).trans rfl; have hcz43_1 : w39.cell? ⟨gb115, 1, none⟩ = some (.int .i64 0) := (blk_cell BK115.out 1).trans rfl; have hfz43_0 := blk_frozen BK115.out 0; have hfz43_1 := blk_frozen BK115.out 1; have hcz44_0 : w39.cell? ⟨gb101, 0, none⟩ = some (.int .i64 a2_0) := (blk_cell BK101.out 0).trans rfl; have hcz44_1 : w39.cell? ⟨gb101, 1, none⟩ = some (.int .i64 a2_1) := (blk_cell BK101.out 1).trans rfl; have hcz44_2 : w39.cell? ⟨gb101, 2, none⟩ = some (.string a2_2) := (blk_cell BK101.out 2).trans rfl; have hfz44_0 := blk_frozen BK101.out 0; have hfz44_1 := blk_frozen BK101.out 1; have hfz44_2 := blk_frozen BK101.out 2) | ((with_reducible refine gate_callee (f := 20) rfl ?_); refine goesL_ (some 46) rfl rfl Tryd.func20 (by kernel_rfl) rfl #[.int .i64 a0, .int .i64 a1, .agg #[.int .i64 a2_0, .int .i64 a2_1, .string a2_2], .agg #[.int .i64 a2_0, .int .i64 a2_1, .string a2_2]] rfl (by (try simp only [List.map_toArray, List.map_cons, List.map_nil]); rfl) ?_; (with_reducible refine (measure_Of.calls k a0 a1 a2_0 a2_1 a2_2 a2_0 a2_1 a2_2 t116 t117 t118 _ ?sGl A10.out).mono ?_); (case sGl => exact Gl.below HGl.out (by repeat ((with_reducible first | exact HB.out | refine below_set ?_ (Aside0.out (by assumption)))))); rintro e w45 ⟨rfl, hb⟩; refine ⟨_, rfl, ?_⟩; have n0_ := Aside0.mk (Kd.R_below (by (with_reducible skip); exact (Kd.R_mono (Kd.R_far (p := ⟨gb115, 1, none⟩) (Kd.R_far (p := ⟨gb115, 0, none⟩) (Kd.R_types HO106.out BK115.out (by decide)) (fun _ hk => hk.2) (.int .i64 t112)) (fun _ hk => hk.2) (.int .i64 t113)) (fun _ h_ => h_.1))) hb); have n1_ := Aside0.mk (blk_below (g := gb101) (o := .cells #[.int .i64 a2_0, .int .i64 a2_1, .string a2_2] 26 (0, 0)) (by (with_reducible skip); refine blk_far ?_ NB101_115.out _; (with_reducible skip); refine blk_far ?_ NB101_115.out _; (with_reducible skip); exact BK101.out) hb); have n2_ := Aside0.mk (blk_below (g := gb102) (o := .cells #[.int .i64 a3_0, .int .i64 a3_1, .string a3_2] 26 (0, 0)) (by (with_reducible skip); refine blk_far ?_ NB102_115.out _; (with_reducible skip); refine blk_far ?_ NB102_115.out _; (with_reducible skip); exact BK102.out) hb); have n3_ := Aside0.mk (blk_below (g := gb111) (o := .cells #[.int .i64 t108, .int .i64 t109] 32 (0, 0)) (by (with_reducible skip); refine blk_far ?_ NB111_115.out _; (with_reducible skip); refine blk_far ?_ NB111_115.out _; (with_reducible skip); exact BK111.out) hb); have n4_ := Aside0.mk (blk_below (g := gb115) (o := .cells #[.int .i64 t112, .int .i64 t113] 32 (0, 0)) (by (with_reducible skip); refine blk_put (cs := #[.int .i64 t112, .int .i64 0]) ?_ 1 _ rfl; (with_reducible skip); refine blk_put (cs := #[.int .i64 0, .int .i64 0]) ?_ 0 _ rfl; (with_reducible skip); exact BK115.out) hb); have n5_ := Aside0.mk (below_step (by repeat ((with_reducible first | exact HB.out | refine below_set ?_ GE115.out))) hb); clear HO106; clear BK101; clear BK102; clear BK111; clear BK115; clear HB; have HO106 := n0_; have BK101 := n1_; have BK102 := n2_; have BK111 := n3_; have BK115 := n4_; have HB := n5_; clear n0_ n1_ n2_ n3_ n4_ n5_; (try clear hb)) | ((with_reducible refine gate_dst (N := 14) rfl ?_); refine box_event ?hg (N := 14) ?hd (cs := #[.int .i64 0, .int .i64 0]) (t := 32) ?hr ?_; (case hd => rfl); (case hg => rfl); (case hr => (go_simp; done)); intro gb119 hg w46 hbox hb; have n0_ := Aside0.mk (Kd.R_below (by (with_reducible skip); exact HO106.out) hb); have n1_ := Aside0.mk (blk_below (g := gb101) (o := .cells #[.int .i64 a2_0, .int .i64 a2_1, .string a2_2] 26 (0, 0)) (by (with_reducible skip); exact BK101.out) hb); have n2_ := Aside0.mk (blk_below (g := gb102) (o := .cells #[.int .i64 a3_0, .int .i64 a3_1, .string a3_2] 26 (0, 0)) (by (with_reducible skip); exact BK102.out) hb); have n3_ := Aside0.mk (blk_below (g := gb111) (o := .cells #[.int .i64 t108, .int .i64 t109] 32 (0, 0)) (by (with_reducible skip); exact BK111.out) hb); have n4_ := Aside0.mk (blk_below (g := gb115) (o := .cells #[.int .i64 t112, .int .i64 t113] 32 (0, 0)) (by (with_reducible skip); exact BK115.out) hb); have n5_ := Aside0.mk (below_step (by repeat ((with_reducible (exact HB.out)))) hb); have n6_ := Aside0.mk (hbox); have n7_ := Aside0.mk ((by rw [hg]; exact (below_size (by repeat ((with_reducible (exact HB.out))))) : w.heap.size ≤ gb119)); have n8_ := Aside0.mk ((by rw [hg]; exact (below_size (by repeat ((with_reducible (exact HB.out))))) : w.heap.size ≤ gb119)); have n9_ := Aside0.mk ((by rw [hg]; exact Nat.ne_of_lt (blk_lt (g := gb101) (o := .cells #[.int .i64 a2_0, .int .i64 a2_1, .string a2_2] 26 (0, 0)) (by (with_reducible skip); exact BK101.out)) : gb101 ≠ gb119)); have n10_ := Aside0.mk ((by rw [hg]; exact Nat.ne_of_gt (blk_lt (g := gb101) (o := .cells #[.int .i64 a2_0, .int .i64 a2_1, .string a2_2] 26 (0, 0)) (by (with_reducible skip); exact BK101.out)) : gb119 ≠ gb101)); have n11_ := Aside0.mk ((by rw [hg]; exact Nat.ne_of_lt (blk_lt (g := gb102) (o := .cells #[.int .i64 a3_0, .int .i64 a3_1, .string a3_2] 26 (0, 0)) (by (with_reducible skip); exact BK102.out)) : gb102 ≠ gb119)); have n12_ := Aside0.mk ((by rw [hg]; exact Nat.ne_of_gt (blk_lt (g := gb102) (o := .cells #[.int .i64 a3_0, .int .i64 a3_1, .string a3_2] 26 (0, 0)) (by (with_reducible skip); exact BK102.out)) : gb119 ≠ gb102)); have n13_ := Aside0.mk ((by rw [hg]; exact Nat.ne_of_lt (blk_lt (g := gb111) (o := .cells #[.int .i64 t108, .int .i64 t109] 32 (0, 0)) (by (with_reducible skip); exact BK111.out)) : gb111 ≠ gb119)); have n14_ := Aside0.mk ((by rw [hg]; exact Nat.ne_of_gt (blk_lt (g := gb111) (o := .cells #[.int .i64 t108, .int .i64 t109] 32 (0, 0)) (by (with_reducible skip); exact BK111.out)) : gb119 ≠ gb111)); have n15_ := Aside0.mk ((by rw [hg]; exact Nat.ne_of_lt (blk_lt (g := gb115) (o := .cells #[.int .i64 t112, .int .i64 t113] 32 (0, 0)) (by (with_reducible skip); exact BK115.out)) : gb115 ≠ gb119)); have n16_ := Aside0.mk ((by rw [hg]; exact Nat.ne_of_gt (blk_lt (g := gb115) (o := .cells #[.int .i64 t112, .int .i64 t113] 32 (0, 0)) (by (with_reducible skip); exact BK115.out)) : gb119 ≠ gb115)); clear HO106; clear BK101; clear BK102; clear BK111; clear BK115; clear HB; have HO106 := n0_; have BK101 := n1_; have BK102 := n2_; have BK111 := n3_; have BK115 := n4_; have HB := n5_; have BK119 := n6_; have GW119 := n7_; have GE119 := n8_; have NB101_119 := n9_; have NB119_101 := n10_; have NB102_119 := n11_; have NB119_102 := n12_; have NB111_119 := n13_; have NB119_111 := n14_; have NB115_119 := n15_; have NB119_115 := n16_; clear n0_ n1_ n2_ n3_ n4_ n5_ n6_ n7_ n8_ n9_ n10_ n11_ n12_ n13_ n14_ n15_ n16_; clear hb hbox hg; have hnb47 := NB119_101.out; have hnc47 := NB101_119.out; have hnb48 := NB119_102.out; have hnc48 := NB102_119.out; have hnb49 := NB119_111.out; have hnc49 := NB111_119.out; have hnb50 := NB119_115.out; have hnc50 := NB115_119.out; have hcz51_0 : w46.cell? ⟨gb119, 0, none⟩ = some (.int .i64 0) := (blk_cell BK119.out 0).trans rfl; have hcz51_1 : w46.cell? ⟨gb119, 1, none⟩ = some (.int .i64 0) := (blk_cell BK119.out 1).trans rfl; have hfz51_0 := blk_frozen BK119.out 0; have hfz51_1 := blk_frozen BK119.out 1; have hcz52_0 : w46.cell? ⟨gb111, 0, none⟩ = some (.int .i64 t108) := (blk_cell BK111.out 0).trans rfl; have hcz52_1 : w46.cell? ⟨gb111, 1, none⟩ = some (.int .i64 t109) := (blk_cell BK111.out 1).trans rfl; have hfz52_0 := blk_frozen BK111.out 0; have hfz52_1 := blk_frozen BK111.out 1; have hcz53_0 : w46.cell? ⟨gb115, 0, none⟩ = some (.int .i64 t112) := (blk_cell BK115.out 0).trans rfl; have hcz53_1 : w46.cell? ⟨gb115, 1, none⟩ = some (.int .i64 t113) := (blk_cell BK115.out 1).trans rfl; have hfz53_0 := blk_frozen BK115.out 0; have hfz53_1 := blk_frozen BK115.out 1) | (go_at_call 26; (with_reducible refine (cleanselaw04_unit.calls k t108 t109 true _ A14.out).mono ?_); rintro e w54 ⟨rfl, hb⟩; have n0_ := Aside0.mk (Kd.R_below (by (with_reducible skip); exact (Kd.R_mono (Kd.R_far (p := ⟨gb119, 1, none⟩) (Kd.R_far (p := ⟨gb119, 0, none⟩) (Kd.R_types HO106.out BK119.out (by decide)) (fun _ hk => hk.2) (.int .i64 t116)) (fun _ hk => hk.2) (.int .i64 t117)) (fun _ h_ => h_.1))) hb); have n1_ := Aside0.mk (blk_below (g := gb101) (o := .cells #[.int .i64 a2_0, .int .i64 a2_1, .string a2_2] 26 (0, 0)) (by (with_reducible skip); refine blk_far ?_ NB101_119.out _; (with_reducible skip); refine blk_far ?_ NB101_119.out _; (with_reducible skip); exact BK101.out) hb); have n2_ := Aside0.mk (blk_below (g := gb102) (o := .cells #[.int .i64 a3_0, .int .i64 a3_1, .string a3_2] 26 (0, 0)) (by (with_reducible skip); refine blk_far ?_ NB102_119.out _; (with_reducible skip); refine blk_far ?_ NB102_119.out _; (with_reducible skip); exact BK102.out) hb); have n3_ := Aside0.mk (blk_below (g := gb111) (o := .cells #[.int .i64 t108, .int .i64 t109] 32 (0, 0)) (by (with_reducible skip); refine blk_far ?_ NB111_119.out _; (with_reducible skip); refine blk_far ?_ NB111_119.out _; (with_reducible skip); exact BK111.out) hb); have n4_ := Aside0.mk (blk_below (g := gb115) (o := .cells #[.int .i64 t112, .int .i64 t113] 32 (0, 0)) (by (with_reducible skip); refine blk_far ?_ NB115_119.out _; (with_reducible skip); refine blk_far ?_ NB115_119.out _; (with_reducible skip); exact BK115.out) hb); have n5_ := Aside0.mk (blk_below (g := gb119) (o := .cells #[.int .i64 t116, .int .i64 t117] 32 (0, 0)) (by (with_reducible skip); refine blk_put (cs := #[.int .i64 t116, .int .i64 0]) ?_ 1 _ rfl; (with_reducible skip); refine blk_put (cs := #[.int .i64 0, .int .i64 0]) ?_ 0 _ rfl; (with_reducible skip); exact BK119.out) hb); have n6_ := Aside0.mk (below_step (by repeat ((with_reducible first | exact HB.out | refine below_set ?_ GE119.out))) hb); clear HO106; clear BK101; clear BK102; clear BK111; clear BK115; clear BK119; clear HB; have HO106 := n0_; have BK101 := n1_; have BK102 := n2_; have BK111 := n3_; have BK115 := n4_; have BK119 := n5_; have HB := n6_; clear n0_ n1_ n2_ n3_ n4_ n5_ n6_; (try clear hb)))
         have n0_ := Aside0.mk (Kd.R_drew HO106.out)
         have n1_ := Aside0.mk (blk_drew BK101.out)
         have n2_ := Aside0.mk (blk_drew BK102.out)
         have n3_ := Aside0.mk (blk_drew BK111.out)
         have n4_ := Aside0.mk (blk_drew BK115.out)
         have n5_ := Aside0.mk (blk_drew BK119.out)
         have n6_ := Aside0.mk (below_drew1 HB.out)
         clear HO106
         clear BK101
         clear BK102
         clear BK111
         clear BK115
         clear BK119
         clear HB
         have HO106 := n0_
         have BK101 := n1_
         have BK102 := n2_
         have BK111 := n3_
         have BK115 := n4_
         have BK119 := n5_
         have HB := n6_
         clear n0_ n1_ n2_ n3_ n4_ n5_ n6_
         refine start_ (n := 16) (S := fun w' => w'.cell? ⟨gb119, 0, none⟩ = some (.int .i64 t116) ∧ w'.cell? ⟨gb119, 1, none⟩ = some (.int .i64 t117)) (ds := []) #[false, false, false, false, false, false, false, false, false, false, false, false, false, false, false, false] (by kernel_rfl) rfl rfl ⟨(blk_cell BK119.out 0).trans rfl, (blk_cell BK119.out 1).trans rfl⟩ (fun hHeld => ?_); refine with_tabW cleanselaw04_MeasureValues.tab9 cleanselaw04_MeasureValues.bits9 (fun HT_ HW_ => ?_)
         generalize w54.drew = w55 at HO106 BK101 BK102 BK111 BK115 BK119 HB hHeld ⊢
         refine pure_ (i := 0) (N := some 66) (v := ?_) (a' := ?_) #[true, false, false, false, false, false, false, false, false, false, false, false, false, false, false, false] rfl rfl (any_of HT_.out (by kernel_rfl)) (fun _ _ _ h => h) (Or.inl ⟨by rfl, ?_⟩) ?_ ?_
         rotate_left
         ·intro w'
          go_simp
          with_reducible rfl
         rotate_left
         ·simp only [Act.put, List.setIfInBounds_toArray, List.set_cons_zero, List.set_cons_succ, i64_w, i32_w]
          rfl
         refine pure_ (i := 1) (N := some 67) (v := ?_) (a' := ?_) #[true, true, false, false, false, false, false, false, false, false, false, false, false, false, false, false] rfl rfl (any_of HT_.out (by kernel_rfl)) (fun _ _ _ h => h) (Or.inl ⟨by rfl, ?_⟩) ?_ ?_
         rotate_left
         ·intro w'
          go_simp
          with_reducible rfl
         rotate_left
         ·simp only [Act.put, List.setIfInBounds_toArray, List.set_cons_zero, List.set_cons_succ, i64_w, i32_w]
          rfl
         refine pure_ (i := 2) (N := some 68) (v := ?_) (a' := ?_) #[true, true, true, false, false, false, false, false, false, false, false, false, false, false, false, false] rfl rfl (any_of HT_.out (by kernel_rfl)) (fun _ _ _ h => h) (Or.inl ⟨by rfl, ?_⟩) ?_ ?_
         rotate_left
         ·intro w'
          go_simp
          with_reducible rfl
         rotate_left
         ·simp only [Act.put, List.setIfInBounds_toArray, List.set_cons_zero, List.set_cons_succ, i64_w, i32_w]
          rfl
         refine pure_ (i := 3) (N := some 69) (v := ?_) (a' := ?_) #[true, true, true, true, false, false, false, false, false, false, false, false, false, false, false, false] rfl rfl (any_of HT_.out (by kernel_rfl)) (fun _ _ _ h => h) (Or.inl ⟨by rfl, ?_⟩) ?_ ?_
         rotate_left
         ·intro w'
          go_simp
          with_reducible rfl
         rotate_left
         ·simp only [Act.put, List.setIfInBounds_toArray, List.set_cons_zero, List.set_cons_succ, i64_w, i32_w]
          rfl
         refine pure_ (i := 4) (N := some 70) (v := ?_) (a' := ?_) #[true, true, true, true, true, false, false, false, false, false, false, false, false, false, false, false] rfl rfl (any_of HT_.out (by kernel_rfl)) (fun _ _ _ h => h) (Or.inl ⟨by rfl, ?_⟩) ?_ ?_
         rotate_left
         ·intro w'
          go_simp
          with_reducible rfl
         rotate_left
         ·simp only [Act.put, List.setIfInBounds_toArray, List.set_cons_zero, List.set_cons_succ, i64_w, i32_w]
          rfl
         refine take_ (i := 5) (N := some 71) (v := ?_) (a' := ?_) #[true, true, true, true, true, true, false, false, false, false, false, false, false, false, false, false] rfl rfl (take_ofW HT_.out HW_.out (by kernel_rfl)) (fun _ _ _ h => h) (Or.inl ⟨by rfl, ?_⟩) hHeld ?_ ?_
         rotate_left
         ·rintro w' ⟨s0, s1⟩
          go_simp
          with_reducible rfl
         rotate_left
         ·simp only [Act.put, List.setIfInBounds_toArray, List.set_cons_zero, List.set_cons_succ, i64_w, i32_w]
          rfl
         refine one_ (i := 6) (N := some 72) #[true, true, true, true, true, true, true, false, false, false, false, false, false, false, false, false] rfl rfl (one_of HT_.out (by kernel_rfl)) (by decide) (fun K hK => ?_)
         refine goes_ Tryd.func27 (by kernel_rfl) rfl #[.int .i64 1, .int .i64 1] (by rfl) rfl rfl (by (try simp only [List.map_toArray, List.map_cons, List.map_nil]); rfl) ?_
         with_reducible refine (cleanselaw04_of.calls 1 1 t121 t122 _ A18.out).mono ?_
         rintro e w56 ⟨rfl, hb⟩
         refine ⟨_, rfl, ?_⟩
         have n0_ := Aside0.mk (Kd.R_below (by (with_reducible skip); exact HO106.out) hb)
         have n1_ := Aside0.mk (blk_below (g := gb101) (o := .cells #[.int .i64 a2_0, .int .i64 a2_1, .string a2_2] 26 (0, 0)) (by (with_reducible skip); exact BK101.out) hb)
         have n2_ := Aside0.mk (blk_below (g := gb102) (o := .cells #[.int .i64 a3_0, .int .i64 a3_1, .string a3_2] 26 (0, 0)) (by (with_reducible skip); exact BK102.out) hb)
         have n3_ := Aside0.mk (blk_below (g := gb111) (o := .cells #[.int .i64 t108, .int .i64 t109] 32 (0, 0)) (by (with_reducible skip); exact BK111.out) hb)
         have n4_ := Aside0.mk (blk_below (g := gb115) (o := .cells #[.int .i64 t112, .int .i64 t113] 32 (0, 0)) (by (with_reducible skip); exact BK115.out) hb)
         have n5_ := Aside0.mk (blk_below (g := gb119) (o := .cells #[.int .i64 t116, .int .i64 t117] 32 (0, 0)) (by (with_reducible skip); exact BK119.out) hb)
         have n6_ := Aside0.mk (below_step (by repeat ((with_reducible (exact HB.out)))) hb)
         clear HO106
         clear BK101
         clear BK102
         clear BK111
         clear BK115
         clear BK119
         clear HB
         have HO106 := n0_
         have BK101 := n1_
         have BK102 := n2_
         have BK111 := n3_
         have BK115 := n4_
         have BK119 := n5_
         have HB := n6_
         clear n0_ n1_ n2_ n3_ n4_ n5_ n6_
         (try clear hb)
         refine hK.out _ _ ⟨(blk_cell BK119.out 0).trans rfl, (blk_cell BK119.out 1).trans rfl⟩ (fun hHeld => ?_)
         clear hK K
         refine norm_ (a' := ?_) ?_ ?_
         rotate_left
         ·show Act.put _ (some 72) _ = _
          simp only [Act.put, List.setIfInBounds_toArray, List.set_cons_zero, List.set_cons_succ, i64_w, i32_w]
          rfl
         refine pure_ (i := 7) (N := some 73) (v := ?_) (a' := ?_) #[true, true, true, true, true, true, true, true, false, false, false, false, false, false, false, false] rfl rfl (any_of HT_.out (by kernel_rfl)) (fun _ _ _ h => h) (Or.inl ⟨by rfl, ?_⟩) ?_ ?_
         rotate_left
         ·intro w'
          go_simp
          with_reducible rfl
         rotate_left
         ·simp only [Act.put, List.setIfInBounds_toArray, List.set_cons_zero, List.set_cons_succ, i64_w, i32_w]
          rfl
         refine pure_ (i := 8) (N := some 74) (v := ?_) (a' := ?_) #[true, true, true, true, true, true, true, true, true, false, false, false, false, false, false, false] rfl rfl (any_of HT_.out (by kernel_rfl)) (fun _ _ _ h => h) (Or.inl ⟨by rfl, ?_⟩) ?_ ?_
         rotate_left
         ·intro w'
          go_simp
          with_reducible rfl
         rotate_left
         ·simp only [Act.put, List.setIfInBounds_toArray, List.set_cons_zero, List.set_cons_succ, i64_w, i32_w]
          rfl
         refine pure_ (i := 9) (N := some 75) (v := ?_) (a' := ?_) #[true, true, true, true, true, true, true, true, true, true, false, false, false, false, false, false] rfl rfl (any_of HT_.out (by kernel_rfl)) (fun _ _ _ h => h) (Or.inl ⟨by rfl, ?_⟩) ?_ ?_
         rotate_left
         ·intro w'
          go_simp
          with_reducible rfl
         rotate_left
         ·simp only [Act.put, List.setIfInBounds_toArray, List.set_cons_zero, List.set_cons_succ, i64_w, i32_w]
          rfl
         refine pure_ (i := 10) (N := some 76) (v := undef) (a' := ?_) #[true, true, true, true, true, true, true, true, true, true, true, false, false, false, false, false] rfl rfl (any_of HT_.out (by kernel_rfl)) (fun _ _ _ h => h) (Or.inr ⟨by rfl, rfl⟩) ?_ ?_
         rotate_left
         ·simp only [Act.put, List.setIfInBounds_toArray, List.set_cons_zero, List.set_cons_succ, i64_w, i32_w]
          rfl
         refine pure_ (i := 11) (N := some 77) (v := undef) (a' := ?_) #[true, true, true, true, true, true, true, true, true, true, true, true, false, false, false, false] rfl rfl (any_of HT_.out (by kernel_rfl)) (fun _ _ _ h => h) (Or.inr ⟨by rfl, rfl⟩) ?_ ?_
         rotate_left
         ·simp only [Act.put, List.setIfInBounds_toArray, List.set_cons_zero, List.set_cons_succ, i64_w, i32_w]
          rfl
         refine pure_ (i := 12) (N := some 78) (v := undef) (a' := ?_) #[true, true, true, true, true, true, true, true, true, true, true, true, true, false, false, false] rfl rfl (any_of HT_.out (by kernel_rfl)) (fun _ _ _ h => h) (Or.inr ⟨by rfl, rfl⟩) ?_ ?_
         rotate_left
         ·simp only [Act.put, List.setIfInBounds_toArray, List.set_cons_zero, List.set_cons_succ, i64_w, i32_w]
          rfl
         refine pure_ (i := 13) (N := some 79) (v := ?_) (a' := ?_) #[true, true, true, true, true, true, true, true, true, true, true, true, true, true, false, false] rfl rfl (any_of HT_.out (by kernel_rfl)) (fun _ _ _ h => h) (Or.inl ⟨by rfl, ?_⟩) ?_ ?_
         rotate_left
         ·intro w'
          go_simp
          with_reducible rfl
         rotate_left
         ·simp only [Act.put, List.setIfInBounds_toArray, List.set_cons_zero, List.set_cons_succ, i64_w, i32_w]
          rfl
         refine pure_ (i := 14) (N := some 80) (v := ?_) (a' := ?_) #[true, true, true, true, true, true, true, true, true, true, true, true, true, true, true, false] rfl rfl (any_of HT_.out (by kernel_rfl)) (fun _ _ _ h => h) (Or.inl ⟨by rfl, ?_⟩) ?_ ?_
         rotate_left
         ·intro w'
          go_simp
          with_reducible rfl
         rotate_left
         ·simp only [Act.put, List.setIfInBounds_toArray, List.set_cons_zero, List.set_cons_succ, i64_w, i32_w]
          rfl
         refine pure_ (i := 15) (N := some 8) (v := ?_) (a' := ?_) #[true, true, true, true, true, true, true, true, true, true, true, true, true, true, true, true] rfl rfl (any_of HT_.out (by kernel_rfl)) (fun _ _ _ h => h) (Or.inl ⟨by rfl, ?_⟩) ?_ ?_
         rotate_left
         ·intro w'
          go_simp
          with_reducible rfl
         rotate_left
         ·simp only [Act.put, List.setIfInBounds_toArray, List.set_cons_zero, List.set_cons_succ, i64_w, i32_w]
          rfl
         refine done_ (done_of HT_.out (by kernel_rfl)) ?_
         try go_wp2
         go_ret
         exact ⟨by rfl, by repeat ((with_reducible (exact HB.out)))⟩
        ·rw [if_neg c19] at H
         have c19b0 : (t116 == t121 && (t117 == t122)) = false := by simpa using c19
         (try (have c19b1 : decide (t116 = t121 && (t117 == t122)) = false := by simpa using c19))
         (try (have c19b2 : (t116 == t121 && (t117 == t122)) = false := by simpa using c19))
         (try (have c19b3 : ¬ (t116 = t121 && (t117 == t122)) := by simpa using c19))
         clear c19
         obtain rfl := Option.some.inj H
         go_enter Tryd.func8, Tryd.ntmps8
         try go_wp2_with (first | ((with_reducible refine gate_dst (N := 6) rfl ?_); refine box_event ?hg (N := 6) ?hd (cs := #[.int .i64 a2_0, .int .i64 a2_1, .string a2_2]) (t := 26) ?hr ?_; (case hd => rfl); (case hg => rfl); (case hr => (go_simp; done)); intro gb101 hg w57 hbox hb; have n0_ := Aside0.mk (below_step (by repeat ((with_reducible (exact HB.out)))) hb); have n1_ := Aside0.mk (hbox); have n2_ := Aside0.mk ((by rw [hg]; exact (below_size (by repeat ((with_reducible (exact HB.out))))) : w.heap.size ≤ gb101)); have n3_ := Aside0.mk ((by rw [hg]; exact (below_size (by repeat ((with_reducible (exact HB.out))))) : w.heap.size ≤ gb101)); clear HB; have HB := n0_; have BK101 := n1_; have GW101 := n2_; have GE101 := n3_; clear n0_ n1_ n2_ n3_; clear hb hbox hg) | ((with_reducible refine gate_dst (N := 7) rfl ?_); refine box_event ?hg (N := 7) ?hd (cs := #[.int .i64 a3_0, .int .i64 a3_1, .string a3_2]) (t := 26) ?hr ?_; (case hd => rfl); (case hg => rfl); (case hr => (go_simp; done)); intro gb102 hg w58 hbox hb; have n0_ := Aside0.mk (blk_below (g := gb101) (o := .cells #[.int .i64 a2_0, .int .i64 a2_1, .string a2_2] 26 (0, 0)) (by (with_reducible skip); exact BK101.out) hb); have n1_ := Aside0.mk (below_step (by repeat ((with_reducible (exact HB.out)))) hb); have n2_ := Aside0.mk (hbox); have n3_ := Aside0.mk ((by rw [hg]; exact (below_size (by repeat ((with_reducible (exact HB.out))))) : w.heap.size ≤ gb102)); have n4_ := Aside0.mk ((by rw [hg]; exact (below_size (by repeat ((with_reducible (exact HB.out))))) : w.heap.size ≤ gb102)); have n5_ := Aside0.mk ((by rw [hg]; exact Nat.ne_of_lt (blk_lt (g := gb101) (o := .cells #[.int .i64 a2_0, .int .i64 a2_1, .string a2_2] 26 (0, 0)) (by (with_reducible skip); exact BK101.out)) : gb101 ≠ gb102)); have n6_ := Aside0.mk ((by rw [hg]; exact Nat.ne_of_gt (blk_lt (g := gb101) (o := .cells #[.int .i64 a2_0, .int .i64 a2_1, .string a2_2] 26 (0, 0)) (by (with_reducible skip); exact BK101.out)) : gb102 ≠ gb101)); clear BK101; clear HB; have BK101 := n0_; have HB := n1_; have BK102 := n2_; have GW102 := n3_; have GE102 := n4_; have NB101_102 := n5_; have NB102_101 := n6_; clear n0_ n1_ n2_ n3_ n4_ n5_ n6_; clear hb hbox hg) | ((with_reducible refine gate_callee (f := 11) rfl ?_); refine goesL_ (some 16) rfl rfl Tryd.func11 (by kernel_rfl) rfl #[] rfl (by (try simp only [List.map_toArray, List.map_cons, List.map_nil]); done) ?_; (with_reducible refine (cleanselaw04_head.calls  true _ ?sGl A5.out).mono ?_); (case sGl => exact Gl.below HGl.out (by repeat ((with_reducible (exact HB.out))))); rintro e w59 ⟨rfl, hb⟩; refine ⟨_, rfl, ?_⟩; have n0_ := Aside0.mk (blk_below (g := gb101) (o := .cells #[.int .i64 a2_0, .int .i64 a2_1, .string a2_2] 26 (0, 0)) (by (with_reducible skip); exact BK101.out) hb); have n1_ := Aside0.mk (blk_below (g := gb102) (o := .cells #[.int .i64 a3_0, .int .i64 a3_1, .string a3_2] 26 (0, 0)) (by (with_reducible skip); exact BK102.out) hb); have n2_ := Aside0.mk (below_step (by repeat ((with_reducible (exact HB.out)))) hb); clear BK101; clear BK102; clear HB; have BK101 := n0_; have BK102 := n1_; have HB := n2_; clear n0_ n1_ n2_; (try clear hb); have hnb60 := NB101_102.out; have hnc60 := NB102_101.out; have hcz61_0 : w59.cell? ⟨gb101, 0, none⟩ = some (.int .i64 a2_0) := (blk_cell BK101.out 0).trans rfl; have hcz61_1 : w59.cell? ⟨gb101, 1, none⟩ = some (.int .i64 a2_1) := (blk_cell BK101.out 1).trans rfl; have hcz61_2 : w59.cell? ⟨gb101, 2, none⟩ = some (.string a2_2) := (blk_cell BK101.out 2).trans rfl; have hfz61_0 := blk_frozen BK101.out 0; have hfz61_1 := blk_frozen BK101.out 1; have hfz61_2 := blk_frozen BK101.out 2; have hcz62_0 : w59.cell? ⟨gb102, 0, none⟩ = some (.int .i64 a3_0) := (blk_cell BK102.out 0).trans rfl; have hcz62_1 : w59.cell? ⟨gb102, 1, none⟩ = some (.int .i64 a3_1) := (blk_cell BK102.out 1).trans rfl; have hcz62_2 : w59.cell? ⟨gb102, 2, none⟩ = some (.string a3_2) := (blk_cell BK102.out 2).trans rfl; have hfz62_0 := blk_frozen BK102.out 0; have hfz62_1 := blk_frozen BK102.out 1; have hfz62_2 := blk_frozen BK102.out 2) | ((with_reducible refine gate_dst (N := 21) rfl ?_); refine Kd.R_lit Kd.string _ 9 ?hg (N := 21) ?hd (xs := ([a2_2, a3_2] : List ByteArray)) (inner := [.string a2_2, .string a3_2]) (ok := fun _ => True) (okp := fun _ => True) ?hr ?hp (fun _ hk => hk) trivial (Below.refl _ _) (Nat.le_refl _) (by simp) ?_; (case hd => rfl); (case hg => rfl); (case hr => (go_simp; done)); (case hp => exact (Reps.one (show Kd.M Kd.string _ _ _ a2_2 [.string a2_2] from rfl) (Reps.one (show Kd.M Kd.string _ _ _ a3_2 [.string a3_2] from rfl) (Reps.none _ _)))); intro v105 w63 ho64 hb hg_ hnew_; clear hg_ hnew_; ((rw [← Ny104.out] at ho64)); have n0_ := Aside0.mk (Kd.R_lower ho64 (below_size (by repeat ((with_reducible (exact HB.out)))))); have n1_ := Aside0.mk (blk_below (g := gb101) (o := .cells #[.int .i64 a2_0, .int .i64 a2_1, .string a2_2] 26 (0, 0)) (by (with_reducible skip); exact BK101.out) hb); have n2_ := Aside0.mk (blk_below (g := gb102) (o := .cells #[.int .i64 a3_0, .int .i64 a3_1, .string a3_2] 26 (0, 0)) (by (with_reducible skip); exact BK102.out) hb); have n3_ := Aside0.mk (below_step (by repeat ((with_reducible (exact HB.out)))) hb); clear BK101; clear BK102; clear HB; have HO106 := n0_; have BK101 := n1_; have BK102 := n2_; have HB := n3_; clear n0_ n1_ n2_ n3_; clear hb ho64; obtain ⟨Ao65, co65, eo65⟩ := Kd.R_slice HO106.out; subst eo65) | ((with_reducible refine gate_callee (f := 13) rfl ?_); refine goesL_ (some 22) rfl rfl Tryd.func13 (by kernel_rfl) rfl #[.int .i64 200, .slice Ao65 y104.length co65] rfl (by (try simp only [List.map_toArray, List.map_cons, List.map_nil]); rfl) ?_; (with_reducible refine (cleanseref04_Short.calls k 200 _ _ y104 true _ ?side1 ?side2 A6.out).mono ?_); (case side1 => repeat ((exact (Kd.R_reads' HO106.out).2.2))); (case side2 => exact (Kd.R_reads' HO106.out).2.1); rintro e w' ⟨rfl, ⟨nd, rfl⟩⟩; refine ⟨_, rfl, ?_⟩; (try (rw [drewN_self w63]; generalize hq_ : World.drewN w63 _ = w63; have n0_ : Aside0 (Kd.R Kd.string 9 w63 w.heap.size (fun _ => True) (.slice Ao65 y104.length co65) y104) := ⟨by rw [← hq_]; exact (by (with_reducible repeat ((apply Kd.R_drewN))); exact HO106.out)⟩; have n1_ : Aside0 (w63.heap[gb101]? = some (.cells #[.int .i64 a2_0, .int .i64 a2_1, .string a2_2] 26 (0, 0))) := ⟨by rw [← hq_]; exact (by (with_reducible repeat ((refine blk_drewN ?_ _))); exact BK101.out)⟩; have n2_ : Aside0 (w63.heap[gb102]? = some (.cells #[.int .i64 a3_0, .int .i64 a3_1, .string a3_2] 26 (0, 0))) := ⟨by rw [← hq_]; exact (by (with_reducible repeat ((refine blk_drewN ?_ _))); exact BK102.out)⟩; have n3_ : Aside0 (Below w.heap.size w w63) := ⟨by rw [← hq_]; exact (by repeat ((with_reducible first | exact HB.out | apply pw_below_drewN)))⟩; clear HO106 BK101 BK102 HB hq_; have HO106 := n0_; have BK101 := n1_; have BK102 := n2_; have HB := n3_; clear n0_ n1_ n2_ n3_)); have hcz66_0 : w63.cell? ⟨gb101, 0, none⟩ = some (.int .i64 a2_0) := (blk_cell BK101.out 0).trans rfl; have hcz66_1 : w63.cell? ⟨gb101, 1, none⟩ = some (.int .i64 a2_1) := (blk_cell BK101.out 1).trans rfl; have hcz66_2 : w63.cell? ⟨gb101, 2, none⟩ = some (.string a2_2) := (blk_cell BK101.out 2).trans rfl; have hfz66_0 := blk_frozen BK101.out 0; have hfz66_1 := blk_frozen BK101.out 1; have hfz66_2 := blk_frozen BK101.out 2; have hcz67_0 : w63.cell? ⟨gb102, 0, none⟩ = some (.int .i64 a3_0) := (blk_cell BK102.out 0).trans rfl; have hcz67_1 : w63.cell? ⟨gb102, 1, none⟩ = some (.int .i64 a3_1) := (blk_cell BK102.out 1).trans rfl; have hcz67_2 : w63.cell? ⟨gb102, 2, none⟩ = some (.string a3_2) := (blk_cell BK102.out 2).trans rfl; have hfz67_0 := blk_frozen BK102.out 0; have hfz67_1 := blk_frozen BK102.out 1; have hfz67_2 := blk_frozen BK102.out 2) | ((with_reducible refine gate_callee (f := 20) rfl ?_); refine goesL_ (some 30) rfl rfl Tryd.func20 (by kernel_rfl) rfl #[.int .i64 a0, .int .i64 a1, .agg #[.int .i64 a2_0, .int .i64 a2_1, .string a2_2], .agg #[.int .i64 a3_0, .int .i64 a3_1, .string a3_2]] rfl (by (try simp only [List.map_toArray, List.map_cons, List.map_nil]); rfl) ?_; (with_reducible refine (measure_Of.calls k a0 a1 a2_0 a2_1 a2_2 a3_0 a3_1 a3_2 t108 t109 t110 _ ?sGl A8.out).mono ?_); (case sGl => exact Gl.below HGl.out (by repeat ((with_reducible (exact HB.out))))); rintro e w68 ⟨rfl, hb⟩; refine ⟨_, rfl, ?_⟩; have n0_ := Aside0.mk (Kd.R_below (by (with_reducible skip); exact HO106.out) hb); have n1_ := Aside0.mk (blk_below (g := gb101) (o := .cells #[.int .i64 a2_0, .int .i64 a2_1, .string a2_2] 26 (0, 0)) (by (with_reducible skip); exact BK101.out) hb); have n2_ := Aside0.mk (blk_below (g := gb102) (o := .cells #[.int .i64 a3_0, .int .i64 a3_1, .string a3_2] 26 (0, 0)) (by (with_reducible skip); exact BK102.out) hb); have n3_ := Aside0.mk (below_step (by repeat ((with_reducible (exact HB.out)))) hb); clear HO106; clear BK101; clear BK102; clear HB; have HO106 := n0_; have BK101 := n1_; have BK102 := n2_; have HB := n3_; clear n0_ n1_ n2_ n3_; (try clear hb)) | ((with_reducible refine gate_dst (N := 10) rfl ?_); refine box_event ?hg (N := 10) ?hd (cs := #[.int .i64 0, .int .i64 0]) (t := 32) ?hr ?_; (case hd => rfl); (case hg => rfl); (case hr => (go_simp; done)); intro gb111 hg w69 hbox hb; have n0_ := Aside0.mk (Kd.R_below (by (with_reducible skip); exact HO106.out) hb); have n1_ := Aside0.mk (blk_below (g := gb101) (o := .cells #[.int .i64 a2_0, .int .i64 a2_1, .string a2_2] 26 (0, 0)) (by (with_reducible skip); exact BK101.out) hb); have n2_ := Aside0.mk (blk_below (g := gb102) (o := .cells #[.int .i64 a3_0, .int .i64 a3_1, .string a3_2] 26 (0, 0)) (by (with_reducible skip); exact BK102.out) hb); have n3_ := Aside0.mk (below_step (by repeat ((with_reducible (exact HB.out)))) hb); have n4_ := Aside0.mk (hbox); have n5_ := Aside0.mk ((by rw [hg]; exact (below_size (by repeat ((with_reducible (exact HB.out))))) : w.heap.size ≤ gb111)); have n6_ := Aside0.mk ((by rw [hg]; exact (below_size (by repeat ((with_reducible (exact HB.out))))) : w.heap.size ≤ gb111)); have n7_ := Aside0.mk ((by rw [hg]; exact Nat.ne_of_lt (blk_lt (g := gb101) (o := .cells #[.int .i64 a2_0, .int .i64 a2_1, .string a2_2] 26 (0, 0)) (by (with_reducible skip); exact BK101.out)) : gb101 ≠ gb111)); have n8_ := Aside0.mk ((by rw [hg]; exact Nat.ne_of_gt (blk_lt (g := gb101) (o := .cells #[.int .i64 a2_0, .int .i64 a2_1, .string a2_2] 26 (0, 0)) (by (with_reducible skip); exact BK101.out)) : gb111 ≠ gb101)); have n9_ := Aside0.mk ((by rw [hg]; exact Nat.ne_of_lt (blk_lt (g := gb102) (o := .cells #[.int .i64 a3_0, .int .i64 a3_1, .string a3_2] 26 (0, 0)) (by (with_reducible skip); exact BK102.out)) : gb102 ≠ gb111)); have n10_ := Aside0.mk ((by rw [hg]; exact Nat.ne_of_gt (blk_lt (g := gb102) (o := .cells #[.int .i64 a3_0, .int .i64 a3_1, .string a3_2] 26 (0, 0)) (by (with_reducible skip); exact BK102.out)) : gb111 ≠ gb102)); clear HO106; clear BK101; clear BK102; clear HB; have HO106 := n0_; have BK101 := n1_; have BK102 := n2_; have HB := n3_; have BK111 := n4_; have GW111 := n5_; have GE111 := n6_; have NB101_111 := n7_; have NB111_101 := n8_; have NB102_111 := n9_; have NB111_102 := n10_; clear n0_ n1_ n2_ n3_ n4_ n5_ n6_ n7_ n8_ n9_ n10_; clear hb hbox hg; have hnb70 := NB111_101.out; have hnc70 := NB101_111.out; have hnb71 := NB111_102.out; have hnc71 := NB102_111.out; have hcz72_0 : w69.cell? ⟨gb111, 0, none⟩ = some (.int .i64 0) := (blk_cell BK111.out 0).trans rfl; have hcz72_1 : w69.cell? ⟨gb111, 1, none⟩ = some (.int .i64 0) := (blk_cell BK111.out 1).trans rfl; have hfz72_0 := blk_frozen BK111.out 0; have hfz72_1 := blk_frozen BK111.out 1; have hcz73_0 : w69.cell? ⟨gb102, 0, none⟩ = some (.int .i64 a3_0) := (blk_cell BK102.out 0).trans rfl; have hcz73_1 : w69.cell? ⟨gb102, 1, none⟩ = some (.int .i64 a3_1) := (blk_cell BK102.out 1).trans rfl; have hcz73_2 : w69.cell? ⟨gb102, 2, none⟩ = some (.string a3_2) := (blk_cell BK102.out 2).trans rfl; have hfz73_0 := blk_frozen BK102.out 0; have hfz73_1 := blk_frozen BK102.out 1; have hfz73_2 := blk_frozen BK102.out 2; have hcz74_0 : w69.cell? ⟨gb101, 0, none⟩ = some (.int .i64 a2_0) := (blk_cell BK101.out 0).trans rfl; have hcz74_1 : w69.cell? ⟨gb101, 1, none⟩ = some (.int .i64 a2_1) := (blk_cell BK101.out 1).trans rfl; have hcz74_2 : w69.cell? ⟨gb101, 2, none⟩ = some (.string a2_2) := (blk_cell BK101.out 2).trans rfl; have hfz74_0 := blk_frozen BK101.out 0; have hfz74_1 := blk_frozen BK101.out 1; have hfz74_2 := blk_frozen BK101.out 2) | ((with_reducible refine gate_callee (f := 20) rfl ?_); refine goesL_ (some 38) rfl rfl Tryd.func20 (by kernel_rfl) rfl #[.int .i64 a0, .int .i64 a1, .agg #[.int .i64 a3_0, .int .i64 a3_1, .string a3_2], .agg #[.int .i64 a2_0, .int .i64 a2_1, .string a2_2]] rfl (by (try simp only [List.map_toArray, List.map_cons, List.map_nil]); rfl) ?_; (with_reducible refine (measure_Of.calls k a0 a1 a3_0 a3_1 a3_2 a2_0 a2_1 a2_2 t112 t113 t114 _ ?sGl A9.out).mono ?_); (case sGl => exact Gl.below HGl.out (by repeat ((with_reducible first | exact HB.out | refine below_set ?_ (Aside0.out (by assumption)))))); rintro e w75 ⟨rfl, hb⟩; refine ⟨_, rfl, ?_⟩; have n0_ := Aside0.mk (Kd.R_below (by (with_reducible skip); exact (Kd.R_mono (Kd.R_far (p := ⟨gb111, 1, none⟩) (Kd.R_far (p := ⟨gb111, 0, none⟩) (Kd.R_types HO106.out BK111.out (by decide)) (fun _ hk => hk.2) (.int .i64 t108)) (fun _ hk => hk.2) (.int .i64 t109)) (fun _ h_ => h_.1))) hb); have n1_ := Aside0.mk (blk_below (g := gb101) (o := .cells #[.int .i64 a2_0, .int .i64 a2_1, .string a2_2] 26 (0, 0)) (by (with_reducible skip); refine blk_far ?_ NB101_111.out _; (with_reducible skip); refine blk_far ?_ NB101_111.out _; (with_reducible skip); exact BK101.out) hb); have n2_ := Aside0.mk (blk_below (g := gb102) (o := .cells #[.int .i64 a3_0, .int .i64 a3_1, .string a3_2] 26 (0, 0)) (by (with_reducible skip); refine blk_far ?_ NB102_111.out _; (with_reducible skip); refine blk_far ?_ NB102_111.out _; (with_reducible skip); exact BK102.out) hb); have n3_ := Aside0.mk (blk_below (g := gb111) (o := .cells #[.int .i64 t108, .int .i64 t109] 32 (0, 0)) (by (with_reducible skip); refine blk_put (cs := #[.int .i64 t108, .int .i64 0]) ?_ 1 _ rfl; (with_reducible skip); refine blk_put (cs := #[.int .i64 0, .int .i64 0]) ?_ 0 _ rfl; (with_reducible skip); exact BK111.out) hb); have n4_ := Aside0.mk (below_step (by repeat ((with_reducible first | exact HB.out | refine below_set ?_ GE111.out))) hb); clear HO106; clear BK101; clear BK102; clear BK111; clear HB; have HO106 := n0_; have BK101 := n1_; have BK102 := n2_; have BK111 := n3_; have HB := n4_; clear n0_ n1_ n2_ n3_ n4_; (try clear hb)) | ((with_reducible refine gate_dst (N := 12) rfl ?_); refine box_event ?hg (N := 12) ?hd (cs := #[.int .i64 0, .int .i64 0]) (t := 32) ?hr ?_; (case hd => rfl); (case hg => rfl); (case hr => (go_simp; done)); intro gb115 hg w76 hbox hb; have n0_ := Aside0.mk (Kd.R_below (by (with_reducible skip); exact HO106.out) hb); have n1_ := Aside0.mk (blk_below (g := gb101) (o := .cells #[.int .i64 a2_0, .int .i64 a2_1, .string a2_2] 26 (0, 0)) (by (with_reducible skip); exact BK101.out) hb); have n2_ := Aside0.mk (blk_below (g := gb102) (o := .cells #[.int .i64 a3_0, .int .i64 a3_1, .string a3_2] 26 (0, 0)) (by (with_reducible skip); exact BK102.out) hb); have n3_ := Aside0.mk (blk_below (g := gb111) (o := .cells #[.int .i64 t108, .int .i64 t109] 32 (0, 0)) (by (with_reducible skip); exact BK111.out) hb); have n4_ := Aside0.mk (below_step (by repeat ((with_reducible (exact HB.out)))) hb); have n5_ := Aside0.mk (hbox); have n6_ := Aside0.mk ((by rw [hg]; exact (below_size (by repeat ((with_reducible (exact HB.out))))) : w.heap.size ≤ gb115)); have n7_ := Aside0.mk ((by rw [hg]; exact (below_size (by repeat ((with_reducible (exact HB.out))))) : w.heap.size ≤ gb115)); have n8_ := Aside0.mk ((by rw [hg]; exact Nat.ne_of_lt (blk_lt (g := gb101) (o := .cells #[.int .i64 a2_0, .int .i64 a2_1, .string a2_2] 26 (0, 0)) (by (with_reducible skip); exact BK101.out)) : gb101 ≠ gb115)); have n9_ := Aside0.mk ((by rw [hg]; exact Nat.ne_of_gt (blk_lt (g := gb101) (o := .cells #[.int .i64 a2_0, .int .i64 a2_1, .string a2_2] 26 (0, 0)) (by (with_reducible skip); exact BK101.out)) : gb115 ≠ gb101)); have n10_ := Aside0.mk ((by rw [hg]; exact Nat.ne_of_lt (blk_lt (g := gb102) (o := .cells #[.int .i64 a3_0, .int .i64 a3_1, .string a3_2] 26 (0, 0)) (by (with_reducible skip); exact BK102.out)) : gb102 ≠ gb115)); have n11_ := Aside0.mk ((by rw [hg]; exact Nat.ne_of_gt (blk_lt (g := gb102) (o := .cells #[.int .i64 a3_0, .int .i64 a3_1, .string a3_2] 26 (0, 0)) (by (with_reducible skip); exact BK102.out)) : gb115 ≠ gb102)); have n12_ := Aside0.mk ((by rw [hg]; exact Nat.ne_of_lt (blk_lt (g := gb111) (o := .cells #[.int .i64 t108, .int .i64 t109] 32 (0, 0)) (by (with_reducible skip); exact BK111.out)) : gb111 ≠ gb115)); have n13_ := Aside0.mk ((by rw [hg]; exact Nat.ne_of_gt (blk_lt (g := gb111) (o := .cells #[.int .i64 t108, .int .i64 t109] 32 (0, 0)) (by (with_reducible skip); exact BK111.out)) : gb115 ≠ gb111)); clear HO106; clear BK101; clear BK102; clear BK111; clear HB; have HO106 := n0_; have BK101 := n1_; have BK102 := n2_; have BK111 := n3_; have HB := n4_; have BK115 := n5_; have GW115 := n6_; have GE115 := n7_; have NB101_115 := n8_; have NB115_101 := n9_; have NB102_115 := n10_; have NB115_102 := n11_; have NB111_115 := n12_; have NB115_111 := n13_; clear n0_ n1_ n2_ n3_ n4_ n5_ n6_ n7_ n8_ n9_ n10_ n11_ n12_ n13_; clear hb hbox hg; have hnb77 := NB115_101.out; have hnc77 := NB101_115.out; have hnb78 := NB115_102.out; have hnc78 := NB102_115.out; have hnb79 := NB115_111.out; have hnc79 := NB111_115.out; have hcz80_0 : w76.cell? ⟨gb115, 0, none⟩ = some (.int .i64 0) := (blk_cell BK115.out 0).trans rfl; have hcz80_1 : w76.cell? ⟨gb115, 1, none⟩ = some (.int .i64 0) := (blk_cell BK115.out 1).trans rfl; have hfz80_0 := blk_frozen BK115.out 0; have hfz80_1 := blk_frozen BK115.out 1; have hcz81_0 : w76.cell? ⟨gb101, 0, none⟩ = some (.int .i64 a2_0) := (blk_cell BK101.out 0).trans rfl; have hcz81_1 : w76.cell? ⟨gb101, 1, none⟩ = some (.int .i64 a2_1) := (blk_cell BK101.out 1).trans rfl; have hcz81_2 : w76.cell? ⟨gb101, 2, none⟩ = some (.string a2_2) := (blk_cell BK101.out 2).trans rfl; have hfz81_0 := blk_frozen BK101.out 0; have hfz81_1 := blk_frozen BK101.out 1; have hfz81_2 := blk_frozen BK101.out 2) | ((with_reducible refine gate_callee (f := 20) rfl ?_); refine goesL_ (some 46) rfl rfl Tryd.func20 (by kernel_rfl) rfl #[.int .i64 a0, .int .i64 a1, .agg #[.int .i64 a2_0, .int .i64 a2_1, .string a2_2], .agg #[.int .i64 a2_0, .int .i64 a2_1, .string a2_2]] rfl (by (try simp only [List.map_toArray, List.map_cons, List.map_nil]); rfl) ?_; (with_reducible refine (measure_Of.calls k a0 a1 a2_0 a2_1 a2_2 a2_0 a2_1 a2_2 t116 t117 t118 _ ?sGl A10.out).mono ?_); (case sGl => exact Gl.below HGl.out (by repeat ((with_reducible first | exact HB.out | refine below_set ?_ (Aside0.out (by assumption)))))); rintro e w82 ⟨rfl, hb⟩; refine ⟨_, rfl, ?_⟩; have n0_ := Aside0.mk (Kd.R_below (by (with_reducible skip); exact (Kd.R_mono (Kd.R_far (p := ⟨gb115, 1, none⟩) (Kd.R_far (p := ⟨gb115, 0, none⟩) (Kd.R_types HO106.out BK115.out (by decide)) (fun _ hk => hk.2) (.int .i64 t112)) (fun _ hk => hk.2) (.int .i64 t113)) (fun _ h_ => h_.1))) hb); have n1_ := Aside0.mk (blk_below (g := gb101) (o := .cells #[.int .i64 a2_0, .int .i64 a2_1, .string a2_2] 26 (0, 0)) (by (with_reducible skip); refine blk_far ?_ NB101_115.out _; (with_reducible skip); refine blk_far ?_ NB101_115.out _; (with_reducible skip); exact BK101.out) hb); have n2_ := Aside0.mk (blk_below (g := gb102) (o := .cells #[.int .i64 a3_0, .int .i64 a3_1, .string a3_2] 26 (0, 0)) (by (with_reducible skip); refine blk_far ?_ NB102_115.out _; (with_reducible skip); refine blk_far ?_ NB102_115.out _; (with_reducible skip); exact BK102.out) hb); have n3_ := Aside0.mk (blk_below (g := gb111) (o := .cells #[.int .i64 t108, .int .i64 t109] 32 (0, 0)) (by (with_reducible skip); refine blk_far ?_ NB111_115.out _; (with_reducible skip); refine blk_far ?_ NB111_115.out _; (with_reducible skip); exact BK111.out) hb); have n4_ := Aside0.mk (blk_below (g := gb115) (o := .cells #[.int .i64 t112, .int .i64 t113] 32 (0, 0)) (by (with_reducible skip); refine blk_put (cs := #[.int .i64 t112, .int .i64 0]) ?_ 1 _ rfl; (with_reducible skip); refine blk_put (cs := #[.int .i64 0, .int .i64 0]) ?_ 0 _ rfl; (with_reducible skip); exact BK115.out) hb); have n5_ := Aside0.mk (below_step (by repeat ((with_reducible first | exact HB.out | refine below_set ?_ GE115.out))) hb); clear HO106; clear BK101; clear BK102; clear BK111; clear BK115; clear HB; have HO106 := n0_; have BK101 := n1_; have BK102 := n2_; have BK111 := n3_; have BK115 := n4_; have HB := n5_; clear n0_ n1_ n2_ n3_ n4_ n5_; (try clear hb)) | ((with_reducible refine gate_dst (N := 14) rfl ?_); refine box_event ?hg (N := 14) ?hd (cs := #[.int .i64 0, .int .i64 0]) (t := 32) ?hr ?_; (case hd => rfl); (case hg => rfl); (case hr => (go_simp; done)); intro gb119 hg w83 hbox hb; have n0_ := Aside0.mk (Kd.R_below (by (with_reducible skip); exact HO106.out) hb); have n1_ := Aside0.mk (blk_below (g := gb101) (o := .cells #[.int .i64 a2_0, .int .i64 a2_1, .string a2_2] 26 (0, 0)) (by (with_reducible skip); exact BK101.out) hb); have n2_ := Aside0.mk (blk_below (g := gb102) (o := .cells #[.int .i64 a3_0, .int .i64 a3_1, .string a3_2] 26 (0, 0)) (by (with_reducible skip); exact BK102.out) hb); have n3_ := Aside0.mk (blk_below (g := gb111) (o := .cells #[.int .i64 t108, .int .i64 t109] 32 (0, 0)) (by (with_reducible skip); exact BK111.out) hb); have n4_ := Aside0.mk (blk_below (g := gb115) (o := .cells #[.int .i64 t112, .int .i64 t113] 32 (0, 0)) (by (with_reducible skip); exact BK115.out) hb); have n5_ := Aside0.mk (below_step (by repeat ((with_reducible (exact HB.out)))) hb); have n6_ := Aside0.mk (hbox); have n7_ := Aside0.mk ((by rw [hg]; exact (below_size (by repeat ((with_reducible (exact HB.out))))) : w.heap.size ≤ gb119)); have n8_ := Aside0.mk ((by rw [hg]; exact (below_size (by repeat ((with_reducible (exact HB.out))))) : w.heap.size ≤ gb119)); have n9_ := Aside0.mk ((by rw [hg]; exact Nat.ne_of_lt (blk_lt (g := gb101) (o := .cells #[.int .i64 a2_0, .int .i64 a2_1, .string a2_2] 26 (0, 0)) (by (with_reducible skip); exact BK101.out)) : gb101 ≠ gb119)); have n10_ := Aside0.mk ((by rw [hg]; exact Nat.ne_of_gt (blk_lt (g := gb101) (o := .cells #[.int .i64 a2_0, .int .i64 a2_1, .string a2_2] 26 (0, 0)) (by (with_reducible skip); exact BK101.out)) : gb119 ≠ gb101)); have n11_ := Aside0.mk ((by rw [hg]; exact Nat.ne_of_lt (blk_lt (g := gb102) (o := .cells #[.int .i64 a3_0, .int .i64 a3_1, .string a3_2] 26 (0, 0)) (by (with_reducible skip); exact BK102.out)) : gb102 ≠ gb119)); have n12_ := Aside0.mk ((by rw [hg]; exact Nat.ne_of_gt (blk_lt (g := gb102) (o := .cells #[.int .i64 a3_0, .int .i64 a3_1, .string a3_2] 26 (0, 0)) (by (with_reducible skip); exact BK102.out)) : gb119 ≠ gb102)); have n13_ := Aside0.mk ((by rw [hg]; exact Nat.ne_of_lt (blk_lt (g := gb111) (o := .cells #[.int .i64 t108, .int .i64 t109] 32 (0, 0)) (by (with_reducible skip); exact BK111.out)) : gb111 ≠ gb119)); have n14_ := Aside0.mk ((by rw [hg]; exact Nat.ne_of_gt (blk_lt (g := gb111) (o := .cells #[.int .i64 t108, .int .i64 t109] 32 (0, 0)) (by (with_reducible skip); exact BK111.out)) : gb119 ≠ gb111)); have n15_ := Aside0.mk ((by rw [hg]; exact Nat.ne_of_lt (blk_lt (g := gb115) (o := .cells #[.int .i64 t112, .int .i64 t113] 32 (0, 0)) (by (with_reducible skip); exact BK115.out)) : gb115 ≠ gb119)); have n16_ := Aside0.mk ((by rw [hg]; exact Nat.ne_of_gt (blk_lt (g := gb115) (o := .cells #[.int .i64 t112, .int .i64 t113] 32 (0, 0)) (by (with_reducible skip); exact BK115.out)) : gb119 ≠ gb115)); clear HO106; clear BK101; clear BK102; clear BK111; clear BK115; clear HB; have HO106 := n0_; have BK101 := n1_; have BK102 := n2_; have BK111 := n3_; have BK115 := n4_; have HB := n5_; have BK119 := n6_; have GW119 := n7_; have GE119 := n8_; have NB101_119 := n9_; have NB119_101 := n10_; have NB102_119 := n11_; have NB119_102 := n12_; have NB111_119 := n13_; have NB119_111 := n14_; have NB115_119 := n15_; have NB119_115 := n16_; clear n0_ n1_ n2_ n3_ n4_ n5_ n6_ n7_ n8_ n9_ n10_ n11_ n12_ n13_ n14_ n15_ n16_; clear hb hbox hg; have hnb84 := NB119_101.out; have hnc84 := NB101_119.out; have hnb85 := NB119_102.out; have hnc85 := NB102_119.out; have hnb86 := NB119_111.out; have hnc86 := NB111_119.out; have hnb87 := NB119_115.out; have hnc87 := NB115_119.out; have hcz88_0 : w83.cell? ⟨gb119, 0, none⟩ = some (.int .i64 0) := (blk_cell BK119.out 0).trans rfl; have hcz88_1 : w83.cell? ⟨gb119, 1, none⟩ = some (.int .i64 0) := (blk_cell BK119.out 1).trans rfl; have hfz88_0 := blk_frozen BK119.out 0; have hfz88_1 := blk_frozen BK119.out 1; have hcz89_0 : w83.cell? ⟨gb111, 0, none⟩ = some (.int .i64 t108) := (blk_cell BK111.out 0).trans rfl; have hcz89_1 : w83.cell? ⟨gb111, 1, none⟩ = some (.int .i64 t109) := (blk_cell BK111.out 1).trans rfl; have hfz89_0 := blk_frozen BK111.out 0; have hfz89_1 := blk_frozen BK111.out 1; have hcz90_0 : w83.cell? ⟨gb115, 0, none⟩ = some (.int .i64 t112) := (blk_cell BK115.out 0).trans rfl; have hcz90_1 : w83.cell? ⟨gb115, 1, none⟩ = some (.int .i64 t113) := (blk_cell BK115.out 1).trans rfl; have hfz90_0 := blk_frozen BK115.out 0; have hfz90_1 := blk_frozen BK115.out 1) | (go_at_call 26; (with_reducible refine (cleanselaw04_unit.calls k t108 t109 true _ A14.out).mono ?_); rintro e w91 ⟨rfl, hb⟩; have n0_ := Aside0.mk (Kd.R_below (by (with_reducible skip); exact (Kd.R_mono (Kd.R_far (p := ⟨gb119, 1, none⟩) (Kd.R_far (p := ⟨gb119, 0, none⟩) (Kd.R_types HO106.out BK119.out (by decide)) (fun _ hk => hk.2) (.int .i64 t116)) (fun _ hk => hk.2) (.int .i64 t117)) (fun _ h_ => h_.1))) hb); have n1_ := Aside0.mk (blk_below (g := gb101) (o := .cells #[.int .i64 a2_0, .int .i64 a2_1, .string a2_2] 26 (0, 0)) (by (with_reducible skip); refine blk_far ?_ NB101_119.out _; (with_reducible skip); refine blk_far ?_ NB101_119.out _; (with_reducible skip); exact BK101.out) hb); have n2_ := Aside0.mk (blk_below (g := gb102) (o := .cells #[.int .i64 a3_0, .int .i64 a3_1, .string a3_2] 26 (0, 0)) (by (with_reducible skip); refine blk_far ?_ NB102_119.out _; (with_reducible skip); refine blk_far ?_ NB102_119.out _; (with_reducible skip); exact BK102.out) hb); have n3_ := Aside0.mk (blk_below (g := gb111) (o := .cells #[.int .i64 t108, .int .i64 t109] 32 (0, 0)) (by (with_reducible skip); refine blk_far ?_ NB111_119.out _; (with_reducible skip); refine blk_far ?_ NB111_119.out _; (with_reducible skip); exact BK111.out) hb); have n4_ := Aside0.mk (blk_below (g := gb115) (o := .cells #[.int .i64 t112, .int .i64 t113] 32 (0, 0)) (by (with_reducible skip); refine blk_far ?_ NB115_119.out _; (with_reducible skip); refine blk_far ?_ NB115_119.out _; (with_reducible skip); exact BK115.out) hb); have n5_ := Aside0.mk (blk_below (g := gb119) (o := .cells #[.int .i64 t116, .int .i64 t117] 32 (0, 0)) (by (with_reducible skip); refine blk_put (cs := #[.int .i64 t116, .int .i64 0]) ?_ 1 _ rfl; (with_reducible skip); refine blk_put (cs := #[.int .i64 0, .int .i64 0]) ?_ 0 _ rfl; (with_reducible skip); exact BK119.out) hb); have n6_ := Aside0.mk (below_step (by repeat ((with_reducible first | exact HB.out | refine below_set ?_ GE119.out))) hb); clear HO106; clear BK101; clear BK102; clear BK111; clear BK115; clear BK119; clear HB; have HO106 := n0_; have BK101 := n1_; have BK102 := n2_; have BK111 := n3_; have BK115 := n4_; have BK119 := n5_; have HB := n6_; clear n0_ n1_ n2_ n3_ n4_ n5_ n6_; (try clear hb)))
         have n0_ := Aside0.mk (Kd.R_drew HO106.out)
         have n1_ := Aside0.mk (blk_drew BK101.out)
         have n2_ := Aside0.mk (blk_drew BK102.out)
         have n3_ := Aside0.mk (blk_drew BK111.out)
         have n4_ := Aside0.mk (blk_drew BK115.out)
         have n5_ := Aside0.mk (blk_drew BK119.out)
         have n6_ := Aside0.mk (below_drew1 HB.out)
         clear HO106
         clear BK101
         clear BK102
         clear BK111
         clear BK115
         clear BK119
         clear HB
         have HO106 := n0_
         have BK101 := n1_
         have BK102 := n2_
         have BK111 := n3_
         have BK115 := n4_
         have BK119 := n5_
         have HB := n6_
         clear n0_ n1_ n2_ n3_ n4_ n5_ n6_
         refine start_ (n := 16) (S := fun w' => w'.cell? ⟨gb119, 0, none⟩ = some (.int .i64 t116) ∧ w'.cell? ⟨gb119, 1, none⟩ = some (.int .i64 t117) ∧ w'.cell? ⟨gb101, 0, none⟩ = some (.int .i64 a2_0) ∧ w'.cell? ⟨gb101, 1, none⟩ = some (.int .i64 a2_1) ∧ w'.cell? ⟨gb101, 2, none⟩ = some (.string a2_2)) (ds := []) #[false, false, false, false, false, false, false, false, false, false, false, false, false, false, false, false] (by kernel_rfl) rfl rfl ⟨(blk_cell BK119.out 0).trans rfl, (blk_cell BK119.out 1).trans rfl, (blk_cell BK101.out 0).trans rfl, (blk_cell BK101.out 1).trans rfl, (blk_cell BK101.out 2).trans rfl⟩ (fun hHeld => ?_); refine with_tabW cleanselaw04_MeasureValues.tab9 cleanselaw04_MeasureValues.bits9 (fun HT_ HW_ => ?_)
         generalize w91.drew = w92 at HO106 BK101 BK102 BK111 BK115 BK119 HB hHeld ⊢
         refine pure_ (i := 0) (N := some 66) (v := ?_) (a' := ?_) #[true, false, false, false, false, false, false, false, false, false, false, false, false, false, false, false] rfl rfl (any_of HT_.out (by kernel_rfl)) (fun _ _ _ h => h) (Or.inl ⟨by rfl, ?_⟩) ?_ ?_
         rotate_left
         ·intro w'
          go_simp
          with_reducible rfl
         rotate_left
         ·simp only [Act.put, List.setIfInBounds_toArray, List.set_cons_zero, List.set_cons_succ, i64_w, i32_w]
          rfl
         refine pure_ (i := 1) (N := some 67) (v := ?_) (a' := ?_) #[true, true, false, false, false, false, false, false, false, false, false, false, false, false, false, false] rfl rfl (any_of HT_.out (by kernel_rfl)) (fun _ _ _ h => h) (Or.inl ⟨by rfl, ?_⟩) ?_ ?_
         rotate_left
         ·intro w'
          go_simp
          with_reducible rfl
         rotate_left
         ·simp only [Act.put, List.setIfInBounds_toArray, List.set_cons_zero, List.set_cons_succ, i64_w, i32_w]
          rfl
         refine pure_ (i := 2) (N := some 68) (v := ?_) (a' := ?_) #[true, true, true, false, false, false, false, false, false, false, false, false, false, false, false, false] rfl rfl (any_of HT_.out (by kernel_rfl)) (fun _ _ _ h => h) (Or.inl ⟨by rfl, ?_⟩) ?_ ?_
         rotate_left
         ·intro w'
          go_simp
          with_reducible rfl
         rotate_left
         ·simp only [Act.put, List.setIfInBounds_toArray, List.set_cons_zero, List.set_cons_succ, i64_w, i32_w]
          rfl
         refine pure_ (i := 3) (N := some 69) (v := ?_) (a' := ?_) #[true, true, true, true, false, false, false, false, false, false, false, false, false, false, false, false] rfl rfl (any_of HT_.out (by kernel_rfl)) (fun _ _ _ h => h) (Or.inl ⟨by rfl, ?_⟩) ?_ ?_
         rotate_left
         ·intro w'
          go_simp
          with_reducible rfl
         rotate_left
         ·simp only [Act.put, List.setIfInBounds_toArray, List.set_cons_zero, List.set_cons_succ, i64_w, i32_w]
          rfl
         refine pure_ (i := 4) (N := some 70) (v := ?_) (a' := ?_) #[true, true, true, true, true, false, false, false, false, false, false, false, false, false, false, false] rfl rfl (any_of HT_.out (by kernel_rfl)) (fun _ _ _ h => h) (Or.inl ⟨by rfl, ?_⟩) ?_ ?_
         rotate_left
         ·intro w'
          go_simp
          with_reducible rfl
         rotate_left
         ·simp only [Act.put, List.setIfInBounds_toArray, List.set_cons_zero, List.set_cons_succ, i64_w, i32_w]
          rfl
         refine take_ (i := 5) (N := some 71) (v := ?_) (a' := ?_) #[true, true, true, true, true, true, false, false, false, false, false, false, false, false, false, false] rfl rfl (take_ofW HT_.out HW_.out (by kernel_rfl)) (fun _ _ _ h => h) (Or.inl ⟨by rfl, ?_⟩) hHeld ?_ ?_
         rotate_left
         ·rintro w' ⟨s0, s1, s2, s3, s4⟩
          go_simp
          with_reducible rfl
         rotate_left
         ·simp only [Act.put, List.setIfInBounds_toArray, List.set_cons_zero, List.set_cons_succ, i64_w, i32_w]
          rfl
         refine one_ (i := 6) (N := some 72) #[true, true, true, true, true, true, true, false, false, false, false, false, false, false, false, false] rfl rfl (one_of HT_.out (by kernel_rfl)) (by decide) (fun K hK => ?_)
         refine goes_ Tryd.func27 (by kernel_rfl) rfl #[.int .i64 1, .int .i64 1] (by rfl) rfl rfl (by (try simp only [List.map_toArray, List.map_cons, List.map_nil]); rfl) ?_
         with_reducible refine (cleanselaw04_of.calls 1 1 t121 t122 _ A18.out).mono ?_
         rintro e w93 ⟨rfl, hb⟩
         refine ⟨_, rfl, ?_⟩
         have n0_ := Aside0.mk (Kd.R_below (by (with_reducible skip); exact HO106.out) hb)
         have n1_ := Aside0.mk (blk_below (g := gb101) (o := .cells #[.int .i64 a2_0, .int .i64 a2_1, .string a2_2] 26 (0, 0)) (by (with_reducible skip); exact BK101.out) hb)
         have n2_ := Aside0.mk (blk_below (g := gb102) (o := .cells #[.int .i64 a3_0, .int .i64 a3_1, .string a3_2] 26 (0, 0)) (by (with_reducible skip); exact BK102.out) hb)
         have n3_ := Aside0.mk (blk_below (g := gb111) (o := .cells #[.int .i64 t108, .int .i64 t109] 32 (0, 0)) (by (with_reducible skip); exact BK111.out) hb)
         have n4_ := Aside0.mk (blk_below (g := gb115) (o := .cells #[.int .i64 t112, .int .i64 t113] 32 (0, 0)) (by (with_reducible skip); exact BK115.out) hb)
         have n5_ := Aside0.mk (blk_below (g := gb119) (o := .cells #[.int .i64 t116, .int .i64 t117] 32 (0, 0)) (by (with_reducible skip); exact BK119.out) hb)
         have n6_ := Aside0.mk (below_step (by repeat ((with_reducible (exact HB.out)))) hb)
         clear HO106
         clear BK101
         clear BK102
         clear BK111
         clear BK115
         clear BK119
         clear HB
         have HO106 := n0_
         have BK101 := n1_
         have BK102 := n2_
         have BK111 := n3_
         have BK115 := n4_
         have BK119 := n5_
         have HB := n6_
         clear n0_ n1_ n2_ n3_ n4_ n5_ n6_
         (try clear hb)
         refine hK.out _ _ ⟨(blk_cell BK119.out 0).trans rfl, (blk_cell BK119.out 1).trans rfl, (blk_cell BK101.out 0).trans rfl, (blk_cell BK101.out 1).trans rfl, (blk_cell BK101.out 2).trans rfl⟩ (fun hHeld => ?_)
         clear hK K
         refine norm_ (a' := ?_) ?_ ?_
         rotate_left
         ·show Act.put _ (some 72) _ = _
          simp only [Act.put, List.setIfInBounds_toArray, List.set_cons_zero, List.set_cons_succ, i64_w, i32_w]
          rfl
         refine pure_ (i := 7) (N := some 73) (v := ?_) (a' := ?_) #[true, true, true, true, true, true, true, true, false, false, false, false, false, false, false, false] rfl rfl (any_of HT_.out (by kernel_rfl)) (fun _ _ _ h => h) (Or.inl ⟨by rfl, ?_⟩) ?_ ?_
         rotate_left
         ·intro w'
          go_simp
          with_reducible rfl
         rotate_left
         ·simp only [Act.put, List.setIfInBounds_toArray, List.set_cons_zero, List.set_cons_succ, i64_w, i32_w]
          rfl
         refine pure_ (i := 8) (N := some 74) (v := ?_) (a' := ?_) #[true, true, true, true, true, true, true, true, true, false, false, false, false, false, false, false] rfl rfl (any_of HT_.out (by kernel_rfl)) (fun _ _ _ h => h) (Or.inl ⟨by rfl, ?_⟩) ?_ ?_
         rotate_left
         ·intro w'
          go_simp
          with_reducible rfl
         rotate_left
         ·simp only [Act.put, List.setIfInBounds_toArray, List.set_cons_zero, List.set_cons_succ, i64_w, i32_w]
          rfl
         refine pure_ (i := 9) (N := some 75) (v := ?_) (a' := ?_) #[true, true, true, true, true, true, true, true, true, true, false, false, false, false, false, false] rfl rfl (any_of HT_.out (by kernel_rfl)) (fun _ _ _ h => h) (Or.inl ⟨by rfl, ?_⟩) ?_ ?_
         rotate_left
         ·intro w'
          go_simp
          with_reducible rfl
         rotate_left
         ·simp only [Act.put, List.setIfInBounds_toArray, List.set_cons_zero, List.set_cons_succ, i64_w, i32_w]
          rfl
         refine pure_ (i := 10) (N := some 76) (v := ?_) (a' := ?_) #[true, true, true, true, true, true, true, true, true, true, true, false, false, false, false, false] rfl rfl (any_of HT_.out (by kernel_rfl)) (fun _ _ _ h => h) (Or.inl ⟨by rfl, ?_⟩) ?_ ?_
         rotate_left
         ·intro w'
          go_simp
          with_reducible rfl
         rotate_left
         ·simp only [Act.put, List.setIfInBounds_toArray, List.set_cons_zero, List.set_cons_succ, i64_w, i32_w]
          rfl
         refine take_ (i := 11) (N := some 77) (v := ?_) (a' := ?_) #[true, true, true, true, true, true, true, true, true, true, true, true, false, false, false, false] rfl rfl (take_ofW HT_.out HW_.out (by kernel_rfl)) (fun _ _ _ h => h) (Or.inl ⟨by rfl, ?_⟩) hHeld ?_ ?_
         rotate_left
         ·rintro w' ⟨s0, s1, s2, s3, s4⟩
          go_simp
          with_reducible rfl
         rotate_left
         ·simp only [Act.put, List.setIfInBounds_toArray, List.set_cons_zero, List.set_cons_succ, i64_w, i32_w]
          rfl
         refine pure_ (i := 12) (N := some 78) (v := ?_) (a' := ?_) #[true, true, true, true, true, true, true, true, true, true, true, true, true, false, false, false] rfl rfl (any_of HT_.out (by kernel_rfl)) (fun _ _ _ h => h) (Or.inl ⟨by rfl, ?_⟩) ?_ ?_
         rotate_left
         ·intro w'
          go_simp
          with_reducible rfl
         rotate_left
         ·simp only [Act.put, List.setIfInBounds_toArray, List.set_cons_zero, List.set_cons_succ, i64_w, i32_w]
          rfl
         refine pure_ (i := 13) (N := some 79) (v := ?_) (a' := ?_) #[true, true, true, true, true, true, true, true, true, true, true, true, true, true, false, false] rfl rfl (any_of HT_.out (by kernel_rfl)) (fun _ _ _ h => h) (Or.inl ⟨by rfl, ?_⟩) ?_ ?_
         rotate_left
         ·intro w'
          go_simp
          with_reducible rfl
         rotate_left
         ·simp only [Act.put, List.setIfInBounds_toArray, List.set_cons_zero, List.set_cons_succ, i64_w, i32_w]
          rfl
         refine pure_ (i := 14) (N := some 80) (v := ?_) (a' := ?_) #[true, true, true, true, true, true, true, true, true, true, true, true, true, true, true, false] rfl rfl (any_of HT_.out (by kernel_rfl)) (fun _ _ _ h => h) (Or.inl ⟨by rfl, ?_⟩) ?_ ?_
         rotate_left
         ·intro w'
          go_simp
          with_reducible rfl
         rotate_left
         ·simp only [Act.put, List.setIfInBounds_toArray, List.set_cons_zero, List.set_cons_succ, i64_w, i32_w]
          rfl
         refine pure_ (i := 15) (N := some 8) (v := ?_) (a' := ?_) #[true, true, true, true, true, true, true, true, true, true, true, true, true, true, true, true] rfl rfl (any_of HT_.out (by kernel_rfl)) (fun _ _ _ h => h) (Or.inl ⟨by rfl, ?_⟩) ?_ ?_
         rotate_left
         ·intro w'
          go_simp
          with_reducible rfl
         rotate_left
         ·simp only [Act.put, List.setIfInBounds_toArray, List.set_cons_zero, List.set_cons_succ, i64_w, i32_w]
          rfl
         refine done_ (done_of HT_.out (by kernel_rfl)) ?_
         try go_wp2
         go_ret
         exact ⟨by rfl, by repeat ((with_reducible (exact HB.out)))⟩
       ·rw [if_neg c17] at H
        have c17b0 : (t118 == 0) = false := beq_eq_false_iff_ne.mpr c17
        have c17b1 : (t118 != 0) = true := bne_iff_ne.mpr c17
        obtain rfl := Option.some.inj H
        go_enter Tryd.func8, Tryd.ntmps8
        try go_wp2_with (first | ((with_reducible refine gate_dst (N := 6) rfl ?_); refine box_event ?hg (N := 6) ?hd (cs := #[.int .i64 a2_0, .int .i64 a2_1, .string a2_2]) (t := 26) ?hr ?_; (case hd => rfl); (case hg => rfl); (case hr => (go_simp; done)); intro gb101 hg w94 hbox hb; have n0_ := Aside0.mk (below_step (by repeat ((with_reducible (exact HB.out)))) hb); have n1_ := Aside0.mk (hbox); have n2_ := Aside0.mk ((by rw [hg]; exact (below_size (by repeat ((with_reducible (exact HB.out))))) : w.heap.size ≤ gb101)); have n3_ := Aside0.mk ((by rw [hg]; exact (below_size (by repeat ((with_reducible (exact HB.out))))) : w.heap.size ≤ gb101)); clear HB; have HB := n0_; have BK101 := n1_; have GW101 := n2_; have GE101 := n3_; clear n0_ n1_ n2_ n3_; clear hb hbox hg) | ((with_reducible refine gate_dst (N := 7) rfl ?_); refine box_event ?hg (N := 7) ?hd (cs := #[.int .i64 a3_0, .int .i64 a3_1, .string a3_2]) (t := 26) ?hr ?_; (case hd => rfl); (case hg => rfl); (case hr => (go_simp; done)); intro gb102 hg w95 hbox hb; have n0_ := Aside0.mk (blk_below (g := gb101) (o := .cells #[.int .i64 a2_0, .int .i64 a2_1, .string a2_2] 26 (0, 0)) (by (with_reducible skip); exact BK101.out) hb); have n1_ := Aside0.mk (below_step (by repeat ((with_reducible (exact HB.out)))) hb); have n2_ := Aside0.mk (hbox); have n3_ := Aside0.mk ((by rw [hg]; exact (below_size (by repeat ((with_reducible (exact HB.out))))) : w.heap.size ≤ gb102)); have n4_ := Aside0.mk ((by rw [hg]; exact (below_size (by repeat ((with_reducible (exact HB.out))))) : w.heap.size ≤ gb102)); have n5_ := Aside0.mk ((by rw [hg]; exact Nat.ne_of_lt (blk_lt (g := gb101) (o := .cells #[.int .i64 a2_0, .int .i64 a2_1, .string a2_2] 26 (0, 0)) (by (with_reducible skip); exact BK101.out)) : gb101 ≠ gb102)); have n6_ := Aside0.mk ((by rw [hg]; exact Nat.ne_of_gt (blk_lt (g := gb101) (o := .cells #[.int .i64 a2_0, .int .i64 a2_1, .string a2_2] 26 (0, 0)) (by (with_reducible skip); exact BK101.out)) : gb102 ≠ gb101)); clear BK101; clear HB; have BK101 := n0_; have HB := n1_; have BK102 := n2_; have GW102 := n3_; have GE102 := n4_; have NB101_102 := n5_; have NB102_101 := n6_; clear n0_ n1_ n2_ n3_ n4_ n5_ n6_; clear hb hbox hg) | ((with_reducible refine gate_callee (f := 11) rfl ?_); refine goesL_ (some 16) rfl rfl Tryd.func11 (by kernel_rfl) rfl #[] rfl (by (try simp only [List.map_toArray, List.map_cons, List.map_nil]); done) ?_; (with_reducible refine (cleanselaw04_head.calls  true _ ?sGl A5.out).mono ?_); (case sGl => exact Gl.below HGl.out (by repeat ((with_reducible (exact HB.out))))); rintro e w96 ⟨rfl, hb⟩; refine ⟨_, rfl, ?_⟩; have n0_ := Aside0.mk (blk_below (g := gb101) (o := .cells #[.int .i64 a2_0, .int .i64 a2_1, .string a2_2] 26 (0, 0)) (by (with_reducible skip); exact BK101.out) hb); have n1_ := Aside0.mk (blk_below (g := gb102) (o := .cells #[.int .i64 a3_0, .int .i64 a3_1, .string a3_2] 26 (0, 0)) (by (with_reducible skip); exact BK102.out) hb); have n2_ := Aside0.mk (below_step (by repeat ((with_reducible (exact HB.out)))) hb); clear BK101; clear BK102; clear HB; have BK101 := n0_; have BK102 := n1_; have HB := n2_; clear n0_ n1_ n2_; (try clear hb); have hnb97 := NB101_102.out; have hnc97 := NB102_101.out; have hcz98_0 : w96.cell? ⟨gb101, 0, none⟩ = some (.int .i64 a2_0) := (blk_cell BK101.out 0).trans rfl; have hcz98_1 : w96.cell? ⟨gb101, 1, none⟩ = some (.int .i64 a2_1) := (blk_cell BK101.out 1).trans rfl; have hcz98_2 : w96.cell? ⟨gb101, 2, none⟩ = some (.string a2_2) := (blk_cell BK101.out 2).trans rfl; have hfz98_0 := blk_frozen BK101.out 0; have hfz98_1 := blk_frozen BK101.out 1; have hfz98_2 := blk_frozen BK101.out 2; have hcz99_0 : w96.cell? ⟨gb102, 0, none⟩ = some (.int .i64 a3_0) := (blk_cell BK102.out 0).trans rfl; have hcz99_1 : w96.cell? ⟨gb102, 1, none⟩ = some (.int .i64 a3_1) := (blk_cell BK102.out 1).trans rfl; have hcz99_2 : w96.cell? ⟨gb102, 2, none⟩ = some (.string a3_2) := (blk_cell BK102.out 2).trans rfl; have hfz99_0 := blk_frozen BK102.out 0; have hfz99_1 := blk_frozen BK102.out 1; have hfz99_2 := blk_frozen BK102.out 2) | ((with_reducible refine gate_dst (N := 21) rfl ?_); refine Kd.R_lit Kd.string _ 9 ?hg (N := 21) ?hd (xs := ([a2_2, a3_2] : List ByteArray)) (inner := [.string a2_2, .string a3_2]) (ok := fun _ => True) (okp := fun _ => True) ?hr ?hp (fun _ hk => hk) trivial (Below.refl _ _) (Nat.le_refl _) (by simp) ?_; (case hd => rfl); (case hg => rfl); (case hr => (go_simp; done)); (case hp => exact (Reps.one (show Kd.M Kd.string _ _ _ a2_2 [.string a2_2] from rfl) (Reps.one (show Kd.M Kd.string _ _ _ a3_2 [.string a3_2] from rfl) (Reps.none _ _)))); intro v105 w100 ho101 hb hg_ hnew_; clear hg_ hnew_; ((rw [← Ny104.out] at ho101)); have n0_ := Aside0.mk (Kd.R_lower ho101 (below_size (by repeat ((with_reducible (exact HB.out)))))); have n1_ := Aside0.mk (blk_below (g := gb101) (o := .cells #[.int .i64 a2_0, .int .i64 a2_1, .string a2_2] 26 (0, 0)) (by (with_reducible skip); exact BK101.out) hb); have n2_ := Aside0.mk (blk_below (g := gb102) (o := .cells #[.int .i64 a3_0, .int .i64 a3_1, .string a3_2] 26 (0, 0)) (by (with_reducible skip); exact BK102.out) hb); have n3_ := Aside0.mk (below_step (by repeat ((with_reducible (exact HB.out)))) hb); clear BK101; clear BK102; clear HB; have HO106 := n0_; have BK101 := n1_; have BK102 := n2_; have HB := n3_; clear n0_ n1_ n2_ n3_; clear hb ho101; obtain ⟨Ao102, co102, eo102⟩ := Kd.R_slice HO106.out; subst eo102) | ((with_reducible refine gate_callee (f := 13) rfl ?_); refine goesL_ (some 22) rfl rfl Tryd.func13 (by kernel_rfl) rfl #[.int .i64 200, .slice Ao102 y104.length co102] rfl (by (try simp only [List.map_toArray, List.map_cons, List.map_nil]); rfl) ?_; (with_reducible refine (cleanseref04_Short.calls k 200 _ _ y104 true _ ?side1 ?side2 A6.out).mono ?_); (case side1 => repeat ((exact (Kd.R_reads' HO106.out).2.2))); (case side2 => exact (Kd.R_reads' HO106.out).2.1); rintro e w' ⟨rfl, ⟨nd, rfl⟩⟩; refine ⟨_, rfl, ?_⟩; (try (rw [drewN_self w100]; generalize hq_ : World.drewN w100 _ = w100; have n0_ : Aside0 (Kd.R Kd.string 9 w100 w.heap.size (fun _ => True) (.slice Ao102 y104.length co102) y104) := ⟨by rw [← hq_]; exact (by (with_reducible repeat ((apply Kd.R_drewN))); exact HO106.out)⟩; have n1_ : Aside0 (w100.heap[gb101]? = some (.cells #[.int .i64 a2_0, .int .i64 a2_1, .string a2_2] 26 (0, 0))) := ⟨by rw [← hq_]; exact (by (with_reducible repeat ((refine blk_drewN ?_ _))); exact BK101.out)⟩; have n2_ : Aside0 (w100.heap[gb102]? = some (.cells #[.int .i64 a3_0, .int .i64 a3_1, .string a3_2] 26 (0, 0))) := ⟨by rw [← hq_]; exact (by (with_reducible repeat ((refine blk_drewN ?_ _))); exact BK102.out)⟩; have n3_ : Aside0 (Below w.heap.size w w100) := ⟨by rw [← hq_]; exact (by repeat ((with_reducible first | exact HB.out | apply pw_below_drewN)))⟩; clear HO106 BK101 BK102 HB hq_; have HO106 := n0_; have BK101 := n1_; have BK102 := n2_; have HB := n3_; clear n0_ n1_ n2_ n3_)); have hcz103_0 : w100.cell? ⟨gb101, 0, none⟩ = some (.int .i64 a2_0) := (blk_cell BK101.out 0).trans rfl; have hcz103_1 : w100.cell? ⟨gb101, 1, none⟩ = some (.int .i64 a2_1) := (blk_cell BK101.out 1).trans rfl; have hcz103_2 : w100.cell? ⟨gb101, 2, none⟩ = some (.string a2_2) := (blk_cell BK101.out 2).trans rfl; have hfz103_0 := blk_frozen BK101.out 0; have hfz103_1 := blk_frozen BK101.out 1; have hfz103_2 := blk_frozen BK101.out 2; have hcz104_0 : w100.cell? ⟨gb102, 0, none⟩ = some (.int .i64 a3_0) := (blk_cell BK102.out 0).trans rfl; have hcz104_1 : w100.cell? ⟨gb102, 1, none⟩ = some (.int .i64 a3_1) := (blk_cell BK102.out 1).trans rfl; have hcz104_2 : w100.cell? ⟨gb102, 2, none⟩ = some (.string a3_2) := (blk_cell BK102.out 2).trans rfl; have hfz104_0 := blk_frozen BK102.out 0; have hfz104_1 := blk_frozen BK102.out 1; have hfz104_2 := blk_frozen BK102.out 2) | ((with_reducible refine gate_callee (f := 20) rfl ?_); refine goesL_ (some 30) rfl rfl Tryd.func20 (by kernel_rfl) rfl #[.int .i64 a0, .int .i64 a1, .agg #[.int .i64 a2_0, .int .i64 a2_1, .string a2_2], .agg #[.int .i64 a3_0, .int .i64 a3_1, .string a3_2]] rfl (by (try simp only [List.map_toArray, List.map_cons, List.map_nil]); rfl) ?_; (with_reducible refine (measure_Of.calls k a0 a1 a2_0 a2_1 a2_2 a3_0 a3_1 a3_2 t108 t109 t110 _ ?sGl A8.out).mono ?_); (case sGl => exact Gl.below HGl.out (by repeat ((with_reducible (exact HB.out))))); rintro e w105 ⟨rfl, hb⟩; refine ⟨_, rfl, ?_⟩; have n0_ := Aside0.mk (Kd.R_below (by (with_reducible skip); exact HO106.out) hb); have n1_ := Aside0.mk (blk_below (g := gb101) (o := .cells #[.int .i64 a2_0, .int .i64 a2_1, .string a2_2] 26 (0, 0)) (by (with_reducible skip); exact BK101.out) hb); have n2_ := Aside0.mk (blk_below (g := gb102) (o := .cells #[.int .i64 a3_0, .int .i64 a3_1, .string a3_2] 26 (0, 0)) (by (with_reducible skip); exact BK102.out) hb); have n3_ := Aside0.mk (below_step (by repeat ((with_reducible (exact HB.out)))) hb); clear HO106; clear BK101; clear BK102; clear HB; have HO106 := n0_; have BK101 := n1_; have BK102 := n2_; have HB := n3_; clear n0_ n1_ n2_ n3_; (try clear hb)) | ((with_reducible refine gate_dst (N := 10) rfl ?_); refine box_event ?hg (N := 10) ?hd (cs := #[.int .i64 0, .int .i64 0]) (t := 32) ?hr ?_; (case hd => rfl); (case hg => rfl); (case hr => (go_simp; done)); intro gb111 hg w106 hbox hb; have n0_ := Aside0.mk (Kd.R_below (by (with_reducible skip); exact HO106.out) hb); have n1_ := Aside0.mk (blk_below (g := gb101) (o := .cells #[.int .i64 a2_0, .int .i64 a2_1, .string a2_2] 26 (0, 0)) (by (with_reducible skip); exact BK101.out) hb); have n2_ := Aside0.mk (blk_below (g := gb102) (o := .cells #[.int .i64 a3_0, .int .i64 a3_1, .string a3_2] 26 (0, 0)) (by (with_reducible skip); exact BK102.out) hb); have n3_ := Aside0.mk (below_step (by repeat ((with_reducible (exact HB.out)))) hb); have n4_ := Aside0.mk (hbox); have n5_ := Aside0.mk ((by rw [hg]; exact (below_size (by repeat ((with_reducible (exact HB.out))))) : w.heap.size ≤ gb111)); have n6_ := Aside0.mk ((by rw [hg]; exact (below_size (by repeat ((with_reducible (exact HB.out))))) : w.heap.size ≤ gb111)); have n7_ := Aside0.mk ((by rw [hg]; exact Nat.ne_of_lt (blk_lt (g := gb101) (o := .cells #[.int .i64 a2_0, .int .i64 a2_1, .string a2_2] 26 (0, 0)) (by (with_reducible skip); exact BK101.out)) : gb101 ≠ gb111)); have n8_ := Aside0.mk ((by rw [hg]; exact Nat.ne_of_gt (blk_lt (g := gb101) (o := .cells #[.int .i64 a2_0, .int .i64 a2_1, .string a2_2] 26 (0, 0)) (by (with_reducible skip); exact BK101.out)) : gb111 ≠ gb101)); have n9_ := Aside0.mk ((by rw [hg]; exact Nat.ne_of_lt (blk_lt (g := gb102) (o := .cells #[.int .i64 a3_0, .int .i64 a3_1, .string a3_2] 26 (0, 0)) (by (with_reducible skip); exact BK102.out)) : gb102 ≠ gb111)); have n10_ := Aside0.mk ((by rw [hg]; exact Nat.ne_of_gt (blk_lt (g := gb102) (o := .cells #[.int .i64 a3_0, .int .i64 a3_1, .string a3_2] 26 (0, 0)) (by (with_reducible skip); exact BK102.out)) : gb111 ≠ gb102)); clear HO106; clear BK101; clear BK102; clear HB; have HO106 := n0_; have BK101 := n1_; have BK102 := n2_; have HB := n3_; have BK111 := n4_; have GW111 := n5_; have GE111 := n6_; have NB101_111 := n7_; have NB111_101 := n8_; have NB102_111 := n9_; have NB111_102 := n10_; clear n0_ n1_ n2_ n3_ n4_ n5_ n6_ n7_ n8_ n9_ n10_; clear hb hbox hg; have hnb107 := NB111_101.out; have hnc107 := NB101_111.out; have hnb108 := NB111_102.out; have hnc108 := NB102_111.out; have hcz109_0 : w106.cell? ⟨gb111, 0, none⟩ = some (.int .i64 0) := (blk_cell BK111.out 0).trans rfl; have hcz109_1 : w106.cell? ⟨gb111, 1, none⟩ = some (.int .i64 0) := (blk_cell BK111.out 1).trans rfl; have hfz109_0 := blk_frozen BK111.out 0; have hfz109_1 := blk_frozen BK111.out 1; have hcz110_0 : w106.cell? ⟨gb102, 0, none⟩ = some (.int .i64 a3_0) := (blk_cell BK102.out 0).trans rfl; have hcz110_1 : w106.cell? ⟨gb102, 1, none⟩ = some (.int .i64 a3_1) := (blk_cell BK102.out 1).trans rfl; have hcz110_2 : w106.cell? ⟨gb102, 2, none⟩ = some (.string a3_2) := (blk_cell BK102.out 2).trans rfl; have hfz110_0 := blk_frozen BK102.out 0; have hfz110_1 := blk_frozen BK102.out 1; have hfz110_2 := blk_frozen BK102.out 2; have hcz111_0 : w106.cell? ⟨gb101, 0, none⟩ = some (.int .i64 a2_0) := (blk_cell BK101.out 0).trans rfl; have hcz111_1 : w106.cell? ⟨gb101, 1, none⟩ = some (.int .i64 a2_1) := (blk_cell BK101.out 1).trans rfl; have hcz111_2 : w106.cell? ⟨gb101, 2, none⟩ = some (.string a2_2) := (blk_cell BK101.out 2).trans rfl; have hfz111_0 := blk_frozen BK101.out 0; have hfz111_1 := blk_frozen BK101.out 1; have hfz111_2 := blk_frozen BK101.out 2) | ((with_reducible refine gate_callee (f := 20) rfl ?_); refine goesL_ (some 38) rfl rfl Tryd.func20 (by kernel_rfl) rfl #[.int .i64 a0, .int .i64 a1, .agg #[.int .i64 a3_0, .int .i64 a3_1, .string a3_2], .agg #[.int .i64 a2_0, .int .i64 a2_1, .string a2_2]] rfl (by (try simp only [List.map_toArray, List.map_cons, List.map_nil]); rfl) ?_; (with_reducible refine (measure_Of.calls k a0 a1 a3_0 a3_1 a3_2 a2_0 a2_1 a2_2 t112 t113 t114 _ ?sGl A9.out).mono ?_); (case sGl => exact Gl.below HGl.out (by repeat ((with_reducible first | exact HB.out | refine below_set ?_ (Aside0.out (by assumption)))))); rintro e w112 ⟨rfl, hb⟩; refine ⟨_, rfl, ?_⟩; have n0_ := Aside0.mk (Kd.R_below (by (with_reducible skip); exact (Kd.R_mono (Kd.R_far (p := ⟨gb111, 1, none⟩) (Kd.R_far (p := ⟨gb111, 0, none⟩) (Kd.R_types HO106.out BK111.out (by decide)) (fun _ hk => hk.2) (.int .i64 t108)) (fun _ hk => hk.2) (.int .i64 t109)) (fun _ h_ => h_.1))) hb); have n1_ := Aside0.mk (blk_below (g := gb101) (o := .cells #[.int .i64 a2_0, .int .i64 a2_1, .string a2_2] 26 (0, 0)) (by (with_reducible skip); refine blk_far ?_ NB101_111.out _; (with_reducible skip); refine blk_far ?_ NB101_111.out _; (with_reducible skip); exact BK101.out) hb); have n2_ := Aside0.mk (blk_below (g := gb102) (o := .cells #[.int .i64 a3_0, .int .i64 a3_1, .string a3_2] 26 (0, 0)) (by (with_reducible skip); refine blk_far ?_ NB102_111.out _; (with_reducible skip); refine blk_far ?_ NB102_111.out _; (with_reducible skip); exact BK102.out) hb); have n3_ := Aside0.mk (blk_below (g := gb111) (o := .cells #[.int .i64 t108, .int .i64 t109] 32 (0, 0)) (by (with_reducible skip); refine blk_put (cs := #[.int .i64 t108, .int .i64 0]) ?_ 1 _ rfl; (with_reducible skip); refine blk_put (cs := #[.int .i64 0, .int .i64 0]) ?_ 0 _ rfl; (with_reducible skip); exact BK111.out) hb); have n4_ := Aside0.mk (below_step (by repeat ((with_reducible first | exact HB.out | refine below_set ?_ GE111.out))) hb); clear HO106; clear BK101; clear BK102; clear BK111; clear HB; have HO106 := n0_; have BK101 := n1_; have BK102 := n2_; have BK111 := n3_; have HB := n4_; clear n0_ n1_ n2_ n3_ n4_; (try clear hb)) | ((with_reducible refine gate_dst (N := 12) rfl ?_); refine box_event ?hg (N := 12) ?hd (cs := #[.int .i64 0, .int .i64 0]) (t := 32) ?hr ?_; (case hd => rfl); (case hg => rfl); (case hr => (go_simp; done)); intro gb115 hg w113 hbox hb; have n0_ := Aside0.mk (Kd.R_below (by (with_reducible skip); exact HO106.out) hb); have n1_ := Aside0.mk (blk_below (g := gb101) (o := .cells #[.int .i64 a2_0, .int .i64 a2_1, .string a2_2] 26 (0, 0)) (by (with_reducible skip); exact BK101.out) hb); have n2_ := Aside0.mk (blk_below (g := gb102) (o := .cells #[.int .i64 a3_0, .int .i64 a3_1, .string a3_2] 26 (0, 0)) (by (with_reducible skip); exact BK102.out) hb); have n3_ := Aside0.mk (blk_below (g := gb111) (o := .cells #[.int .i64 t108, .int .i64 t109] 32 (0, 0)) (by (with_reducible skip); exact BK111.out) hb); have n4_ := Aside0.mk (below_step (by repeat ((with_reducible (exact HB.out)))) hb); have n5_ := Aside0.mk (hbox); have n6_ := Aside0.mk ((by rw [hg]; exact (below_size (by repeat ((with_reducible (exact HB.out))))) : w.heap.size ≤ gb115)); have n7_ := Aside0.mk ((by rw [hg]; exact (below_size (by repeat ((with_reducible (exact HB.out))))) : w.heap.size ≤ gb115)); have n8_ := Aside0.mk ((by rw [hg]; exact Nat.ne_of_lt (blk_lt (g := gb101) (o := .cells #[.int .i64 a2_0, .int .i64 a2_1, .string a2_2] 26 (0, 0)) (by (with_reducible skip); exact BK101.out)) : gb101 ≠ gb115)); have n9_ := Aside0.mk ((by rw [hg]; exact Nat.ne_of_gt (blk_lt (g := gb101) (o := .cells #[.int .i64 a2_0, .int .i64 a2_1, .string a2_2] 26 (0, 0)) (by (with_reducible skip); exact BK101.out)) : gb115 ≠ gb101)); have n10_ := Aside0.mk ((by rw [hg]; exact Nat.ne_of_lt (blk_lt (g := gb102) (o := .cells #[.int .i64 a3_0, .int .i64 a3_1, .string a3_2] 26 (0, 0)) (by (with_reducible skip); exact BK102.out)) : gb102 ≠ gb115)); have n11_ := Aside0.mk ((by rw [hg]; exact Nat.ne_of_gt (blk_lt (g := gb102) (o := .cells #[.int .i64 a3_0, .int .i64 a3_1, .string a3_2] 26 (0, 0)) (by (with_reducible skip); exact BK102.out)) : gb115 ≠ gb102)); have n12_ := Aside0.mk ((by rw [hg]; exact Nat.ne_of_lt (blk_lt (g := gb111) (o := .cells #[.int .i64 t108, .int .i64 t109] 32 (0, 0)) (by (with_reducible skip); exact BK111.out)) : gb111 ≠ gb115)); have n13_ := Aside0.mk ((by rw [hg]; exact Nat.ne_of_gt (blk_lt (g := gb111) (o := .cells #[.int .i64 t108, .int .i64 t109] 32 (0, 0)) (by (with_reducible skip); exact BK111.out)) : gb115 ≠ gb111)); clear HO106; clear BK101; clear BK102; clear BK111; clear HB; have HO106 := n0_; have BK101 := n1_; have BK102 := n2_; have BK111 := n3_; have HB := n4_; have BK115 := n5_; have GW115 := n6_; have GE115 := n7_; have NB101_115 := n8_; have NB115_101 := n9_; have NB102_115 := n10_; have NB115_102 := n11_; have NB111_115 := n12_; have NB115_111 := n13_; clear n0_ n1_ n2_ n3_ n4_ n5_ n6_ n7_ n8_ n9_ n10_ n11_ n12_ n13_; clear hb hbox hg; have hnb114 := NB115_101.out; have hnc114 := NB101_115.out; have hnb115 := NB115_102.out; have hnc115 := NB102_115.out; have hnb116 := NB115_111.out; have hnc116 := NB111_115.out; have hcz117_0 : w113.cell? ⟨gb115, 0, none⟩ = some (.int .i64 0) := (blk_cell BK115.out 0).trans rfl; have hcz117_1 : w113.cell? ⟨gb115, 1, none⟩ = some (.int .i64 0) := (blk_cell BK115.out 1).trans rfl; have hfz117_0 := blk_frozen BK115.out 0; have hfz117_1 := blk_frozen BK115.out 1; have hcz118_0 : w113.cell? ⟨gb101, 0, none⟩ = some (.int .i64 a2_0) := (blk_cell BK101.out 0).trans rfl; have hcz118_1 : w113.cell? ⟨gb101, 1, none⟩ = some (.int .i64 a2_1) := (blk_cell BK101.out 1).trans rfl; have hcz118_2 : w113.cell? ⟨gb101, 2, none⟩ = some (.string a2_2) := (blk_cell BK101.out 2).trans rfl; have hfz118_0 := blk_frozen BK101.out 0; have hfz118_1 := blk_frozen BK101.out 1; have hfz118_2 := blk_frozen BK101.out 2) | ((with_reducible refine gate_callee (f := 20) rfl ?_); refine goesL_ (some 46) rfl rfl Tryd.func20 (by kernel_rfl) rfl #[.int .i64 a0, .int .i64 a1, .agg #[.int .i64 a2_0, .int .i64 a2_1, .string a2_2], .agg #[.int .i64 a2_0, .int .i64 a2_1, .string a2_2]] rfl (by (try simp only [List.map_toArray, List.map_cons, List.map_nil]); rfl) ?_; (with_reducible refine (measure_Of.calls k a0 a1 a2_0 a2_1 a2_2 a2_0 a2_1 a2_2 t116 t117 t118 _ ?sGl A10.out).mono ?_); (case sGl => exact Gl.below HGl.out (by repeat ((with_reducible first | exact HB.out | refine below_set ?_ (Aside0.out (by assumption)))))); rintro e w119 ⟨rfl, hb⟩; refine ⟨_, rfl, ?_⟩; have n0_ := Aside0.mk (Kd.R_below (by (with_reducible skip); exact (Kd.R_mono (Kd.R_far (p := ⟨gb115, 1, none⟩) (Kd.R_far (p := ⟨gb115, 0, none⟩) (Kd.R_types HO106.out BK115.out (by decide)) (fun _ hk => hk.2) (.int .i64 t112)) (fun _ hk => hk.2) (.int .i64 t113)) (fun _ h_ => h_.1))) hb); have n1_ := Aside0.mk (blk_below (g := gb101) (o := .cells #[.int .i64 a2_0, .int .i64 a2_1, .string a2_2] 26 (0, 0)) (by (with_reducible skip); refine blk_far ?_ NB101_115.out _; (with_reducible skip); refine blk_far ?_ NB101_115.out _; (with_reducible skip); exact BK101.out) hb); have n2_ := Aside0.mk (blk_below (g := gb102) (o := .cells #[.int .i64 a3_0, .int .i64 a3_1, .string a3_2] 26 (0, 0)) (by (with_reducible skip); refine blk_far ?_ NB102_115.out _; (with_reducible skip); refine blk_far ?_ NB102_115.out _; (with_reducible skip); exact BK102.out) hb); have n3_ := Aside0.mk (blk_below (g := gb111) (o := .cells #[.int .i64 t108, .int .i64 t109] 32 (0, 0)) (by (with_reducible skip); refine blk_far ?_ NB111_115.out _; (with_reducible skip); refine blk_far ?_ NB111_115.out _; (with_reducible skip); exact BK111.out) hb); have n4_ := Aside0.mk (blk_below (g := gb115) (o := .cells #[.int .i64 t112, .int .i64 t113] 32 (0, 0)) (by (with_reducible skip); refine blk_put (cs := #[.int .i64 t112, .int .i64 0]) ?_ 1 _ rfl; (with_reducible skip); refine blk_put (cs := #[.int .i64 0, .int .i64 0]) ?_ 0 _ rfl; (with_reducible skip); exact BK115.out) hb); have n5_ := Aside0.mk (below_step (by repeat ((with_reducible first | exact HB.out | refine below_set ?_ GE115.out))) hb); clear HO106; clear BK101; clear BK102; clear BK111; clear BK115; clear HB; have HO106 := n0_; have BK101 := n1_; have BK102 := n2_; have BK111 := n3_; have BK115 := n4_; have HB := n5_; clear n0_ n1_ n2_ n3_ n4_ n5_; (try clear hb)) | ((with_reducible refine gate_dst (N := 14) rfl ?_); refine box_event ?hg (N := 14) ?hd (cs := #[.int .i64 0, .int .i64 0]) (t := 32) ?hr ?_; (case hd => rfl); (case hg => rfl); (case hr => (go_simp; done)); intro gb119 hg w120 hbox hb; have n0_ := Aside0.mk (Kd.R_below (by (with_reducible skip); exact HO106.out) hb); have n1_ := Aside0.mk (blk_below (g := gb101) (o := .cells #[.int .i64 a2_0, .int .i64 a2_1, .string a2_2] 26 (0, 0)) (by (with_reducible skip); exact BK101.out) hb); have n2_ := Aside0.mk (blk_below (g := gb102) (o := .cells #[.int .i64 a3_0, .int .i64 a3_1, .string a3_2] 26 (0, 0)) (by (with_reducible skip); exact BK102.out) hb); have n3_ := Aside0.mk (blk_below (g := gb111) (o := .cells #[.int .i64 t108, .int .i64 t109] 32 (0, 0)) (by (with_reducible skip); exact BK111.out) hb); have n4_ := Aside0.mk (blk_below (g := gb115) (o := .cells #[.int .i64 t112, .int .i64 t113] 32 (0, 0)) (by (with_reducible skip); exact BK115.out) hb); have n5_ := Aside0.mk (below_step (by repeat ((with_reducible (exact HB.out)))) hb); have n6_ := Aside0.mk (hbox); have n7_ := Aside0.mk ((by rw [hg]; exact (below_size (by repeat ((with_reducible (exact HB.out))))) : w.heap.size ≤ gb119)); have n8_ := Aside0.mk ((by rw [hg]; exact (below_size (by repeat ((with_reducible (exact HB.out))))) : w.heap.size ≤ gb119)); have n9_ := Aside0.mk ((by rw [hg]; exact Nat.ne_of_lt (blk_lt (g := gb101) (o := .cells #[.int .i64 a2_0, .int .i64 a2_1, .string a2_2] 26 (0, 0)) (by (with_reducible skip); exact BK101.out)) : gb101 ≠ gb119)); have n10_ := Aside0.mk ((by rw [hg]; exact Nat.ne_of_gt (blk_lt (g := gb101) (o := .cells #[.int .i64 a2_0, .int .i64 a2_1, .string a2_2] 26 (0, 0)) (by (with_reducible skip); exact BK101.out)) : gb119 ≠ gb101)); have n11_ := Aside0.mk ((by rw [hg]; exact Nat.ne_of_lt (blk_lt (g := gb102) (o := .cells #[.int .i64 a3_0, .int .i64 a3_1, .string a3_2] 26 (0, 0)) (by (with_reducible skip); exact BK102.out)) : gb102 ≠ gb119)); have n12_ := Aside0.mk ((by rw [hg]; exact Nat.ne_of_gt (blk_lt (g := gb102) (o := .cells #[.int .i64 a3_0, .int .i64 a3_1, .string a3_2] 26 (0, 0)) (by (with_reducible skip); exact BK102.out)) : gb119 ≠ gb102)); have n13_ := Aside0.mk ((by rw [hg]; exact Nat.ne_of_lt (blk_lt (g := gb111) (o := .cells #[.int .i64 t108, .int .i64 t109] 32 (0, 0)) (by (with_reducible skip); exact BK111.out)) : gb111 ≠ gb119)); have n14_ := Aside0.mk ((by rw [hg]; exact Nat.ne_of_gt (blk_lt (g := gb111) (o := .cells #[.int .i64 t108, .int .i64 t109] 32 (0, 0)) (by (with_reducible skip); exact BK111.out)) : gb119 ≠ gb111)); have n15_ := Aside0.mk ((by rw [hg]; exact Nat.ne_of_lt (blk_lt (g := gb115) (o := .cells #[.int .i64 t112, .int .i64 t113] 32 (0, 0)) (by (with_reducible skip); exact BK115.out)) : gb115 ≠ gb119)); have n16_ := Aside0.mk ((by rw [hg]; exact Nat.ne_of_gt (blk_lt (g := gb115) (o := .cells #[.int .i64 t112, .int .i64 t113] 32 (0, 0)) (by (with_reducible skip); exact BK115.out)) : gb119 ≠ gb115)); clear HO106; clear BK101; clear BK102; clear BK111; clear BK115; clear HB; have HO106 := n0_; have BK101 := n1_; have BK102 := n2_; have BK111 := n3_; have BK115 := n4_; have HB := n5_; have BK119 := n6_; have GW119 := n7_; have GE119 := n8_; have NB101_119 := n9_; have NB119_101 := n10_; have NB102_119 := n11_; have NB119_102 := n12_; have NB111_119 := n13_; have NB119_111 := n14_; have NB115_119 := n15_; have NB119_115 := n16_; clear n0_ n1_ n2_ n3_ n4_ n5_ n6_ n7_ n8_ n9_ n10_ n11_ n12_ n13_ n14_ n15_ n16_; clear hb hbox hg; have hnb121 := NB119_101.out; have hnc121 := NB101_119.out; have hnb122 := NB119_102.out; have hnc122 := NB102_119.out; have hnb123 := NB119_111.out; have hnc123 := NB111_119.out; have hnb124 := NB119_115.out; have hnc124 := NB115_119.out; have hcz125_0 : w120.cell? ⟨gb119, 0, none⟩ = some (.int .i64 0) := (blk_cell BK119.out 0).trans rfl; have hcz125_1 : w120.cell? ⟨gb119, 1, none⟩ = some (.int .i64 0) := (blk_cell BK119.out 1).trans rfl; have hfz125_0 := blk_frozen BK119.out 0; have hfz125_1 := blk_frozen BK119.out 1; have hcz126_0 : w120.cell? ⟨gb111, 0, none⟩ = some (.int .i64 t108) := (blk_cell BK111.out 0).trans rfl; have hcz126_1 : w120.cell? ⟨gb111, 1, none⟩ = some (.int .i64 t109) := (blk_cell BK111.out 1).trans rfl; have hfz126_0 := blk_frozen BK111.out 0; have hfz126_1 := blk_frozen BK111.out 1; have hcz127_0 : w120.cell? ⟨gb115, 0, none⟩ = some (.int .i64 t112) := (blk_cell BK115.out 0).trans rfl; have hcz127_1 : w120.cell? ⟨gb115, 1, none⟩ = some (.int .i64 t113) := (blk_cell BK115.out 1).trans rfl; have hfz127_0 := blk_frozen BK115.out 0; have hfz127_1 := blk_frozen BK115.out 1) | (go_at_call 26; (with_reducible refine (cleanselaw04_unit.calls k t108 t109 true _ A14.out).mono ?_); rintro e w128 ⟨rfl, hb⟩; have n0_ := Aside0.mk (Kd.R_below (by (with_reducible skip); exact (Kd.R_mono (Kd.R_far (p := ⟨gb119, 1, none⟩) (Kd.R_far (p := ⟨gb119, 0, none⟩) (Kd.R_types HO106.out BK119.out (by decide)) (fun _ hk => hk.2) (.int .i64 t116)) (fun _ hk => hk.2) (.int .i64 t117)) (fun _ h_ => h_.1))) hb); have n1_ := Aside0.mk (blk_below (g := gb101) (o := .cells #[.int .i64 a2_0, .int .i64 a2_1, .string a2_2] 26 (0, 0)) (by (with_reducible skip); refine blk_far ?_ NB101_119.out _; (with_reducible skip); refine blk_far ?_ NB101_119.out _; (with_reducible skip); exact BK101.out) hb); have n2_ := Aside0.mk (blk_below (g := gb102) (o := .cells #[.int .i64 a3_0, .int .i64 a3_1, .string a3_2] 26 (0, 0)) (by (with_reducible skip); refine blk_far ?_ NB102_119.out _; (with_reducible skip); refine blk_far ?_ NB102_119.out _; (with_reducible skip); exact BK102.out) hb); have n3_ := Aside0.mk (blk_below (g := gb111) (o := .cells #[.int .i64 t108, .int .i64 t109] 32 (0, 0)) (by (with_reducible skip); refine blk_far ?_ NB111_119.out _; (with_reducible skip); refine blk_far ?_ NB111_119.out _; (with_reducible skip); exact BK111.out) hb); have n4_ := Aside0.mk (blk_below (g := gb115) (o := .cells #[.int .i64 t112, .int .i64 t113] 32 (0, 0)) (by (with_reducible skip); refine blk_far ?_ NB115_119.out _; (with_reducible skip); refine blk_far ?_ NB115_119.out _; (with_reducible skip); exact BK115.out) hb); have n5_ := Aside0.mk (blk_below (g := gb119) (o := .cells #[.int .i64 t116, .int .i64 t117] 32 (0, 0)) (by (with_reducible skip); refine blk_put (cs := #[.int .i64 t116, .int .i64 0]) ?_ 1 _ rfl; (with_reducible skip); refine blk_put (cs := #[.int .i64 0, .int .i64 0]) ?_ 0 _ rfl; (with_reducible skip); exact BK119.out) hb); have n6_ := Aside0.mk (below_step (by repeat ((with_reducible first | exact HB.out | refine below_set ?_ GE119.out))) hb); clear HO106; clear BK101; clear BK102; clear BK111; clear BK115; clear BK119; clear HB; have HO106 := n0_; have BK101 := n1_; have BK102 := n2_; have BK111 := n3_; have BK115 := n4_; have BK119 := n5_; have HB := n6_; clear n0_ n1_ n2_ n3_ n4_ n5_ n6_; (try clear hb)))
        have n0_ := Aside0.mk (Kd.R_drew HO106.out)
        have n1_ := Aside0.mk (blk_drew BK101.out)
        have n2_ := Aside0.mk (blk_drew BK102.out)
        have n3_ := Aside0.mk (blk_drew BK111.out)
        have n4_ := Aside0.mk (blk_drew BK115.out)
        have n5_ := Aside0.mk (blk_drew BK119.out)
        have n6_ := Aside0.mk (below_drew1 HB.out)
        clear HO106
        clear BK101
        clear BK102
        clear BK111
        clear BK115
        clear BK119
        clear HB
        have HO106 := n0_
        have BK101 := n1_
        have BK102 := n2_
        have BK111 := n3_
        have BK115 := n4_
        have BK119 := n5_
        have HB := n6_
        clear n0_ n1_ n2_ n3_ n4_ n5_ n6_
        refine start_ (n := 16) (S := fun w' => True) (ds := []) #[false, false, false, false, false, false, false, false, false, false, false, false, false, false, false, false] (by kernel_rfl) rfl rfl trivial (fun hHeld => ?_); refine with_tabW cleanselaw04_MeasureValues.tab9 cleanselaw04_MeasureValues.bits9 (fun HT_ HW_ => ?_)
        generalize w128.drew = w129 at HO106 BK101 BK102 BK111 BK115 BK119 HB hHeld ⊢
        refine pure_ (i := 0) (N := some 66) (v := ?_) (a' := ?_) #[true, false, false, false, false, false, false, false, false, false, false, false, false, false, false, false] rfl rfl (any_of HT_.out (by kernel_rfl)) (fun _ _ _ h => h) (Or.inl ⟨by rfl, ?_⟩) ?_ ?_
        rotate_left
        ·intro w'
         go_simp
         with_reducible rfl
        rotate_left
        ·simp only [Act.put, List.setIfInBounds_toArray, List.set_cons_zero, List.set_cons_succ, i64_w, i32_w]
         rfl
        refine pure_ (i := 1) (N := some 67) (v := ?_) (a' := ?_) #[true, true, false, false, false, false, false, false, false, false, false, false, false, false, false, false] rfl rfl (any_of HT_.out (by kernel_rfl)) (fun _ _ _ h => h) (Or.inl ⟨by rfl, ?_⟩) ?_ ?_
        rotate_left
        ·intro w'
         go_simp
         with_reducible rfl
        rotate_left
        ·simp only [Act.put, List.setIfInBounds_toArray, List.set_cons_zero, List.set_cons_succ, i64_w, i32_w]
         rfl
        refine pure_ (i := 2) (N := some 68) (v := ?_) (a' := ?_) #[true, true, true, false, false, false, false, false, false, false, false, false, false, false, false, false] rfl rfl (any_of HT_.out (by kernel_rfl)) (fun _ _ _ h => h) (Or.inl ⟨by rfl, ?_⟩) ?_ ?_
        rotate_left
        ·intro w'
         go_simp
         with_reducible rfl
        rotate_left
        ·simp only [Act.put, List.setIfInBounds_toArray, List.set_cons_zero, List.set_cons_succ, i64_w, i32_w]
         rfl
        refine pure_ (i := 3) (N := some 69) (v := ?_) (a' := ?_) #[true, true, true, true, false, false, false, false, false, false, false, false, false, false, false, false] rfl rfl (any_of HT_.out (by kernel_rfl)) (fun _ _ _ h => h) (Or.inl ⟨by rfl, ?_⟩) ?_ ?_
        rotate_left
        ·intro w'
         go_simp
         with_reducible rfl
        rotate_left
        ·simp only [Act.put, List.setIfInBounds_toArray, List.set_cons_zero, List.set_cons_succ, i64_w, i32_w]
         rfl
        refine pure_ (i := 4) (N := some 70) (v := ?_) (a' := ?_) #[true, true, true, true, true, false, false, false, false, false, false, false, false, false, false, false] rfl rfl (any_of HT_.out (by kernel_rfl)) (fun _ _ _ h => h) (Or.inl ⟨by rfl, ?_⟩) ?_ ?_
        rotate_left
        ·intro w'
         go_simp
         with_reducible rfl
        rotate_left
        ·simp only [Act.put, List.setIfInBounds_toArray, List.set_cons_zero, List.set_cons_succ, i64_w, i32_w]
         rfl
        refine pure_ (i := 5) (N := some 71) (v := undef) (a' := ?_) #[true, true, true, true, true, true, false, false, false, false, false, false, false, false, false, false] rfl rfl (any_of HT_.out (by kernel_rfl)) (fun _ _ _ h => h) (Or.inr ⟨by rfl, rfl⟩) ?_ ?_
        rotate_left
        ·simp only [Act.put, List.setIfInBounds_toArray, List.set_cons_zero, List.set_cons_succ, i64_w, i32_w]
         rfl
        refine pure_ (i := 6) (N := some 72) (v := undef) (a' := ?_) #[true, true, true, true, true, true, true, false, false, false, false, false, false, false, false, false] rfl rfl (any_of HT_.out (by kernel_rfl)) (fun _ _ _ h => h) (Or.inr ⟨by rfl, rfl⟩) ?_ ?_
        rotate_left
        ·simp only [Act.put, List.setIfInBounds_toArray, List.set_cons_zero, List.set_cons_succ, i64_w, i32_w]
         rfl
        refine pure_ (i := 7) (N := some 73) (v := undef) (a' := ?_) #[true, true, true, true, true, true, true, true, false, false, false, false, false, false, false, false] rfl rfl (any_of HT_.out (by kernel_rfl)) (fun _ _ _ h => h) (Or.inr ⟨by rfl, rfl⟩) ?_ ?_
        rotate_left
        ·simp only [Act.put, List.setIfInBounds_toArray, List.set_cons_zero, List.set_cons_succ, i64_w, i32_w]
         rfl
        refine pure_ (i := 8) (N := some 74) (v := ?_) (a' := ?_) #[true, true, true, true, true, true, true, true, true, false, false, false, false, false, false, false] rfl rfl (any_of HT_.out (by kernel_rfl)) (fun _ _ _ h => h) (Or.inl ⟨by rfl, ?_⟩) ?_ ?_
        rotate_left
        ·intro w'
         go_simp
         with_reducible rfl
        rotate_left
        ·simp only [Act.put, List.setIfInBounds_toArray, List.set_cons_zero, List.set_cons_succ, i64_w, i32_w]
         rfl
        refine pure_ (i := 9) (N := some 75) (v := ?_) (a' := ?_) #[true, true, true, true, true, true, true, true, true, true, false, false, false, false, false, false] rfl rfl (any_of HT_.out (by kernel_rfl)) (fun _ _ _ h => h) (Or.inl ⟨by rfl, ?_⟩) ?_ ?_
        rotate_left
        ·intro w'
         go_simp
         with_reducible rfl
        rotate_left
        ·simp only [Act.put, List.setIfInBounds_toArray, List.set_cons_zero, List.set_cons_succ, i64_w, i32_w]
         rfl
        refine pure_ (i := 10) (N := some 76) (v := undef) (a' := ?_) #[true, true, true, true, true, true, true, true, true, true, true, false, false, false, false, false] rfl rfl (any_of HT_.out (by kernel_rfl)) (fun _ _ _ h => h) (Or.inr ⟨by rfl, rfl⟩) ?_ ?_
        rotate_left
        ·simp only [Act.put, List.setIfInBounds_toArray, List.set_cons_zero, List.set_cons_succ, i64_w, i32_w]
         rfl
        refine pure_ (i := 11) (N := some 77) (v := undef) (a' := ?_) #[true, true, true, true, true, true, true, true, true, true, true, true, false, false, false, false] rfl rfl (any_of HT_.out (by kernel_rfl)) (fun _ _ _ h => h) (Or.inr ⟨by rfl, rfl⟩) ?_ ?_
        rotate_left
        ·simp only [Act.put, List.setIfInBounds_toArray, List.set_cons_zero, List.set_cons_succ, i64_w, i32_w]
         rfl
        refine pure_ (i := 12) (N := some 78) (v := undef) (a' := ?_) #[true, true, true, true, true, true, true, true, true, true, true, true, true, false, false, false] rfl rfl (any_of HT_.out (by kernel_rfl)) (fun _ _ _ h => h) (Or.inr ⟨by rfl, rfl⟩) ?_ ?_
        rotate_left
        ·simp only [Act.put, List.setIfInBounds_toArray, List.set_cons_zero, List.set_cons_succ, i64_w, i32_w]
         rfl
        refine pure_ (i := 13) (N := some 79) (v := ?_) (a' := ?_) #[true, true, true, true, true, true, true, true, true, true, true, true, true, true, false, false] rfl rfl (any_of HT_.out (by kernel_rfl)) (fun _ _ _ h => h) (Or.inl ⟨by rfl, ?_⟩) ?_ ?_
        rotate_left
        ·intro w'
         go_simp
         with_reducible rfl
        rotate_left
        ·simp only [Act.put, List.setIfInBounds_toArray, List.set_cons_zero, List.set_cons_succ, i64_w, i32_w]
         rfl
        refine pure_ (i := 14) (N := some 80) (v := ?_) (a' := ?_) #[true, true, true, true, true, true, true, true, true, true, true, true, true, true, true, false] rfl rfl (any_of HT_.out (by kernel_rfl)) (fun _ _ _ h => h) (Or.inl ⟨by rfl, ?_⟩) ?_ ?_
        rotate_left
        ·intro w'
         go_simp
         with_reducible rfl
        rotate_left
        ·simp only [Act.put, List.setIfInBounds_toArray, List.set_cons_zero, List.set_cons_succ, i64_w, i32_w]
         rfl
        refine pure_ (i := 15) (N := some 8) (v := ?_) (a' := ?_) #[true, true, true, true, true, true, true, true, true, true, true, true, true, true, true, true] rfl rfl (any_of HT_.out (by kernel_rfl)) (fun _ _ _ h => h) (Or.inl ⟨by rfl, ?_⟩) ?_ ?_
        rotate_left
        ·intro w'
         go_simp
         with_reducible rfl
        rotate_left
        ·simp only [Act.put, List.setIfInBounds_toArray, List.set_cons_zero, List.set_cons_succ, i64_w, i32_w]
         rfl
        refine done_ (done_of HT_.out (by kernel_rfl)) ?_
        try go_wp2
        go_ret
        exact ⟨by rfl, by repeat ((with_reducible (exact HB.out)))⟩
      ·replace c16 := Bool.eq_false_iff.mpr c16
       subst c16
       have H1 : (some false) = some r := by rw [if_neg (show ¬ (false = true) by decide)] at H; exact H
       clear H
       have H := H1
       clear H1
       exact absurd ((Option.some.inj H).trans HT.out) (by decide)
     ·replace c15 := Bool.eq_false_iff.mpr c15
      subst c15
      have H1 : (some false) = some r := by rw [if_neg (show ¬ (false = true) by decide)] at H; exact H
      clear H
      have H := H1
      clear H1
      exact absurd ((Option.some.inj H).trans HT.out) (by decide)
    ·rw [if_neg c13] at H
     have c13b0 : (t110 == 0) = false := beq_eq_false_iff_ne.mpr c13
     have c13b1 : (t110 != 0) = true := bne_iff_ne.mpr c13
     by_cases c130 : t103 = true
     ·subst c130
      have H1 : (if t118 = 0 then ((cleanselaw04_of.f 1 1).bind fun bt123 => (if (t116 == bt123.1 && (t117 == bt123.2)) = true then (some true) else (some (a2_0 == 0)))) else (some true)) = some r := by rw [if_pos rfl] at H; exact H
      clear H
      have H := H1
      clear H1
      by_cases c131 : t118 = 0
      ·rw [if_pos c131] at H
       have c131b0 : (t118 == 0) = true := beq_iff_eq.mpr c131
       have c131b1 : (t118 != 0) = false := bne_eq_false_iff_eq.mpr c131
       clear c131
       replace H := Option.bind_eq_some_iff.mp H
       obtain ⟨⟨t123, t124⟩, A1320, H⟩ := H
       replace H : (if (t116 == t123 && (t117 == t124)) = true then (some true) else (some (a2_0 == 0))) = some r := H
       have A132 := Aside0.mk A1320
       clear A1320
       by_cases c133 : (t116 == t123 && (t117 == t124)) = true
       ·rw [if_pos c133] at H
        have c133b0 : (t116 == t123 && (t117 == t124)) = true := c133
        (try (have c133b1 : decide (t116 = t123 && (t117 == t124)) = true := by simpa using c133))
        (try (have c133b2 : (t116 == t123 && (t117 == t124)) = true := by simpa using c133))
        clear c133
        obtain rfl := Option.some.inj H
        go_enter Tryd.func8, Tryd.ntmps8
        try go_wp2_with (first | ((with_reducible refine gate_dst (N := 6) rfl ?_); refine box_event ?hg (N := 6) ?hd (cs := #[.int .i64 a2_0, .int .i64 a2_1, .string a2_2]) (t := 26) ?hr ?_; (case hd => rfl); (case hg => rfl); (case hr => (go_simp; done)); intro gb101 hg w134 hbox hb; have n0_ := Aside0.mk (below_step (by repeat ((with_reducible (exact HB.out)))) hb); have n1_ := Aside0.mk (hbox); have n2_ := Aside0.mk ((by rw [hg]; exact (below_size (by repeat ((with_reducible (exact HB.out))))) : w.heap.size ≤ gb101)); have n3_ := Aside0.mk ((by rw [hg]; exact (below_size (by repeat ((with_reducible (exact HB.out))))) : w.heap.size ≤ gb101)); clear HB; have HB := n0_; have BK101 := n1_; have GW101 := n2_; have GE101 := n3_; clear n0_ n1_ n2_ n3_; clear hb hbox hg) | ((with_reducible refine gate_dst (N := 7) rfl ?_); refine box_event ?hg (N := 7) ?hd (cs := #[.int .i64 a3_0, .int .i64 a3_1, .string a3_2]) (t := 26) ?hr ?_; (case hd => rfl); (case hg => rfl); (case hr => (go_simp; done)); intro gb102 hg w135 hbox hb; have n0_ := Aside0.mk (blk_below (g := gb101) (o := .cells #[.int .i64 a2_0, .int .i64 a2_1, .string a2_2] 26 (0, 0)) (by (with_reducible skip); exact BK101.out) hb); have n1_ := Aside0.mk (below_step (by repeat ((with_reducible (exact HB.out)))) hb); have n2_ := Aside0.mk (hbox); have n3_ := Aside0.mk ((by rw [hg]; exact (below_size (by repeat ((with_reducible (exact HB.out))))) : w.heap.size ≤ gb102)); have n4_ := Aside0.mk ((by rw [hg]; exact (below_size (by repeat ((with_reducible (exact HB.out))))) : w.heap.size ≤ gb102)); have n5_ := Aside0.mk ((by rw [hg]; exact Nat.ne_of_lt (blk_lt (g := gb101) (o := .cells #[.int .i64 a2_0, .int .i64 a2_1, .string a2_2] 26 (0, 0)) (by (with_reducible skip); exact BK101.out)) : gb101 ≠ gb102)); have n6_ := Aside0.mk ((by rw [hg]; exact Nat.ne_of_gt (blk_lt (g := gb101) (o := .cells #[.int .i64 a2_0, .int .i64 a2_1, .string a2_2] 26 (0, 0)) (by (with_reducible skip); exact BK101.out)) : gb102 ≠ gb101)); clear BK101; clear HB; have BK101 := n0_; have HB := n1_; have BK102 := n2_; have GW102 := n3_; have GE102 := n4_; have NB101_102 := n5_; have NB102_101 := n6_; clear n0_ n1_ n2_ n3_ n4_ n5_ n6_; clear hb hbox hg) | ((with_reducible refine gate_callee (f := 11) rfl ?_); refine goesL_ (some 16) rfl rfl Tryd.func11 (by kernel_rfl) rfl #[] rfl (by (try simp only [List.map_toArray, List.map_cons, List.map_nil]); done) ?_; (with_reducible refine (cleanselaw04_head.calls  true _ ?sGl A5.out).mono ?_); (case sGl => exact Gl.below HGl.out (by repeat ((with_reducible (exact HB.out))))); rintro e w136 ⟨rfl, hb⟩; refine ⟨_, rfl, ?_⟩; have n0_ := Aside0.mk (blk_below (g := gb101) (o := .cells #[.int .i64 a2_0, .int .i64 a2_1, .string a2_2] 26 (0, 0)) (by (with_reducible skip); exact BK101.out) hb); have n1_ := Aside0.mk (blk_below (g := gb102) (o := .cells #[.int .i64 a3_0, .int .i64 a3_1, .string a3_2] 26 (0, 0)) (by (with_reducible skip); exact BK102.out) hb); have n2_ := Aside0.mk (below_step (by repeat ((with_reducible (exact HB.out)))) hb); clear BK101; clear BK102; clear HB; have BK101 := n0_; have BK102 := n1_; have HB := n2_; clear n0_ n1_ n2_; (try clear hb); have hnb137 := NB101_102.out; have hnc137 := NB102_101.out; have hcz138_0 : w136.cell? ⟨gb101, 0, none⟩ = some (.int .i64 a2_0) := (blk_cell BK101.out 0).trans rfl; have hcz138_1 : w136.cell? ⟨gb101, 1, none⟩ = some (.int .i64 a2_1) := (blk_cell BK101.out 1).trans rfl; have hcz138_2 : w136.cell? ⟨gb101, 2, none⟩ = some (.string a2_2) := (blk_cell BK101.out 2).trans rfl; have hfz138_0 := blk_frozen BK101.out 0; have hfz138_1 := blk_frozen BK101.out 1; have hfz138_2 := blk_frozen BK101.out 2; have hcz139_0 : w136.cell? ⟨gb102, 0, none⟩ = some (.int .i64 a3_0) := (blk_cell BK102.out 0).trans rfl; have hcz139_1 : w136.cell? ⟨gb102, 1, none⟩ = some (.int .i64 a3_1) := (blk_cell BK102.out 1).trans rfl; have hcz139_2 : w136.cell? ⟨gb102, 2, none⟩ = some (.string a3_2) := (blk_cell BK102.out 2).trans rfl; have hfz139_0 := blk_frozen BK102.out 0; have hfz139_1 := blk_frozen BK102.out 1; have hfz139_2 := blk_frozen BK102.out 2) | ((with_reducible refine gate_dst (N := 21) rfl ?_); refine Kd.R_lit Kd.string _ 9 ?hg (N := 21) ?hd (xs := ([a2_2, a3_2] : List ByteArray)) (inner := [.string a2_2, .string a3_2]) (ok := fun _ => True) (okp := fun _ => True) ?hr ?hp (fun _ hk => hk) trivial (Below.refl _ _) (Nat.le_refl _) (by simp) ?_; (case hd => rfl); (case hg => rfl); (case hr => (go_simp; done)); (case hp => exact (Reps.one (show Kd.M Kd.string _ _ _ a2_2 [.string a2_2] from rfl) (Reps.one (show Kd.M Kd.string _ _ _ a3_2 [.string a3_2] from rfl) (Reps.none _ _)))); intro v105 w140 ho141 hb hg_ hnew_; clear hg_ hnew_; ((rw [← Ny104.out] at ho141)); have n0_ := Aside0.mk (Kd.R_lower ho141 (below_size (by repeat ((with_reducible (exact HB.out)))))); have n1_ := Aside0.mk (blk_below (g := gb101) (o := .cells #[.int .i64 a2_0, .int .i64 a2_1, .string a2_2] 26 (0, 0)) (by (with_reducible skip); exact BK101.out) hb); have n2_ := Aside0.mk (blk_below (g := gb102) (o := .cells #[.int .i64 a3_0, .int .i64 a3_1, .string a3_2] 26 (0, 0)) (by (with_reducible skip); exact BK102.out) hb); have n3_ := Aside0.mk (below_step (by repeat ((with_reducible (exact HB.out)))) hb); clear BK101; clear BK102; clear HB; have HO106 := n0_; have BK101 := n1_; have BK102 := n2_; have HB := n3_; clear n0_ n1_ n2_ n3_; clear hb ho141; obtain ⟨Ao142, co142, eo142⟩ := Kd.R_slice HO106.out; subst eo142) | ((with_reducible refine gate_callee (f := 13) rfl ?_); refine goesL_ (some 22) rfl rfl Tryd.func13 (by kernel_rfl) rfl #[.int .i64 200, .slice Ao142 y104.length co142] rfl (by (try simp only [List.map_toArray, List.map_cons, List.map_nil]); rfl) ?_; (with_reducible refine (cleanseref04_Short.calls k 200 _ _ y104 true _ ?side1 ?side2 A6.out).mono ?_); (case side1 => repeat ((exact (Kd.R_reads' HO106.out).2.2))); (case side2 => exact (Kd.R_reads' HO106.out).2.1); rintro e w' ⟨rfl, ⟨nd, rfl⟩⟩; refine ⟨_, rfl, ?_⟩; (try (rw [drewN_self w140]; generalize hq_ : World.drewN w140 _ = w140; have n0_ : Aside0 (Kd.R Kd.string 9 w140 w.heap.size (fun _ => True) (.slice Ao142 y104.length co142) y104) := ⟨by rw [← hq_]; exact (by (with_reducible repeat ((apply Kd.R_drewN))); exact HO106.out)⟩; have n1_ : Aside0 (w140.heap[gb101]? = some (.cells #[.int .i64 a2_0, .int .i64 a2_1, .string a2_2] 26 (0, 0))) := ⟨by rw [← hq_]; exact (by (with_reducible repeat ((refine blk_drewN ?_ _))); exact BK101.out)⟩; have n2_ : Aside0 (w140.heap[gb102]? = some (.cells #[.int .i64 a3_0, .int .i64 a3_1, .string a3_2] 26 (0, 0))) := ⟨by rw [← hq_]; exact (by (with_reducible repeat ((refine blk_drewN ?_ _))); exact BK102.out)⟩; have n3_ : Aside0 (Below w.heap.size w w140) := ⟨by rw [← hq_]; exact (by repeat ((with_reducible first | exact HB.out | apply pw_below_drewN)))⟩; clear HO106 BK101 BK102 HB hq_; have HO106 := n0_; have BK101 := n1_; have BK102 := n2_; have HB := n3_; clear n0_ n1_ n2_ n3_)); have hcz143_0 : w140.cell? ⟨gb101, 0, none⟩ = some (.int .i64 a2_0) := (blk_cell BK101.out 0).trans rfl; have hcz143_1 : w140.cell? ⟨gb101, 1, none⟩ = some (.int .i64 a2_1) := (blk_cell BK101.out 1).trans rfl; have hcz143_2 : w140.cell? ⟨gb101, 2, none⟩ = some (.string a2_2) := (blk_cell BK101.out 2).trans rfl; have hfz143_0 := blk_frozen BK101.out 0; have hfz143_1 := blk_frozen BK101.out 1; have hfz143_2 := blk_frozen BK101.out 2; have hcz144_0 : w140.cell? ⟨gb102, 0, none⟩ = some (.int .i64 a3_0) := (blk_cell BK102.out 0).trans rfl; have hcz144_1 : w140.cell? ⟨gb102, 1, none⟩ = some (.int .i64 a3_1) := (blk_cell BK102.out 1).trans rfl; have hcz144_2 : w140.cell? ⟨gb102, 2, none⟩ = some (.string a3_2) := (blk_cell BK102.out 2).trans rfl; have hfz144_0 := blk_frozen BK102.out 0; have hfz144_1 := blk_frozen BK102.out 1; have hfz144_2 := blk_frozen BK102.out 2) | ((with_reducible refine gate_callee (f := 20) rfl ?_); refine goesL_ (some 30) rfl rfl Tryd.func20 (by kernel_rfl) rfl #[.int .i64 a0, .int .i64 a1, .agg #[.int .i64 a2_0, .int .i64 a2_1, .string a2_2], .agg #[.int .i64 a3_0, .int .i64 a3_1, .string a3_2]] rfl (by (try simp only [List.map_toArray, List.map_cons, List.map_nil]); rfl) ?_; (with_reducible refine (measure_Of.calls k a0 a1 a2_0 a2_1 a2_2 a3_0 a3_1 a3_2 t108 t109 t110 _ ?sGl A8.out).mono ?_); (case sGl => exact Gl.below HGl.out (by repeat ((with_reducible (exact HB.out))))); rintro e w145 ⟨rfl, hb⟩; refine ⟨_, rfl, ?_⟩; have n0_ := Aside0.mk (Kd.R_below (by (with_reducible skip); exact HO106.out) hb); have n1_ := Aside0.mk (blk_below (g := gb101) (o := .cells #[.int .i64 a2_0, .int .i64 a2_1, .string a2_2] 26 (0, 0)) (by (with_reducible skip); exact BK101.out) hb); have n2_ := Aside0.mk (blk_below (g := gb102) (o := .cells #[.int .i64 a3_0, .int .i64 a3_1, .string a3_2] 26 (0, 0)) (by (with_reducible skip); exact BK102.out) hb); have n3_ := Aside0.mk (below_step (by repeat ((with_reducible (exact HB.out)))) hb); clear HO106; clear BK101; clear BK102; clear HB; have HO106 := n0_; have BK101 := n1_; have BK102 := n2_; have HB := n3_; clear n0_ n1_ n2_ n3_; (try clear hb)) | ((with_reducible refine gate_dst (N := 10) rfl ?_); refine box_event ?hg (N := 10) ?hd (cs := #[.int .i64 0, .int .i64 0]) (t := 32) ?hr ?_; (case hd => rfl); (case hg => rfl); (case hr => (go_simp; done)); intro gb111 hg w146 hbox hb; have n0_ := Aside0.mk (Kd.R_below (by (with_reducible skip); exact HO106.out) hb); have n1_ := Aside0.mk (blk_below (g := gb101) (o := .cells #[.int .i64 a2_0, .int .i64 a2_1, .string a2_2] 26 (0, 0)) (by (with_reducible skip); exact BK101.out) hb); have n2_ := Aside0.mk (blk_below (g := gb102) (o := .cells #[.int .i64 a3_0, .int .i64 a3_1, .string a3_2] 26 (0, 0)) (by (with_reducible skip); exact BK102.out) hb); have n3_ := Aside0.mk (below_step (by repeat ((with_reducible (exact HB.out)))) hb); have n4_ := Aside0.mk (hbox); have n5_ := Aside0.mk ((by rw [hg]; exact (below_size (by repeat ((with_reducible (exact HB.out))))) : w.heap.size ≤ gb111)); have n6_ := Aside0.mk ((by rw [hg]; exact (below_size (by repeat ((with_reducible (exact HB.out))))) : w.heap.size ≤ gb111)); have n7_ := Aside0.mk ((by rw [hg]; exact Nat.ne_of_lt (blk_lt (g := gb101) (o := .cells #[.int .i64 a2_0, .int .i64 a2_1, .string a2_2] 26 (0, 0)) (by (with_reducible skip); exact BK101.out)) : gb101 ≠ gb111)); have n8_ := Aside0.mk ((by rw [hg]; exact Nat.ne_of_gt (blk_lt (g := gb101) (o := .cells #[.int .i64 a2_0, .int .i64 a2_1, .string a2_2] 26 (0, 0)) (by (with_reducible skip); exact BK101.out)) : gb111 ≠ gb101)); have n9_ := Aside0.mk ((by rw [hg]; exact Nat.ne_of_lt (blk_lt (g := gb102) (o := .cells #[.int .i64 a3_0, .int .i64 a3_1, .string a3_2] 26 (0, 0)) (by (with_reducible skip); exact BK102.out)) : gb102 ≠ gb111)); have n10_ := Aside0.mk ((by rw [hg]; exact Nat.ne_of_gt (blk_lt (g := gb102) (o := .cells #[.int .i64 a3_0, .int .i64 a3_1, .string a3_2] 26 (0, 0)) (by (with_reducible skip); exact BK102.out)) : gb111 ≠ gb102)); clear HO106; clear BK101; clear BK102; clear HB; have HO106 := n0_; have BK101 := n1_; have BK102 := n2_; have HB := n3_; have BK111 := n4_; have GW111 := n5_; have GE111 := n6_; have NB101_111 := n7_; have NB111_101 := n8_; have NB102_111 := n9_; have NB111_102 := n10_; clear n0_ n1_ n2_ n3_ n4_ n5_ n6_ n7_ n8_ n9_ n10_; clear hb hbox hg; have hnb147 := NB111_101.out; have hnc147 := NB101_111.out; have hnb148 := NB111_102.out; have hnc148 := NB102_111.out; have hcz149_0 : w146.cell? ⟨gb111, 0, none⟩ = some (.int .i64 0) := (blk_cell BK111.out 0).trans rfl; have hcz149_1 : w146.cell? ⟨gb111, 1, none⟩ = some (.int .i64 0) := (blk_cell BK111.out 1).trans rfl; have hfz149_0 := blk_frozen BK111.out 0; have hfz149_1 := blk_frozen BK111.out 1; have hcz150_0 : w146.cell? ⟨gb102, 0, none⟩ = some (.int .i64 a3_0) := (blk_cell BK102.out 0).trans rfl; have hcz150_1 : w146.cell? ⟨gb102, 1, none⟩ = some (.int .i64 a3_1) := (blk_cell BK102.out 1).trans rfl; have hcz150_2 : w146.cell? ⟨gb102, 2, none⟩ = some (.string a3_2) := (blk_cell BK102.out 2).trans rfl; have hfz150_0 := blk_frozen BK102.out 0; have hfz150_1 := blk_frozen BK102.out 1; have hfz150_2 := blk_frozen BK102.out 2; have hcz151_0 : w146.cell? ⟨gb101, 0, none⟩ = some (.int .i64 a2_0) := (blk_cell BK101.out 0).trans rfl; have hcz151_1 : w146.cell? ⟨gb101, 1, none⟩ = some (.int .i64 a2_1) := (blk_cell BK101.out 1).trans rfl; have hcz151_2 : w146.cell? ⟨gb101, 2, none⟩ = some (.string a2_2) := (blk_cell BK101.out 2).trans rfl; have hfz151_0 := blk_frozen BK101.out 0; have hfz151_1 := blk_frozen BK101.out 1; have hfz151_2 := blk_frozen BK101.out 2) | ((with_reducible refine gate_callee (f := 20) rfl ?_); refine goesL_ (some 38) rfl rfl Tryd.func20 (by kernel_rfl) rfl #[.int .i64 a0, .int .i64 a1, .agg #[.int .i64 a3_0, .int .i64 a3_1, .string a3_2], .agg #[.int .i64 a2_0, .int .i64 a2_1, .string a2_2]] rfl (by (try simp only [List.map_toArray, List.map_cons, List.map_nil]); rfl) ?_; (with_reducible refine (measure_Of.calls k a0 a1 a3_0 a3_1 a3_2 a2_0 a2_1 a2_2 t112 t113 t114 _ ?sGl A9.out).mono ?_); (case sGl => exact Gl.below HGl.out (by repeat ((with_reducible first | exact HB.out | refine below_set ?_ (Aside0.out (by assumption)))))); rintro e w152 ⟨rfl, hb⟩; refine ⟨_, rfl, ?_⟩; have n0_ := Aside0.mk (Kd.R_below (by (with_reducible skip); exact (Kd.R_mono (Kd.R_far (p := ⟨gb111, 1, none⟩) (Kd.R_far (p := ⟨gb111, 0, none⟩) (Kd.R_types HO106.out BK111.out (by decide)) (fun _ hk => hk.2) (.int .i64 t108)) (fun _ hk => hk.2) (.int .i64 t109)) (fun _ h_ => h_.1))) hb); have n1_ := Aside0.mk (blk_below (g := gb101) (o := .cells #[.int .i64 a2_0, .int .i64 a2_1, .string a2_2] 26 (0, 0)) (by (with_reducible skip); refine blk_far ?_ NB101_111.out _; (with_reducible skip); refine blk_far ?_ NB101_111.out _; (with_reducible skip); exact BK101.out) hb); have n2_ := Aside0.mk (blk_below (g := gb102) (o := .cells #[.int .i64 a3_0, .int .i64 a3_1, .string a3_2] 26 (0, 0)) (by (with_reducible skip); refine blk_far ?_ NB102_111.out _; (with_reducible skip); refine blk_far ?_ NB102_111.out _; (with_reducible skip); exact BK102.out) hb); have n3_ := Aside0.mk (blk_below (g := gb111) (o := .cells #[.int .i64 t108, .int .i64 t109] 32 (0, 0)) (by (with_reducible skip); refine blk_put (cs := #[.int .i64 t108, .int .i64 0]) ?_ 1 _ rfl; (with_reducible skip); refine blk_put (cs := #[.int .i64 0, .int .i64 0]) ?_ 0 _ rfl; (with_reducible skip); exact BK111.out) hb); have n4_ := Aside0.mk (below_step (by repeat ((with_reducible first | exact HB.out | refine below_set ?_ GE111.out))) hb); clear HO106; clear BK101; clear BK102; clear BK111; clear HB; have HO106 := n0_; have BK101 := n1_; have BK102 := n2_; have BK111 := n3_; have HB := n4_; clear n0_ n1_ n2_ n3_ n4_; (try clear hb)) | ((with_reducible refine gate_dst (N := 12) rfl ?_); refine box_event ?hg (N := 12) ?hd (cs := #[.int .i64 0, .int .i64 0]) (t := 32) ?hr ?_; (case hd => rfl); (case hg => rfl); (case hr => (go_simp; done)); intro gb115 hg w153 hbox hb; have n0_ := Aside0.mk (Kd.R_below (by (with_reducible skip); exact HO106.out) hb); have n1_ := Aside0.mk (blk_below (g := gb101) (o := .cells #[.int .i64 a2_0, .int .i64 a2_1, .string a2_2] 26 (0, 0)) (by (with_reducible skip); exact BK101.out) hb); have n2_ := Aside0.mk (blk_below (g := gb102) (o := .cells #[.int .i64 a3_0, .int .i64 a3_1, .string a3_2] 26 (0, 0)) (by (with_reducible skip); exact BK102.out) hb); have n3_ := Aside0.mk (blk_below (g := gb111) (o := .cells #[.int .i64 t108, .int .i64 t109] 32 (0, 0)) (by (with_reducible skip); exact BK111.out) hb); have n4_ := Aside0.mk (below_step (by repeat ((with_reducible (exact HB.out)))) hb); have n5_ := Aside0.mk (hbox); have n6_ := Aside0.mk ((by rw [hg]; exact (below_size (by repeat ((with_reducible (exact HB.out))))) : w.heap.size ≤ gb115)); have n7_ := Aside0.mk ((by rw [hg]; exact (below_size (by repeat ((with_reducible (exact HB.out))))) : w.heap.size ≤ gb115)); have n8_ := Aside0.mk ((by rw [hg]; exact Nat.ne_of_lt (blk_lt (g := gb101) (o := .cells #[.int .i64 a2_0, .int .i64 a2_1, .string a2_2] 26 (0, 0)) (by (with_reducible skip); exact BK101.out)) : gb101 ≠ gb115)); have n9_ := Aside0.mk ((by rw [hg]; exact Nat.ne_of_gt (blk_lt (g := gb101) (o := .cells #[.int .i64 a2_0, .int .i64 a2_1, .string a2_2] 26 (0, 0)) (by (with_reducible skip); exact BK101.out)) : gb115 ≠ gb101)); have n10_ := Aside0.mk ((by rw [hg]; exact Nat.ne_of_lt (blk_lt (g := gb102) (o := .cells #[.int .i64 a3_0, .int .i64 a3_1, .string a3_2] 26 (0, 0)) (by (with_reducible skip); exact BK102.out)) : gb102 ≠ gb115)); have n11_ := Aside0.mk ((by rw [hg]; exact Nat.ne_of_gt (blk_lt (g := gb102) (o := .cells #[.int .i64 a3_0, .int .i64 a3_1, .string a3_2] 26 (0, 0)) (by (with_reducible skip); exact BK102.out)) : gb115 ≠ gb102)); have n12_ := Aside0.mk ((by rw [hg]; exact Nat.ne_of_lt (blk_lt (g := gb111) (o := .cells #[.int .i64 t108, .int .i64 t109] 32 (0, 0)) (by (with_reducible skip); exact BK111.out)) : gb111 ≠ gb115)); have n13_ := Aside0.mk ((by rw [hg]; exact Nat.ne_of_gt (blk_lt (g := gb111) (o := .cells #[.int .i64 t108, .int .i64 t109] 32 (0, 0)) (by (with_reducible skip); exact BK111.out)) : gb115 ≠ gb111)); clear HO106; clear BK101; clear BK102; clear BK111; clear HB; have HO106 := n0_; have BK101 := n1_; have BK102 := n2_; have BK111 := n3_; have HB := n4_; have BK115 := n5_; have GW115 := n6_; have GE115 := n7_; have NB101_115 := n8_; have NB115_101 := n9_; have NB102_115 := n10_; have NB115_102 := n11_; have NB111_115 := n12_; have NB115_111 := n13_; clear n0_ n1_ n2_ n3_ n4_ n5_ n6_ n7_ n8_ n9_ n10_ n11_ n12_ n13_; clear hb hbox hg; have hnb154 := NB115_101.out; have hnc154 := NB101_115.out; have hnb155 := NB115_102.out; have hnc155 := NB102_115.out; have hnb156 := NB115_111.out; have hnc156 := NB111_115.out; have hcz157_0 : w153.cell? ⟨gb115, 0, none⟩ = some (.int .i64 0) := (blk_cell BK115.out 0).trans rfl; have hcz157_1 : w153.cell? ⟨gb115, 1, none⟩ = some (.int .i64 0) := (blk_cell BK115.out 1).trans rfl; have hfz157_0 := blk_frozen BK115.out 0; have hfz157_1 := blk_frozen BK115.out 1; have hcz158_0 : w153.cell? ⟨gb101, 0, none⟩ = some (.int .i64 a2_0) := (blk_cell BK101.out 0).trans rfl; have hcz158_1 : w153.cell? ⟨gb101, 1, none⟩ = some (.int .i64 a2_1) := (blk_cell BK101.out 1).trans rfl; have hcz158_2 : w153.cell? ⟨gb101, 2, none⟩ = some (.string a2_2) := (blk_cell BK101.out 2).trans rfl; have hfz158_0 := blk_frozen BK101.out 0; have hfz158_1 := blk_frozen BK101.out 1; have hfz158_2 := blk_frozen BK101.out 2) | ((with_reducible refine gate_callee (f := 20) rfl ?_); refine goesL_ (some 46) rfl rfl Tryd.func20 (by kernel_rfl) rfl #[.int .i64 a0, .int .i64 a1, .agg #[.int .i64 a2_0, .int .i64 a2_1, .string a2_2], .agg #[.int .i64 a2_0, .int .i64 a2_1, .string a2_2]] rfl (by (try simp only [List.map_toArray, List.map_cons, List.map_nil]); rfl) ?_; (with_reducible refine (measure_Of.calls k a0 a1 a2_0 a2_1 a2_2 a2_0 a2_1 a2_2 t116 t117 t118 _ ?sGl A10.out).mono ?_); (case sGl => exact Gl.below HGl.out (by repeat ((with_reducible first | exact HB.out | refine below_set ?_ (Aside0.out (by assumption)))))); rintro e w159 ⟨rfl, hb⟩; refine ⟨_, rfl, ?_⟩; have n0_ := Aside0.mk (Kd.R_below (by (with_reducible skip); exact (Kd.R_mono (Kd.R_far (p := ⟨gb115, 1, none⟩) (Kd.R_far (p := ⟨gb115, 0, none⟩) (Kd.R_types HO106.out BK115.out (by decide)) (fun _ hk => hk.2) (.int .i64 t112)) (fun _ hk => hk.2) (.int .i64 t113)) (fun _ h_ => h_.1))) hb); have n1_ := Aside0.mk (blk_below (g := gb101) (o := .cells #[.int .i64 a2_0, .int .i64 a2_1, .string a2_2] 26 (0, 0)) (by (with_reducible skip); refine blk_far ?_ NB101_115.out _; (with_reducible skip); refine blk_far ?_ NB101_115.out _; (with_reducible skip); exact BK101.out) hb); have n2_ := Aside0.mk (blk_below (g := gb102) (o := .cells #[.int .i64 a3_0, .int .i64 a3_1, .string a3_2] 26 (0, 0)) (by (with_reducible skip); refine blk_far ?_ NB102_115.out _; (with_reducible skip); refine blk_far ?_ NB102_115.out _; (with_reducible skip); exact BK102.out) hb); have n3_ := Aside0.mk (blk_below (g := gb111) (o := .cells #[.int .i64 t108, .int .i64 t109] 32 (0, 0)) (by (with_reducible skip); refine blk_far ?_ NB111_115.out _; (with_reducible skip); refine blk_far ?_ NB111_115.out _; (with_reducible skip); exact BK111.out) hb); have n4_ := Aside0.mk (blk_below (g := gb115) (o := .cells #[.int .i64 t112, .int .i64 t113] 32 (0, 0)) (by (with_reducible skip); refine blk_put (cs := #[.int .i64 t112, .int .i64 0]) ?_ 1 _ rfl; (with_reducible skip); refine blk_put (cs := #[.int .i64 0, .int .i64 0]) ?_ 0 _ rfl; (with_reducible skip); exact BK115.out) hb); have n5_ := Aside0.mk (below_step (by repeat ((with_reducible first | exact HB.out | refine below_set ?_ GE115.out))) hb); clear HO106; clear BK101; clear BK102; clear BK111; clear BK115; clear HB; have HO106 := n0_; have BK101 := n1_; have BK102 := n2_; have BK111 := n3_; have BK115 := n4_; have HB := n5_; clear n0_ n1_ n2_ n3_ n4_ n5_; (try clear hb)) | ((with_reducible refine gate_dst (N := 14) rfl ?_); refine box_event ?hg (N := 14) ?hd (cs := #[.int .i64 0, .int .i64 0]) (t := 32) ?hr ?_; (case hd => rfl); (case hg => rfl); (case hr => (go_simp; done)); intro gb119 hg w160 hbox hb; have n0_ := Aside0.mk (Kd.R_below (by (with_reducible skip); exact HO106.out) hb); have n1_ := Aside0.mk (blk_below (g := gb101) (o := .cells #[.int .i64 a2_0, .int .i64 a2_1, .string a2_2] 26 (0, 0)) (by (with_reducible skip); exact BK101.out) hb); have n2_ := Aside0.mk (blk_below (g := gb102) (o := .cells #[.int .i64 a3_0, .int .i64 a3_1, .string a3_2] 26 (0, 0)) (by (with_reducible skip); exact BK102.out) hb); have n3_ := Aside0.mk (blk_below (g := gb111) (o := .cells #[.int .i64 t108, .int .i64 t109] 32 (0, 0)) (by (with_reducible skip); exact BK111.out) hb); have n4_ := Aside0.mk (blk_below (g := gb115) (o := .cells #[.int .i64 t112, .int .i64 t113] 32 (0, 0)) (by (with_reducible skip); exact BK115.out) hb); have n5_ := Aside0.mk (below_step (by repeat ((with_reducible (exact HB.out)))) hb); have n6_ := Aside0.mk (hbox); have n7_ := Aside0.mk ((by rw [hg]; exact (below_size (by repeat ((with_reducible (exact HB.out))))) : w.heap.size ≤ gb119)); have n8_ := Aside0.mk ((by rw [hg]; exact (below_size (by repeat ((with_reducible (exact HB.out))))) : w.heap.size ≤ gb119)); have n9_ := Aside0.mk ((by rw [hg]; exact Nat.ne_of_lt (blk_lt (g := gb101) (o := .cells #[.int .i64 a2_0, .int .i64 a2_1, .string a2_2] 26 (0, 0)) (by (with_reducible skip); exact BK101.out)) : gb101 ≠ gb119)); have n10_ := Aside0.mk ((by rw [hg]; exact Nat.ne_of_gt (blk_lt (g := gb101) (o := .cells #[.int .i64 a2_0, .int .i64 a2_1, .string a2_2] 26 (0, 0)) (by (with_reducible skip); exact BK101.out)) : gb119 ≠ gb101)); have n11_ := Aside0.mk ((by rw [hg]; exact Nat.ne_of_lt (blk_lt (g := gb102) (o := .cells #[.int .i64 a3_0, .int .i64 a3_1, .string a3_2] 26 (0, 0)) (by (with_reducible skip); exact BK102.out)) : gb102 ≠ gb119)); have n12_ := Aside0.mk ((by rw [hg]; exact Nat.ne_of_gt (blk_lt (g := gb102) (o := .cells #[.int .i64 a3_0, .int .i64 a3_1, .string a3_2] 26 (0, 0)) (by (with_reducible skip); exact BK102.out)) : gb119 ≠ gb102)); have n13_ := Aside0.mk ((by rw [hg]; exact Nat.ne_of_lt (blk_lt (g := gb111) (o := .cells #[.int .i64 t108, .int .i64 t109] 32 (0, 0)) (by (with_reducible skip); exact BK111.out)) : gb111 ≠ gb119)); have n14_ := Aside0.mk ((by rw [hg]; exact Nat.ne_of_gt (blk_lt (g := gb111) (o := .cells #[.int .i64 t108, .int .i64 t109] 32 (0, 0)) (by (with_reducible skip); exact BK111.out)) : gb119 ≠ gb111)); have n15_ := Aside0.mk ((by rw [hg]; exact Nat.ne_of_lt (blk_lt (g := gb115) (o := .cells #[.int .i64 t112, .int .i64 t113] 32 (0, 0)) (by (with_reducible skip); exact BK115.out)) : gb115 ≠ gb119)); have n16_ := Aside0.mk ((by rw [hg]; exact Nat.ne_of_gt (blk_lt (g := gb115) (o := .cells #[.int .i64 t112, .int .i64 t113] 32 (0, 0)) (by (with_reducible skip); exact BK115.out)) : gb119 ≠ gb115)); clear HO106; clear BK101; clear BK102; clear BK111; clear BK115; clear HB; have HO106 := n0_; have BK101 := n1_; have BK102 := n2_; have BK111 := n3_; have BK115 := n4_; have HB := n5_; have BK119 := n6_; have GW119 := n7_; have GE119 := n8_; have NB101_119 := n9_; have NB119_101 := n10_; have NB102_119 := n11_; have NB119_102 := n12_; have NB111_119 := n13_; have NB119_111 := n14_; have NB115_119 := n15_; have NB119_115 := n16_; clear n0_ n1_ n2_ n3_ n4_ n5_ n6_ n7_ n8_ n9_ n10_ n11_ n12_ n13_ n14_ n15_ n16_; clear hb hbox hg; have hnb161 := NB119_101.out; have hnc161 := NB101_119.out; have hnb162 := NB119_102.out; have hnc162 := NB102_119.out; have hnb163 := NB119_111.out; have hnc163 := NB111_119.out; have hnb164 := NB119_115.out; have hnc164 := NB115_119.out; have hcz165_0 : w160.cell? ⟨gb119, 0, none⟩ = some (.int .i64 0) := (blk_cell BK119.out 0).trans rfl; have hcz165_1 : w160.cell? ⟨gb119, 1, none⟩ = some (.int .i64 0) := (blk_cell BK119.out 1).trans rfl; have hfz165_0 := blk_frozen BK119.out 0; have hfz165_1 := blk_frozen BK119.out 1; have hcz166_0 : w160.cell? ⟨gb111, 0, none⟩ = some (.int .i64 t108) := (blk_cell BK111.out 0).trans rfl; have hcz166_1 : w160.cell? ⟨gb111, 1, none⟩ = some (.int .i64 t109) := (blk_cell BK111.out 1).trans rfl; have hfz166_0 := blk_frozen BK111.out 0; have hfz166_1 := blk_frozen BK111.out 1; have hcz167_0 : w160.cell? ⟨gb115, 0, none⟩ = some (.int .i64 t112) := (blk_cell BK115.out 0).trans rfl; have hcz167_1 : w160.cell? ⟨gb115, 1, none⟩ = some (.int .i64 t113) := (blk_cell BK115.out 1).trans rfl; have hfz167_0 := blk_frozen BK115.out 0; have hfz167_1 := blk_frozen BK115.out 1))
        have n0_ : Aside0 (Kd.R Kd.string 9 ((w160.setCell ⟨gb119, 0, none⟩ (.int .i64 t116)).setCell ⟨gb119, 1, none⟩ (.int .i64 t117)) w.heap.size (fun _ => True) (.slice Ao142 y104.length co142) y104) := ⟨by (with_reducible skip); exact Kd.R_mono (Kd.R_far (p := ⟨gb119, 1, none⟩) (Kd.R_far (p := ⟨gb119, 0, none⟩) (Kd.R_types HO106.out BK119.out (by decide)) (fun _ hk => hk.2) (.int .i64 t116)) (fun _ hk => hk.2) (.int .i64 t117)) (fun _ hk => trivial)⟩
        have n1_ : Aside0 (((w160.setCell ⟨gb119, 0, none⟩ (.int .i64 t116)).setCell ⟨gb119, 1, none⟩ (.int .i64 t117)).heap[gb101]? = some (.cells #[.int .i64 a2_0, .int .i64 a2_1, .string a2_2] 26 (0, 0))) := ⟨by (with_reducible skip); refine blk_far ?_ NB101_119.out _; (with_reducible skip); refine blk_far ?_ NB101_119.out _; (with_reducible skip); exact BK101.out⟩
        have n2_ : Aside0 (((w160.setCell ⟨gb119, 0, none⟩ (.int .i64 t116)).setCell ⟨gb119, 1, none⟩ (.int .i64 t117)).heap[gb102]? = some (.cells #[.int .i64 a3_0, .int .i64 a3_1, .string a3_2] 26 (0, 0))) := ⟨by (with_reducible skip); refine blk_far ?_ NB102_119.out _; (with_reducible skip); refine blk_far ?_ NB102_119.out _; (with_reducible skip); exact BK102.out⟩
        have n3_ : Aside0 (((w160.setCell ⟨gb119, 0, none⟩ (.int .i64 t116)).setCell ⟨gb119, 1, none⟩ (.int .i64 t117)).heap[gb111]? = some (.cells #[.int .i64 t108, .int .i64 t109] 32 (0, 0))) := ⟨by (with_reducible skip); refine blk_far ?_ NB111_119.out _; (with_reducible skip); refine blk_far ?_ NB111_119.out _; (with_reducible skip); exact BK111.out⟩
        have n4_ : Aside0 (((w160.setCell ⟨gb119, 0, none⟩ (.int .i64 t116)).setCell ⟨gb119, 1, none⟩ (.int .i64 t117)).heap[gb115]? = some (.cells #[.int .i64 t112, .int .i64 t113] 32 (0, 0))) := ⟨by (with_reducible skip); refine blk_far ?_ NB115_119.out _; (with_reducible skip); refine blk_far ?_ NB115_119.out _; (with_reducible skip); exact BK115.out⟩
        have n5_ : Aside0 (((w160.setCell ⟨gb119, 0, none⟩ (.int .i64 t116)).setCell ⟨gb119, 1, none⟩ (.int .i64 t117)).heap[gb119]? = some (.cells #[.int .i64 t116, .int .i64 t117] 32 (0, 0))) := ⟨by (with_reducible skip); refine blk_put (cs := #[.int .i64 t116, .int .i64 0]) ?_ 1 _ rfl; (with_reducible skip); refine blk_put (cs := #[.int .i64 0, .int .i64 0]) ?_ 0 _ rfl; (with_reducible skip); exact BK119.out⟩
        have n6_ : Aside0 (Below w.heap.size w ((w160.setCell ⟨gb119, 0, none⟩ (.int .i64 t116)).setCell ⟨gb119, 1, none⟩ (.int .i64 t117))) := ⟨by repeat ((with_reducible first | exact HB.out | refine below_set ?_ GE119.out))⟩
        (try clear HO106)
        (try clear BK101)
        (try clear BK102)
        (try clear BK111)
        (try clear BK115)
        (try clear BK119)
        (try clear HB)
        generalize ((w160.setCell ⟨gb119, 0, none⟩ (.int .i64 t116)).setCell ⟨gb119, 1, none⟩ (.int .i64 t117)) = w168 at n0_ n1_ n2_ n3_ n4_ n5_ n6_ ⊢
        have HO106 := n0_
        have BK101 := n1_
        have BK102 := n2_
        have BK111 := n3_
        have BK115 := n4_
        have BK119 := n5_
        have HB := n6_
        clear n0_ n1_ n2_ n3_ n4_ n5_ n6_
        have n0_ := Aside0.mk (Kd.R_drew HO106.out)
        have n1_ := Aside0.mk (blk_drew BK101.out)
        have n2_ := Aside0.mk (blk_drew BK102.out)
        have n3_ := Aside0.mk (blk_drew BK111.out)
        have n4_ := Aside0.mk (blk_drew BK115.out)
        have n5_ := Aside0.mk (blk_drew BK119.out)
        have n6_ := Aside0.mk (below_drew1 HB.out)
        clear HO106
        clear BK101
        clear BK102
        clear BK111
        clear BK115
        clear BK119
        clear HB
        have HO106 := n0_
        have BK101 := n1_
        have BK102 := n2_
        have BK111 := n3_
        have BK115 := n4_
        have BK119 := n5_
        have HB := n6_
        clear n0_ n1_ n2_ n3_ n4_ n5_ n6_
        refine start_ (n := 16) (S := fun w' => w'.cell? ⟨gb119, 0, none⟩ = some (.int .i64 t116) ∧ w'.cell? ⟨gb119, 1, none⟩ = some (.int .i64 t117)) (ds := []) #[false, false, false, false, false, false, false, false, false, false, false, false, false, false, false, false] (by kernel_rfl) rfl rfl ⟨(blk_cell BK119.out 0).trans rfl, (blk_cell BK119.out 1).trans rfl⟩ (fun hHeld => ?_); refine with_tabW cleanselaw04_MeasureValues.tab9 cleanselaw04_MeasureValues.bits9 (fun HT_ HW_ => ?_)
        generalize w168.drew = w169 at HO106 BK101 BK102 BK111 BK115 BK119 HB hHeld ⊢
        refine pure_ (i := 0) (N := some 66) (v := ?_) (a' := ?_) #[true, false, false, false, false, false, false, false, false, false, false, false, false, false, false, false] rfl rfl (any_of HT_.out (by kernel_rfl)) (fun _ _ _ h => h) (Or.inl ⟨by rfl, ?_⟩) ?_ ?_
        rotate_left
        ·intro w'
         go_simp
         with_reducible rfl
        rotate_left
        ·simp only [Act.put, List.setIfInBounds_toArray, List.set_cons_zero, List.set_cons_succ, i64_w, i32_w]
         rfl
        refine pure_ (i := 1) (N := some 67) (v := ?_) (a' := ?_) #[true, true, false, false, false, false, false, false, false, false, false, false, false, false, false, false] rfl rfl (any_of HT_.out (by kernel_rfl)) (fun _ _ _ h => h) (Or.inl ⟨by rfl, ?_⟩) ?_ ?_
        rotate_left
        ·intro w'
         go_simp
         with_reducible rfl
        rotate_left
        ·simp only [Act.put, List.setIfInBounds_toArray, List.set_cons_zero, List.set_cons_succ, i64_w, i32_w]
         rfl
        refine pure_ (i := 2) (N := some 68) (v := ?_) (a' := ?_) #[true, true, true, false, false, false, false, false, false, false, false, false, false, false, false, false] rfl rfl (any_of HT_.out (by kernel_rfl)) (fun _ _ _ h => h) (Or.inl ⟨by rfl, ?_⟩) ?_ ?_
        rotate_left
        ·intro w'
         go_simp
         with_reducible rfl
        rotate_left
        ·simp only [Act.put, List.setIfInBounds_toArray, List.set_cons_zero, List.set_cons_succ, i64_w, i32_w]
         rfl
        refine pure_ (i := 3) (N := some 69) (v := ?_) (a' := ?_) #[true, true, true, true, false, false, false, false, false, false, false, false, false, false, false, false] rfl rfl (any_of HT_.out (by kernel_rfl)) (fun _ _ _ h => h) (Or.inl ⟨by rfl, ?_⟩) ?_ ?_
        rotate_left
        ·intro w'
         go_simp
         with_reducible rfl
        rotate_left
        ·simp only [Act.put, List.setIfInBounds_toArray, List.set_cons_zero, List.set_cons_succ, i64_w, i32_w]
         rfl
        refine pure_ (i := 4) (N := some 70) (v := ?_) (a' := ?_) #[true, true, true, true, true, false, false, false, false, false, false, false, false, false, false, false] rfl rfl (any_of HT_.out (by kernel_rfl)) (fun _ _ _ h => h) (Or.inl ⟨by rfl, ?_⟩) ?_ ?_
        rotate_left
        ·intro w'
         go_simp
         with_reducible rfl
        rotate_left
        ·simp only [Act.put, List.setIfInBounds_toArray, List.set_cons_zero, List.set_cons_succ, i64_w, i32_w]
         rfl
        refine take_ (i := 5) (N := some 71) (v := ?_) (a' := ?_) #[true, true, true, true, true, true, false, false, false, false, false, false, false, false, false, false] rfl rfl (take_ofW HT_.out HW_.out (by kernel_rfl)) (fun _ _ _ h => h) (Or.inl ⟨by rfl, ?_⟩) hHeld ?_ ?_
        rotate_left
        ·rintro w' ⟨s0, s1⟩
         go_simp
         with_reducible rfl
        rotate_left
        ·simp only [Act.put, List.setIfInBounds_toArray, List.set_cons_zero, List.set_cons_succ, i64_w, i32_w]
         rfl
        refine one_ (i := 6) (N := some 72) #[true, true, true, true, true, true, true, false, false, false, false, false, false, false, false, false] rfl rfl (one_of HT_.out (by kernel_rfl)) (by decide) (fun K hK => ?_)
        refine goes_ Tryd.func27 (by kernel_rfl) rfl #[.int .i64 1, .int .i64 1] (by rfl) rfl rfl (by (try simp only [List.map_toArray, List.map_cons, List.map_nil]); rfl) ?_
        with_reducible refine (cleanselaw04_of.calls 1 1 t123 t124 _ A132.out).mono ?_
        rintro e w170 ⟨rfl, hb⟩
        refine ⟨_, rfl, ?_⟩
        have n0_ := Aside0.mk (Kd.R_below (by (with_reducible skip); exact HO106.out) hb)
        have n1_ := Aside0.mk (blk_below (g := gb101) (o := .cells #[.int .i64 a2_0, .int .i64 a2_1, .string a2_2] 26 (0, 0)) (by (with_reducible skip); exact BK101.out) hb)
        have n2_ := Aside0.mk (blk_below (g := gb102) (o := .cells #[.int .i64 a3_0, .int .i64 a3_1, .string a3_2] 26 (0, 0)) (by (with_reducible skip); exact BK102.out) hb)
        have n3_ := Aside0.mk (blk_below (g := gb111) (o := .cells #[.int .i64 t108, .int .i64 t109] 32 (0, 0)) (by (with_reducible skip); exact BK111.out) hb)
        have n4_ := Aside0.mk (blk_below (g := gb115) (o := .cells #[.int .i64 t112, .int .i64 t113] 32 (0, 0)) (by (with_reducible skip); exact BK115.out) hb)
        have n5_ := Aside0.mk (blk_below (g := gb119) (o := .cells #[.int .i64 t116, .int .i64 t117] 32 (0, 0)) (by (with_reducible skip); exact BK119.out) hb)
        have n6_ := Aside0.mk (below_step (by repeat ((with_reducible (exact HB.out)))) hb)
        clear HO106
        clear BK101
        clear BK102
        clear BK111
        clear BK115
        clear BK119
        clear HB
        have HO106 := n0_
        have BK101 := n1_
        have BK102 := n2_
        have BK111 := n3_
        have BK115 := n4_
        have BK119 := n5_
        have HB := n6_
        clear n0_ n1_ n2_ n3_ n4_ n5_ n6_
        (try clear hb)
        refine hK.out _ _ ⟨(blk_cell BK119.out 0).trans rfl, (blk_cell BK119.out 1).trans rfl⟩ (fun hHeld => ?_)
        clear hK K
        refine norm_ (a' := ?_) ?_ ?_
        rotate_left
        ·show Act.put _ (some 72) _ = _
         simp only [Act.put, List.setIfInBounds_toArray, List.set_cons_zero, List.set_cons_succ, i64_w, i32_w]
         rfl
        refine pure_ (i := 7) (N := some 73) (v := ?_) (a' := ?_) #[true, true, true, true, true, true, true, true, false, false, false, false, false, false, false, false] rfl rfl (any_of HT_.out (by kernel_rfl)) (fun _ _ _ h => h) (Or.inl ⟨by rfl, ?_⟩) ?_ ?_
        rotate_left
        ·intro w'
         go_simp
         with_reducible rfl
        rotate_left
        ·simp only [Act.put, List.setIfInBounds_toArray, List.set_cons_zero, List.set_cons_succ, i64_w, i32_w]
         rfl
        refine pure_ (i := 8) (N := some 74) (v := ?_) (a' := ?_) #[true, true, true, true, true, true, true, true, true, false, false, false, false, false, false, false] rfl rfl (any_of HT_.out (by kernel_rfl)) (fun _ _ _ h => h) (Or.inl ⟨by rfl, ?_⟩) ?_ ?_
        rotate_left
        ·intro w'
         go_simp
         with_reducible rfl
        rotate_left
        ·simp only [Act.put, List.setIfInBounds_toArray, List.set_cons_zero, List.set_cons_succ, i64_w, i32_w]
         rfl
        refine pure_ (i := 9) (N := some 75) (v := ?_) (a' := ?_) #[true, true, true, true, true, true, true, true, true, true, false, false, false, false, false, false] rfl rfl (any_of HT_.out (by kernel_rfl)) (fun _ _ _ h => h) (Or.inl ⟨by rfl, ?_⟩) ?_ ?_
        rotate_left
        ·intro w'
         go_simp
         with_reducible rfl
        rotate_left
        ·simp only [Act.put, List.setIfInBounds_toArray, List.set_cons_zero, List.set_cons_succ, i64_w, i32_w]
         rfl
        refine pure_ (i := 10) (N := some 76) (v := undef) (a' := ?_) #[true, true, true, true, true, true, true, true, true, true, true, false, false, false, false, false] rfl rfl (any_of HT_.out (by kernel_rfl)) (fun _ _ _ h => h) (Or.inr ⟨by rfl, rfl⟩) ?_ ?_
        rotate_left
        ·simp only [Act.put, List.setIfInBounds_toArray, List.set_cons_zero, List.set_cons_succ, i64_w, i32_w]
         rfl
        refine pure_ (i := 11) (N := some 77) (v := undef) (a' := ?_) #[true, true, true, true, true, true, true, true, true, true, true, true, false, false, false, false] rfl rfl (any_of HT_.out (by kernel_rfl)) (fun _ _ _ h => h) (Or.inr ⟨by rfl, rfl⟩) ?_ ?_
        rotate_left
        ·simp only [Act.put, List.setIfInBounds_toArray, List.set_cons_zero, List.set_cons_succ, i64_w, i32_w]
         rfl
        refine pure_ (i := 12) (N := some 78) (v := undef) (a' := ?_) #[true, true, true, true, true, true, true, true, true, true, true, true, true, false, false, false] rfl rfl (any_of HT_.out (by kernel_rfl)) (fun _ _ _ h => h) (Or.inr ⟨by rfl, rfl⟩) ?_ ?_
        rotate_left
        ·simp only [Act.put, List.setIfInBounds_toArray, List.set_cons_zero, List.set_cons_succ, i64_w, i32_w]
         rfl
        refine pure_ (i := 13) (N := some 79) (v := ?_) (a' := ?_) #[true, true, true, true, true, true, true, true, true, true, true, true, true, true, false, false] rfl rfl (any_of HT_.out (by kernel_rfl)) (fun _ _ _ h => h) (Or.inl ⟨by rfl, ?_⟩) ?_ ?_
        rotate_left
        ·intro w'
         go_simp
         with_reducible rfl
        rotate_left
        ·simp only [Act.put, List.setIfInBounds_toArray, List.set_cons_zero, List.set_cons_succ, i64_w, i32_w]
         rfl
        refine pure_ (i := 14) (N := some 80) (v := ?_) (a' := ?_) #[true, true, true, true, true, true, true, true, true, true, true, true, true, true, true, false] rfl rfl (any_of HT_.out (by kernel_rfl)) (fun _ _ _ h => h) (Or.inl ⟨by rfl, ?_⟩) ?_ ?_
        rotate_left
        ·intro w'
         go_simp
         with_reducible rfl
        rotate_left
        ·simp only [Act.put, List.setIfInBounds_toArray, List.set_cons_zero, List.set_cons_succ, i64_w, i32_w]
         rfl
        refine pure_ (i := 15) (N := some 8) (v := ?_) (a' := ?_) #[true, true, true, true, true, true, true, true, true, true, true, true, true, true, true, true] rfl rfl (any_of HT_.out (by kernel_rfl)) (fun _ _ _ h => h) (Or.inl ⟨by rfl, ?_⟩) ?_ ?_
        rotate_left
        ·intro w'
         go_simp
         with_reducible rfl
        rotate_left
        ·simp only [Act.put, List.setIfInBounds_toArray, List.set_cons_zero, List.set_cons_succ, i64_w, i32_w]
         rfl
        refine done_ (done_of HT_.out (by kernel_rfl)) ?_
        try go_wp2
        go_ret
        exact ⟨by rfl, by repeat ((with_reducible (exact HB.out)))⟩
       ·rw [if_neg c133] at H
        have c133b0 : (t116 == t123 && (t117 == t124)) = false := by simpa using c133
        (try (have c133b1 : decide (t116 = t123 && (t117 == t124)) = false := by simpa using c133))
        (try (have c133b2 : (t116 == t123 && (t117 == t124)) = false := by simpa using c133))
        (try (have c133b3 : ¬ (t116 = t123 && (t117 == t124)) := by simpa using c133))
        clear c133
        obtain rfl := Option.some.inj H
        go_enter Tryd.func8, Tryd.ntmps8
        try go_wp2_with (first | ((with_reducible refine gate_dst (N := 6) rfl ?_); refine box_event ?hg (N := 6) ?hd (cs := #[.int .i64 a2_0, .int .i64 a2_1, .string a2_2]) (t := 26) ?hr ?_; (case hd => rfl); (case hg => rfl); (case hr => (go_simp; done)); intro gb101 hg w171 hbox hb; have n0_ := Aside0.mk (below_step (by repeat ((with_reducible (exact HB.out)))) hb); have n1_ := Aside0.mk (hbox); have n2_ := Aside0.mk ((by rw [hg]; exact (below_size (by repeat ((with_reducible (exact HB.out))))) : w.heap.size ≤ gb101)); have n3_ := Aside0.mk ((by rw [hg]; exact (below_size (by repeat ((with_reducible (exact HB.out))))) : w.heap.size ≤ gb101)); clear HB; have HB := n0_; have BK101 := n1_; have GW101 := n2_; have GE101 := n3_; clear n0_ n1_ n2_ n3_; clear hb hbox hg) | ((with_reducible refine gate_dst (N := 7) rfl ?_); refine box_event ?hg (N := 7) ?hd (cs := #[.int .i64 a3_0, .int .i64 a3_1, .string a3_2]) (t := 26) ?hr ?_; (case hd => rfl); (case hg => rfl); (case hr => (go_simp; done)); intro gb102 hg w172 hbox hb; have n0_ := Aside0.mk (blk_below (g := gb101) (o := .cells #[.int .i64 a2_0, .int .i64 a2_1, .string a2_2] 26 (0, 0)) (by (with_reducible skip); exact BK101.out) hb); have n1_ := Aside0.mk (below_step (by repeat ((with_reducible (exact HB.out)))) hb); have n2_ := Aside0.mk (hbox); have n3_ := Aside0.mk ((by rw [hg]; exact (below_size (by repeat ((with_reducible (exact HB.out))))) : w.heap.size ≤ gb102)); have n4_ := Aside0.mk ((by rw [hg]; exact (below_size (by repeat ((with_reducible (exact HB.out))))) : w.heap.size ≤ gb102)); have n5_ := Aside0.mk ((by rw [hg]; exact Nat.ne_of_lt (blk_lt (g := gb101) (o := .cells #[.int .i64 a2_0, .int .i64 a2_1, .string a2_2] 26 (0, 0)) (by (with_reducible skip); exact BK101.out)) : gb101 ≠ gb102)); have n6_ := Aside0.mk ((by rw [hg]; exact Nat.ne_of_gt (blk_lt (g := gb101) (o := .cells #[.int .i64 a2_0, .int .i64 a2_1, .string a2_2] 26 (0, 0)) (by (with_reducible skip); exact BK101.out)) : gb102 ≠ gb101)); clear BK101; clear HB; have BK101 := n0_; have HB := n1_; have BK102 := n2_; have GW102 := n3_; have GE102 := n4_; have NB101_102 := n5_; have NB102_101 := n6_; clear n0_ n1_ n2_ n3_ n4_ n5_ n6_; clear hb hbox hg) | ((with_reducible refine gate_callee (f := 11) rfl ?_); refine goesL_ (some 16) rfl rfl Tryd.func11 (by kernel_rfl) rfl #[] rfl (by (try simp only [List.map_toArray, List.map_cons, List.map_nil]); done) ?_; (with_reducible refine (cleanselaw04_head.calls  true _ ?sGl A5.out).mono ?_); (case sGl => exact Gl.below HGl.out (by repeat ((with_reducible (exact HB.out))))); rintro e w173 ⟨rfl, hb⟩; refine ⟨_, rfl, ?_⟩; have n0_ := Aside0.mk (blk_below (g := gb101) (o := .cells #[.int .i64 a2_0, .int .i64 a2_1, .string a2_2] 26 (0, 0)) (by (with_reducible skip); exact BK101.out) hb); have n1_ := Aside0.mk (blk_below (g := gb102) (o := .cells #[.int .i64 a3_0, .int .i64 a3_1, .string a3_2] 26 (0, 0)) (by (with_reducible skip); exact BK102.out) hb); have n2_ := Aside0.mk (below_step (by repeat ((with_reducible (exact HB.out)))) hb); clear BK101; clear BK102; clear HB; have BK101 := n0_; have BK102 := n1_; have HB := n2_; clear n0_ n1_ n2_; (try clear hb); have hnb174 := NB101_102.out; have hnc174 := NB102_101.out; have hcz175_0 : w173.cell? ⟨gb101, 0, none⟩ = some (.int .i64 a2_0) := (blk_cell BK101.out 0).trans rfl; have hcz175_1 : w173.cell? ⟨gb101, 1, none⟩ = some (.int .i64 a2_1) := (blk_cell BK101.out 1).trans rfl; have hcz175_2 : w173.cell? ⟨gb101, 2, none⟩ = some (.string a2_2) := (blk_cell BK101.out 2).trans rfl; have hfz175_0 := blk_frozen BK101.out 0; have hfz175_1 := blk_frozen BK101.out 1; have hfz175_2 := blk_frozen BK101.out 2; have hcz176_0 : w173.cell? ⟨gb102, 0, none⟩ = some (.int .i64 a3_0) := (blk_cell BK102.out 0).trans rfl; have hcz176_1 : w173.cell? ⟨gb102, 1, none⟩ = some (.int .i64 a3_1) := (blk_cell BK102.out 1).trans rfl; have hcz176_2 : w173.cell? ⟨gb102, 2, none⟩ = some (.string a3_2) := (blk_cell BK102.out 2).trans rfl; have hfz176_0 := blk_frozen BK102.out 0; have hfz176_1 := blk_frozen BK102.out 1; have hfz176_2 := blk_frozen BK102.out 2) | ((with_reducible refine gate_dst (N := 21) rfl ?_); refine Kd.R_lit Kd.string _ 9 ?hg (N := 21) ?hd (xs := ([a2_2, a3_2] : List ByteArray)) (inner := [.string a2_2, .string a3_2]) (ok := fun _ => True) (okp := fun _ => True) ?hr ?hp (fun _ hk => hk) trivial (Below.refl _ _) (Nat.le_refl _) (by simp) ?_; (case hd => rfl); (case hg => rfl); (case hr => (go_simp; done)); (case hp => exact (Reps.one (show Kd.M Kd.string _ _ _ a2_2 [.string a2_2] from rfl) (Reps.one (show Kd.M Kd.string _ _ _ a3_2 [.string a3_2] from rfl) (Reps.none _ _)))); intro v105 w177 ho178 hb hg_ hnew_; clear hg_ hnew_; ((rw [← Ny104.out] at ho178)); have n0_ := Aside0.mk (Kd.R_lower ho178 (below_size (by repeat ((with_reducible (exact HB.out)))))); have n1_ := Aside0.mk (blk_below (g := gb101) (o := .cells #[.int .i64 a2_0, .int .i64 a2_1, .string a2_2] 26 (0, 0)) (by (with_reducible skip); exact BK101.out) hb); have n2_ := Aside0.mk (blk_below (g := gb102) (o := .cells #[.int .i64 a3_0, .int .i64 a3_1, .string a3_2] 26 (0, 0)) (by (with_reducible skip); exact BK102.out) hb); have n3_ := Aside0.mk (below_step (by repeat ((with_reducible (exact HB.out)))) hb); clear BK101; clear BK102; clear HB; have HO106 := n0_; have BK101 := n1_; have BK102 := n2_; have HB := n3_; clear n0_ n1_ n2_ n3_; clear hb ho178; obtain ⟨Ao179, co179, eo179⟩ := Kd.R_slice HO106.out; subst eo179) | ((with_reducible refine gate_callee (f := 13) rfl ?_); refine goesL_ (some 22) rfl rfl Tryd.func13 (by kernel_rfl) rfl #[.int .i64 200, .slice Ao179 y104.length co179] rfl (by (try simp only [List.map_toArray, List.map_cons, List.map_nil]); rfl) ?_; (with_reducible refine (cleanseref04_Short.calls k 200 _ _ y104 true _ ?side1 ?side2 A6.out).mono ?_); (case side1 => repeat ((exact (Kd.R_reads' HO106.out).2.2))); (case side2 => exact (Kd.R_reads' HO106.out).2.1); rintro e w' ⟨rfl, ⟨nd, rfl⟩⟩; refine ⟨_, rfl, ?_⟩; (try (rw [drewN_self w177]; generalize hq_ : World.drewN w177 _ = w177; have n0_ : Aside0 (Kd.R Kd.string 9 w177 w.heap.size (fun _ => True) (.slice Ao179 y104.length co179) y104) := ⟨by rw [← hq_]; exact (by (with_reducible repeat ((apply Kd.R_drewN))); exact HO106.out)⟩; have n1_ : Aside0 (w177.heap[gb101]? = some (.cells #[.int .i64 a2_0, .int .i64 a2_1, .string a2_2] 26 (0, 0))) := ⟨by rw [← hq_]; exact (by (with_reducible repeat ((refine blk_drewN ?_ _))); exact BK101.out)⟩; have n2_ : Aside0 (w177.heap[gb102]? = some (.cells #[.int .i64 a3_0, .int .i64 a3_1, .string a3_2] 26 (0, 0))) := ⟨by rw [← hq_]; exact (by (with_reducible repeat ((refine blk_drewN ?_ _))); exact BK102.out)⟩; have n3_ : Aside0 (Below w.heap.size w w177) := ⟨by rw [← hq_]; exact (by repeat ((with_reducible first | exact HB.out | apply pw_below_drewN)))⟩; clear HO106 BK101 BK102 HB hq_; have HO106 := n0_; have BK101 := n1_; have BK102 := n2_; have HB := n3_; clear n0_ n1_ n2_ n3_)); have hcz180_0 : w177.cell? ⟨gb101, 0, none⟩ = some (.int .i64 a2_0) := (blk_cell BK101.out 0).trans rfl; have hcz180_1 : w177.cell? ⟨gb101, 1, none⟩ = some (.int .i64 a2_1) := (blk_cell BK101.out 1).trans rfl; have hcz180_2 : w177.cell? ⟨gb101, 2, none⟩ = some (.string a2_2) := (blk_cell BK101.out 2).trans rfl; have hfz180_0 := blk_frozen BK101.out 0; have hfz180_1 := blk_frozen BK101.out 1; have hfz180_2 := blk_frozen BK101.out 2; have hcz181_0 : w177.cell? ⟨gb102, 0, none⟩ = some (.int .i64 a3_0) := (blk_cell BK102.out 0).trans rfl; have hcz181_1 : w177.cell? ⟨gb102, 1, none⟩ = some (.int .i64 a3_1) := (blk_cell BK102.out 1).trans rfl; have hcz181_2 : w177.cell? ⟨gb102, 2, none⟩ = some (.string a3_2) := (blk_cell BK102.out 2).trans rfl; have hfz181_0 := blk_frozen BK102.out 0; have hfz181_1 := blk_frozen BK102.out 1; have hfz181_2 := blk_frozen BK102.out 2) | ((with_reducible refine gate_callee (f := 20) rfl ?_); refine goesL_ (some 30) rfl rfl Tryd.func20 (by kernel_rfl) rfl #[.int .i64 a0, .int .i64 a1, .agg #[.int .i64 a2_0, .int .i64 a2_1, .string a2_2], .agg #[.int .i64 a3_0, .int .i64 a3_1, .string a3_2]] rfl (by (try simp only [List.map_toArray, List.map_cons, List.map_nil]); rfl) ?_; (with_reducible refine (measure_Of.calls k a0 a1 a2_0 a2_1 a2_2 a3_0 a3_1 a3_2 t108 t109 t110 _ ?sGl A8.out).mono ?_); (case sGl => exact Gl.below HGl.out (by repeat ((with_reducible (exact HB.out))))); rintro e w182 ⟨rfl, hb⟩; refine ⟨_, rfl, ?_⟩; have n0_ := Aside0.mk (Kd.R_below (by (with_reducible skip); exact HO106.out) hb); have n1_ := Aside0.mk (blk_below (g := gb101) (o := .cells #[.int .i64 a2_0, .int .i64 a2_1, .string a2_2] 26 (0, 0)) (by (with_reducible skip); exact BK101.out) hb); have n2_ := Aside0.mk (blk_below (g := gb102) (o := .cells #[.int .i64 a3_0, .int .i64 a3_1, .string a3_2] 26 (0, 0)) (by (with_reducible skip); exact BK102.out) hb); have n3_ := Aside0.mk (below_step (by repeat ((with_reducible (exact HB.out)))) hb); clear HO106; clear BK101; clear BK102; clear HB; have HO106 := n0_; have BK101 := n1_; have BK102 := n2_; have HB := n3_; clear n0_ n1_ n2_ n3_; (try clear hb)) | ((with_reducible refine gate_dst (N := 10) rfl ?_); refine box_event ?hg (N := 10) ?hd (cs := #[.int .i64 0, .int .i64 0]) (t := 32) ?hr ?_; (case hd => rfl); (case hg => rfl); (case hr => (go_simp; done)); intro gb111 hg w183 hbox hb; have n0_ := Aside0.mk (Kd.R_below (by (with_reducible skip); exact HO106.out) hb); have n1_ := Aside0.mk (blk_below (g := gb101) (o := .cells #[.int .i64 a2_0, .int .i64 a2_1, .string a2_2] 26 (0, 0)) (by (with_reducible skip); exact BK101.out) hb); have n2_ := Aside0.mk (blk_below (g := gb102) (o := .cells #[.int .i64 a3_0, .int .i64 a3_1, .string a3_2] 26 (0, 0)) (by (with_reducible skip); exact BK102.out) hb); have n3_ := Aside0.mk (below_step (by repeat ((with_reducible (exact HB.out)))) hb); have n4_ := Aside0.mk (hbox); have n5_ := Aside0.mk ((by rw [hg]; exact (below_size (by repeat ((with_reducible (exact HB.out))))) : w.heap.size ≤ gb111)); have n6_ := Aside0.mk ((by rw [hg]; exact (below_size (by repeat ((with_reducible (exact HB.out))))) : w.heap.size ≤ gb111)); have n7_ := Aside0.mk ((by rw [hg]; exact Nat.ne_of_lt (blk_lt (g := gb101) (o := .cells #[.int .i64 a2_0, .int .i64 a2_1, .string a2_2] 26 (0, 0)) (by (with_reducible skip); exact BK101.out)) : gb101 ≠ gb111)); have n8_ := Aside0.mk ((by rw [hg]; exact Nat.ne_of_gt (blk_lt (g := gb101) (o := .cells #[.int .i64 a2_0, .int .i64 a2_1, .string a2_2] 26 (0, 0)) (by (with_reducible skip); exact BK101.out)) : gb111 ≠ gb101)); have n9_ := Aside0.mk ((by rw [hg]; exact Nat.ne_of_lt (blk_lt (g := gb102) (o := .cells #[.int .i64 a3_0, .int .i64 a3_1, .string a3_2] 26 (0, 0)) (by (with_reducible skip); exact BK102.out)) : gb102 ≠ gb111)); have n10_ := Aside0.mk ((by rw [hg]; exact Nat.ne_of_gt (blk_lt (g := gb102) (o := .cells #[.int .i64 a3_0, .int .i64 a3_1, .string a3_2] 26 (0, 0)) (by (with_reducible skip); exact BK102.out)) : gb111 ≠ gb102)); clear HO106; clear BK101; clear BK102; clear HB; have HO106 := n0_; have BK101 := n1_; have BK102 := n2_; have HB := n3_; have BK111 := n4_; have GW111 := n5_; have GE111 := n6_; have NB101_111 := n7_; have NB111_101 := n8_; have NB102_111 := n9_; have NB111_102 := n10_; clear n0_ n1_ n2_ n3_ n4_ n5_ n6_ n7_ n8_ n9_ n10_; clear hb hbox hg; have hnb184 := NB111_101.out; have hnc184 := NB101_111.out; have hnb185 := NB111_102.out; have hnc185 := NB102_111.out; have hcz186_0 : w183.cell? ⟨gb111, 0, none⟩ = some (.int .i64 0) := (blk_cell BK111.out 0).trans rfl; have hcz186_1 : w183.cell? ⟨gb111, 1, none⟩ = some (.int .i64 0) := (blk_cell BK111.out 1).trans rfl; have hfz186_0 := blk_frozen BK111.out 0; have hfz186_1 := blk_frozen BK111.out 1; have hcz187_0 : w183.cell? ⟨gb102, 0, none⟩ = some (.int .i64 a3_0) := (blk_cell BK102.out 0).trans rfl; have hcz187_1 : w183.cell? ⟨gb102, 1, none⟩ = some (.int .i64 a3_1) := (blk_cell BK102.out 1).trans rfl; have hcz187_2 : w183.cell? ⟨gb102, 2, none⟩ = some (.string a3_2) := (blk_cell BK102.out 2).trans rfl; have hfz187_0 := blk_frozen BK102.out 0; have hfz187_1 := blk_frozen BK102.out 1; have hfz187_2 := blk_frozen BK102.out 2; have hcz188_0 : w183.cell? ⟨gb101, 0, none⟩ = some (.int .i64 a2_0) := (blk_cell BK101.out 0).trans rfl; have hcz188_1 : w183.cell? ⟨gb101, 1, none⟩ = some (.int .i64 a2_1) := (blk_cell BK101.out 1).trans rfl; have hcz188_2 : w183.cell? ⟨gb101, 2, none⟩ = some (.string a2_2) := (blk_cell BK101.out 2).trans rfl; have hfz188_0 := blk_frozen BK101.out 0; have hfz188_1 := blk_frozen BK101.out 1; have hfz188_2 := blk_frozen BK101.out 2) | ((with_reducible refine gate_callee (f := 20) rfl ?_); refine goesL_ (some 38) rfl rfl Tryd.func20 (by kernel_rfl) rfl #[.int .i64 a0, .int .i64 a1, .agg #[.int .i64 a3_0, .int .i64 a3_1, .string a3_2], .agg #[.int .i64 a2_0, .int .i64 a2_1, .string a2_2]] rfl (by (try simp only [List.map_toArray, List.map_cons, List.map_nil]); rfl) ?_; (with_reducible refine (measure_Of.calls k a0 a1 a3_0 a3_1 a3_2 a2_0 a2_1 a2_2 t112 t113 t114 _ ?sGl A9.out).mono ?_); (case sGl => exact Gl.below HGl.out (by repeat ((with_reducible first | exact HB.out | refine below_set ?_ (Aside0.out (by assumption)))))); rintro e w189 ⟨rfl, hb⟩; refine ⟨_, rfl, ?_⟩; have n0_ := Aside0.mk (Kd.R_below (by (with_reducible skip); exact (Kd.R_mono (Kd.R_far (p := ⟨gb111, 1, none⟩) (Kd.R_far (p := ⟨gb111, 0, none⟩) (Kd.R_types HO106.out BK111.out (by decide)) (fun _ hk => hk.2) (.int .i64 t108)) (fun _ hk => hk.2) (.int .i64 t109)) (fun _ h_ => h_.1))) hb); have n1_ := Aside0.mk (blk_below (g := gb101) (o := .cells #[.int .i64 a2_0, .int .i64 a2_1, .string a2_2] 26 (0, 0)) (by (with_reducible skip); refine blk_far ?_ NB101_111.out _; (with_reducible skip); refine blk_far ?_ NB101_111.out _; (with_reducible skip); exact BK101.out) hb); have n2_ := Aside0.mk (blk_below (g := gb102) (o := .cells #[.int .i64 a3_0, .int .i64 a3_1, .string a3_2] 26 (0, 0)) (by (with_reducible skip); refine blk_far ?_ NB102_111.out _; (with_reducible skip); refine blk_far ?_ NB102_111.out _; (with_reducible skip); exact BK102.out) hb); have n3_ := Aside0.mk (blk_below (g := gb111) (o := .cells #[.int .i64 t108, .int .i64 t109] 32 (0, 0)) (by (with_reducible skip); refine blk_put (cs := #[.int .i64 t108, .int .i64 0]) ?_ 1 _ rfl; (with_reducible skip); refine blk_put (cs := #[.int .i64 0, .int .i64 0]) ?_ 0 _ rfl; (with_reducible skip); exact BK111.out) hb); have n4_ := Aside0.mk (below_step (by repeat ((with_reducible first | exact HB.out | refine below_set ?_ GE111.out))) hb); clear HO106; clear BK101; clear BK102; clear BK111; clear HB; have HO106 := n0_; have BK101 := n1_; have BK102 := n2_; have BK111 := n3_; have HB := n4_; clear n0_ n1_ n2_ n3_ n4_; (try clear hb)) | ((with_reducible refine gate_dst (N := 12) rfl ?_); refine box_event ?hg (N := 12) ?hd (cs := #[.int .i64 0, .int .i64 0]) (t := 32) ?hr ?_; (case hd => rfl); (case hg => rfl); (case hr => (go_simp; done)); intro gb115 hg w190 hbox hb; have n0_ := Aside0.mk (Kd.R_below (by (with_reducible skip); exact HO106.out) hb); have n1_ := Aside0.mk (blk_below (g := gb101) (o := .cells #[.int .i64 a2_0, .int .i64 a2_1, .string a2_2] 26 (0, 0)) (by (with_reducible skip); exact BK101.out) hb); have n2_ := Aside0.mk (blk_below (g := gb102) (o := .cells #[.int .i64 a3_0, .int .i64 a3_1, .string a3_2] 26 (0, 0)) (by (with_reducible skip); exact BK102.out) hb); have n3_ := Aside0.mk (blk_below (g := gb111) (o := .cells #[.int .i64 t108, .int .i64 t109] 32 (0, 0)) (by (with_reducible skip); exact BK111.out) hb); have n4_ := Aside0.mk (below_step (by repeat ((with_reducible (exact HB.out)))) hb); have n5_ := Aside0.mk (hbox); have n6_ := Aside0.mk ((by rw [hg]; exact (below_size (by repeat ((with_reducible (exact HB.out))))) : w.heap.size ≤ gb115)); have n7_ := Aside0.mk ((by rw [hg]; exact (below_size (by repeat ((with_reducible (exact HB.out))))) : w.heap.size ≤ gb115)); have n8_ := Aside0.mk ((by rw [hg]; exact Nat.ne_of_lt (blk_lt (g := gb101) (o := .cells #[.int .i64 a2_0, .int .i64 a2_1, .string a2_2] 26 (0, 0)) (by (with_reducible skip); exact BK101.out)) : gb101 ≠ gb115)); have n9_ := Aside0.mk ((by rw [hg]; exact Nat.ne_of_gt (blk_lt (g := gb101) (o := .cells #[.int .i64 a2_0, .int .i64 a2_1, .string a2_2] 26 (0, 0)) (by (with_reducible skip); exact BK101.out)) : gb115 ≠ gb101)); have n10_ := Aside0.mk ((by rw [hg]; exact Nat.ne_of_lt (blk_lt (g := gb102) (o := .cells #[.int .i64 a3_0, .int .i64 a3_1, .string a3_2] 26 (0, 0)) (by (with_reducible skip); exact BK102.out)) : gb102 ≠ gb115)); have n11_ := Aside0.mk ((by rw [hg]; exact Nat.ne_of_gt (blk_lt (g := gb102) (o := .cells #[.int .i64 a3_0, .int .i64 a3_1, .string a3_2] 26 (0, 0)) (by (with_reducible skip); exact BK102.out)) : gb115 ≠ gb102)); have n12_ := Aside0.mk ((by rw [hg]; exact Nat.ne_of_lt (blk_lt (g := gb111) (o := .cells #[.int .i64 t108, .int .i64 t109] 32 (0, 0)) (by (with_reducible skip); exact BK111.out)) : gb111 ≠ gb115)); have n13_ := Aside0.mk ((by rw [hg]; exact Nat.ne_of_gt (blk_lt (g := gb111) (o := .cells #[.int .i64 t108, .int .i64 t109] 32 (0, 0)) (by (with_reducible skip); exact BK111.out)) : gb115 ≠ gb111)); clear HO106; clear BK101; clear BK102; clear BK111; clear HB; have HO106 := n0_; have BK101 := n1_; have BK102 := n2_; have BK111 := n3_; have HB := n4_; have BK115 := n5_; have GW115 := n6_; have GE115 := n7_; have NB101_115 := n8_; have NB115_101 := n9_; have NB102_115 := n10_; have NB115_102 := n11_; have NB111_115 := n12_; have NB115_111 := n13_; clear n0_ n1_ n2_ n3_ n4_ n5_ n6_ n7_ n8_ n9_ n10_ n11_ n12_ n13_; clear hb hbox hg; have hnb191 := NB115_101.out; have hnc191 := NB101_115.out; have hnb192 := NB115_102.out; have hnc192 := NB102_115.out; have hnb193 := NB115_111.out; have hnc193 := NB111_115.out; have hcz194_0 : w190.cell? ⟨gb115, 0, none⟩ = some (.int .i64 0) := (blk_cell BK115.out 0).trans rfl; have hcz194_1 : w190.cell? ⟨gb115, 1, none⟩ = some (.int .i64 0) := (blk_cell BK115.out 1).trans rfl; have hfz194_0 := blk_frozen BK115.out 0; have hfz194_1 := blk_frozen BK115.out 1; have hcz195_0 : w190.cell? ⟨gb101, 0, none⟩ = some (.int .i64 a2_0) := (blk_cell BK101.out 0).trans rfl; have hcz195_1 : w190.cell? ⟨gb101, 1, none⟩ = some (.int .i64 a2_1) := (blk_cell BK101.out 1).trans rfl; have hcz195_2 : w190.cell? ⟨gb101, 2, none⟩ = some (.string a2_2) := (blk_cell BK101.out 2).trans rfl; have hfz195_0 := blk_frozen BK101.out 0; have hfz195_1 := blk_frozen BK101.out 1; have hfz195_2 := blk_frozen BK101.out 2) | ((with_reducible refine gate_callee (f := 20) rfl ?_); refine goesL_ (some 46) rfl rfl Tryd.func20 (by kernel_rfl) rfl #[.int .i64 a0, .int .i64 a1, .agg #[.int .i64 a2_0, .int .i64 a2_1, .string a2_2], .agg #[.int .i64 a2_0, .int .i64 a2_1, .string a2_2]] rfl (by (try simp only [List.map_toArray, List.map_cons, List.map_nil]); rfl) ?_; (with_reducible refine (measure_Of.calls k a0 a1 a2_0 a2_1 a2_2 a2_0 a2_1 a2_2 t116 t117 t118 _ ?sGl A10.out).mono ?_); (case sGl => exact Gl.below HGl.out (by repeat ((with_reducible first | exact HB.out | refine below_set ?_ (Aside0.out (by assumption)))))); rintro e w196 ⟨rfl, hb⟩; refine ⟨_, rfl, ?_⟩; have n0_ := Aside0.mk (Kd.R_below (by (with_reducible skip); exact (Kd.R_mono (Kd.R_far (p := ⟨gb115, 1, none⟩) (Kd.R_far (p := ⟨gb115, 0, none⟩) (Kd.R_types HO106.out BK115.out (by decide)) (fun _ hk => hk.2) (.int .i64 t112)) (fun _ hk => hk.2) (.int .i64 t113)) (fun _ h_ => h_.1))) hb); have n1_ := Aside0.mk (blk_below (g := gb101) (o := .cells #[.int .i64 a2_0, .int .i64 a2_1, .string a2_2] 26 (0, 0)) (by (with_reducible skip); refine blk_far ?_ NB101_115.out _; (with_reducible skip); refine blk_far ?_ NB101_115.out _; (with_reducible skip); exact BK101.out) hb); have n2_ := Aside0.mk (blk_below (g := gb102) (o := .cells #[.int .i64 a3_0, .int .i64 a3_1, .string a3_2] 26 (0, 0)) (by (with_reducible skip); refine blk_far ?_ NB102_115.out _; (with_reducible skip); refine blk_far ?_ NB102_115.out _; (with_reducible skip); exact BK102.out) hb); have n3_ := Aside0.mk (blk_below (g := gb111) (o := .cells #[.int .i64 t108, .int .i64 t109] 32 (0, 0)) (by (with_reducible skip); refine blk_far ?_ NB111_115.out _; (with_reducible skip); refine blk_far ?_ NB111_115.out _; (with_reducible skip); exact BK111.out) hb); have n4_ := Aside0.mk (blk_below (g := gb115) (o := .cells #[.int .i64 t112, .int .i64 t113] 32 (0, 0)) (by (with_reducible skip); refine blk_put (cs := #[.int .i64 t112, .int .i64 0]) ?_ 1 _ rfl; (with_reducible skip); refine blk_put (cs := #[.int .i64 0, .int .i64 0]) ?_ 0 _ rfl; (with_reducible skip); exact BK115.out) hb); have n5_ := Aside0.mk (below_step (by repeat ((with_reducible first | exact HB.out | refine below_set ?_ GE115.out))) hb); clear HO106; clear BK101; clear BK102; clear BK111; clear BK115; clear HB; have HO106 := n0_; have BK101 := n1_; have BK102 := n2_; have BK111 := n3_; have BK115 := n4_; have HB := n5_; clear n0_ n1_ n2_ n3_ n4_ n5_; (try clear hb)) | ((with_reducible refine gate_dst (N := 14) rfl ?_); refine box_event ?hg (N := 14) ?hd (cs := #[.int .i64 0, .int .i64 0]) (t := 32) ?hr ?_; (case hd => rfl); (case hg => rfl); (case hr => (go_simp; done)); intro gb119 hg w197 hbox hb; have n0_ := Aside0.mk (Kd.R_below (by (with_reducible skip); exact HO106.out) hb); have n1_ := Aside0.mk (blk_below (g := gb101) (o := .cells #[.int .i64 a2_0, .int .i64 a2_1, .string a2_2] 26 (0, 0)) (by (with_reducible skip); exact BK101.out) hb); have n2_ := Aside0.mk (blk_below (g := gb102) (o := .cells #[.int .i64 a3_0, .int .i64 a3_1, .string a3_2] 26 (0, 0)) (by (with_reducible skip); exact BK102.out) hb); have n3_ := Aside0.mk (blk_below (g := gb111) (o := .cells #[.int .i64 t108, .int .i64 t109] 32 (0, 0)) (by (with_reducible skip); exact BK111.out) hb); have n4_ := Aside0.mk (blk_below (g := gb115) (o := .cells #[.int .i64 t112, .int .i64 t113] 32 (0, 0)) (by (with_reducible skip); exact BK115.out) hb); have n5_ := Aside0.mk (below_step (by repeat ((with_reducible (exact HB.out)))) hb); have n6_ := Aside0.mk (hbox); have n7_ := Aside0.mk ((by rw [hg]; exact (below_size (by repeat ((with_reducible (exact HB.out))))) : w.heap.size ≤ gb119)); have n8_ := Aside0.mk ((by rw [hg]; exact (below_size (by repeat ((with_reducible (exact HB.out))))) : w.heap.size ≤ gb119)); have n9_ := Aside0.mk ((by rw [hg]; exact Nat.ne_of_lt (blk_lt (g := gb101) (o := .cells #[.int .i64 a2_0, .int .i64 a2_1, .string a2_2] 26 (0, 0)) (by (with_reducible skip); exact BK101.out)) : gb101 ≠ gb119)); have n10_ := Aside0.mk ((by rw [hg]; exact Nat.ne_of_gt (blk_lt (g := gb101) (o := .cells #[.int .i64 a2_0, .int .i64 a2_1, .string a2_2] 26 (0, 0)) (by (with_reducible skip); exact BK101.out)) : gb119 ≠ gb101)); have n11_ := Aside0.mk ((by rw [hg]; exact Nat.ne_of_lt (blk_lt (g := gb102) (o := .cells #[.int .i64 a3_0, .int .i64 a3_1, .string a3_2] 26 (0, 0)) (by (with_reducible skip); exact BK102.out)) : gb102 ≠ gb119)); have n12_ := Aside0.mk ((by rw [hg]; exact Nat.ne_of_gt (blk_lt (g := gb102) (o := .cells #[.int .i64 a3_0, .int .i64 a3_1, .string a3_2] 26 (0, 0)) (by (with_reducible skip); exact BK102.out)) : gb119 ≠ gb102)); have n13_ := Aside0.mk ((by rw [hg]; exact Nat.ne_of_lt (blk_lt (g := gb111) (o := .cells #[.int .i64 t108, .int .i64 t109] 32 (0, 0)) (by (with_reducible skip); exact BK111.out)) : gb111 ≠ gb119)); have n14_ := Aside0.mk ((by rw [hg]; exact Nat.ne_of_gt (blk_lt (g := gb111) (o := .cells #[.int .i64 t108, .int .i64 t109] 32 (0, 0)) (by (with_reducible skip); exact BK111.out)) : gb119 ≠ gb111)); have n15_ := Aside0.mk ((by rw [hg]; exact Nat.ne_of_lt (blk_lt (g := gb115) (o := .cells #[.int .i64 t112, .int .i64 t113] 32 (0, 0)) (by (with_reducible skip); exact BK115.out)) : gb115 ≠ gb119)); have n16_ := Aside0.mk ((by rw [hg]; exact Nat.ne_of_gt (blk_lt (g := gb115) (o := .cells #[.int .i64 t112, .int .i64 t113] 32 (0, 0)) (by (with_reducible skip); exact BK115.out)) : gb119 ≠ gb115)); clear HO106; clear BK101; clear BK102; clear BK111; clear BK115; clear HB; have HO106 := n0_; have BK101 := n1_; have BK102 := n2_; have BK111 := n3_; have BK115 := n4_; have HB := n5_; have BK119 := n6_; have GW119 := n7_; have GE119 := n8_; have NB101_119 := n9_; have NB119_101 := n10_; have NB102_119 := n11_; have NB119_102 := n12_; have NB111_119 := n13_; have NB119_111 := n14_; have NB115_119 := n15_; have NB119_115 := n16_; clear n0_ n1_ n2_ n3_ n4_ n5_ n6_ n7_ n8_ n9_ n10_ n11_ n12_ n13_ n14_ n15_ n16_; clear hb hbox hg; have hnb198 := NB119_101.out; have hnc198 := NB101_119.out; have hnb199 := NB119_102.out; have hnc199 := NB102_119.out; have hnb200 := NB119_111.out; have hnc200 := NB111_119.out; have hnb201 := NB119_115.out; have hnc201 := NB115_119.out; have hcz202_0 : w197.cell? ⟨gb119, 0, none⟩ = some (.int .i64 0) := (blk_cell BK119.out 0).trans rfl; have hcz202_1 : w197.cell? ⟨gb119, 1, none⟩ = some (.int .i64 0) := (blk_cell BK119.out 1).trans rfl; have hfz202_0 := blk_frozen BK119.out 0; have hfz202_1 := blk_frozen BK119.out 1; have hcz203_0 : w197.cell? ⟨gb111, 0, none⟩ = some (.int .i64 t108) := (blk_cell BK111.out 0).trans rfl; have hcz203_1 : w197.cell? ⟨gb111, 1, none⟩ = some (.int .i64 t109) := (blk_cell BK111.out 1).trans rfl; have hfz203_0 := blk_frozen BK111.out 0; have hfz203_1 := blk_frozen BK111.out 1; have hcz204_0 : w197.cell? ⟨gb115, 0, none⟩ = some (.int .i64 t112) := (blk_cell BK115.out 0).trans rfl; have hcz204_1 : w197.cell? ⟨gb115, 1, none⟩ = some (.int .i64 t113) := (blk_cell BK115.out 1).trans rfl; have hfz204_0 := blk_frozen BK115.out 0; have hfz204_1 := blk_frozen BK115.out 1))
        have n0_ : Aside0 (Kd.R Kd.string 9 ((w197.setCell ⟨gb119, 0, none⟩ (.int .i64 t116)).setCell ⟨gb119, 1, none⟩ (.int .i64 t117)) w.heap.size (fun _ => True) (.slice Ao179 y104.length co179) y104) := ⟨by (with_reducible skip); exact Kd.R_mono (Kd.R_far (p := ⟨gb119, 1, none⟩) (Kd.R_far (p := ⟨gb119, 0, none⟩) (Kd.R_types HO106.out BK119.out (by decide)) (fun _ hk => hk.2) (.int .i64 t116)) (fun _ hk => hk.2) (.int .i64 t117)) (fun _ hk => trivial)⟩
        have n1_ : Aside0 (((w197.setCell ⟨gb119, 0, none⟩ (.int .i64 t116)).setCell ⟨gb119, 1, none⟩ (.int .i64 t117)).heap[gb101]? = some (.cells #[.int .i64 a2_0, .int .i64 a2_1, .string a2_2] 26 (0, 0))) := ⟨by (with_reducible skip); refine blk_far ?_ NB101_119.out _; (with_reducible skip); refine blk_far ?_ NB101_119.out _; (with_reducible skip); exact BK101.out⟩
        have n2_ : Aside0 (((w197.setCell ⟨gb119, 0, none⟩ (.int .i64 t116)).setCell ⟨gb119, 1, none⟩ (.int .i64 t117)).heap[gb102]? = some (.cells #[.int .i64 a3_0, .int .i64 a3_1, .string a3_2] 26 (0, 0))) := ⟨by (with_reducible skip); refine blk_far ?_ NB102_119.out _; (with_reducible skip); refine blk_far ?_ NB102_119.out _; (with_reducible skip); exact BK102.out⟩
        have n3_ : Aside0 (((w197.setCell ⟨gb119, 0, none⟩ (.int .i64 t116)).setCell ⟨gb119, 1, none⟩ (.int .i64 t117)).heap[gb111]? = some (.cells #[.int .i64 t108, .int .i64 t109] 32 (0, 0))) := ⟨by (with_reducible skip); refine blk_far ?_ NB111_119.out _; (with_reducible skip); refine blk_far ?_ NB111_119.out _; (with_reducible skip); exact BK111.out⟩
        have n4_ : Aside0 (((w197.setCell ⟨gb119, 0, none⟩ (.int .i64 t116)).setCell ⟨gb119, 1, none⟩ (.int .i64 t117)).heap[gb115]? = some (.cells #[.int .i64 t112, .int .i64 t113] 32 (0, 0))) := ⟨by (with_reducible skip); refine blk_far ?_ NB115_119.out _; (with_reducible skip); refine blk_far ?_ NB115_119.out _; (with_reducible skip); exact BK115.out⟩
        have n5_ : Aside0 (((w197.setCell ⟨gb119, 0, none⟩ (.int .i64 t116)).setCell ⟨gb119, 1, none⟩ (.int .i64 t117)).heap[gb119]? = some (.cells #[.int .i64 t116, .int .i64 t117] 32 (0, 0))) := ⟨by (with_reducible skip); refine blk_put (cs := #[.int .i64 t116, .int .i64 0]) ?_ 1 _ rfl; (with_reducible skip); refine blk_put (cs := #[.int .i64 0, .int .i64 0]) ?_ 0 _ rfl; (with_reducible skip); exact BK119.out⟩
        have n6_ : Aside0 (Below w.heap.size w ((w197.setCell ⟨gb119, 0, none⟩ (.int .i64 t116)).setCell ⟨gb119, 1, none⟩ (.int .i64 t117))) := ⟨by repeat ((with_reducible first | exact HB.out | refine below_set ?_ GE119.out))⟩
        (try clear HO106)
        (try clear BK101)
        (try clear BK102)
        (try clear BK111)
        (try clear BK115)
        (try clear BK119)
        (try clear HB)
        generalize ((w197.setCell ⟨gb119, 0, none⟩ (.int .i64 t116)).setCell ⟨gb119, 1, none⟩ (.int .i64 t117)) = w205 at n0_ n1_ n2_ n3_ n4_ n5_ n6_ ⊢
        have HO106 := n0_
        have BK101 := n1_
        have BK102 := n2_
        have BK111 := n3_
        have BK115 := n4_
        have BK119 := n5_
        have HB := n6_
        clear n0_ n1_ n2_ n3_ n4_ n5_ n6_
        have n0_ := Aside0.mk (Kd.R_drew HO106.out)
        have n1_ := Aside0.mk (blk_drew BK101.out)
        have n2_ := Aside0.mk (blk_drew BK102.out)
        have n3_ := Aside0.mk (blk_drew BK111.out)
        have n4_ := Aside0.mk (blk_drew BK115.out)
        have n5_ := Aside0.mk (blk_drew BK119.out)
        have n6_ := Aside0.mk (below_drew1 HB.out)
        clear HO106
        clear BK101
        clear BK102
        clear BK111
        clear BK115
        clear BK119
        clear HB
        have HO106 := n0_
        have BK101 := n1_
        have BK102 := n2_
        have BK111 := n3_
        have BK115 := n4_
        have BK119 := n5_
        have HB := n6_
        clear n0_ n1_ n2_ n3_ n4_ n5_ n6_
        refine start_ (n := 16) (S := fun w' => w'.cell? ⟨gb119, 0, none⟩ = some (.int .i64 t116) ∧ w'.cell? ⟨gb119, 1, none⟩ = some (.int .i64 t117) ∧ w'.cell? ⟨gb101, 0, none⟩ = some (.int .i64 a2_0) ∧ w'.cell? ⟨gb101, 1, none⟩ = some (.int .i64 a2_1) ∧ w'.cell? ⟨gb101, 2, none⟩ = some (.string a2_2)) (ds := []) #[false, false, false, false, false, false, false, false, false, false, false, false, false, false, false, false] (by kernel_rfl) rfl rfl ⟨(blk_cell BK119.out 0).trans rfl, (blk_cell BK119.out 1).trans rfl, (blk_cell BK101.out 0).trans rfl, (blk_cell BK101.out 1).trans rfl, (blk_cell BK101.out 2).trans rfl⟩ (fun hHeld => ?_); refine with_tabW cleanselaw04_MeasureValues.tab9 cleanselaw04_MeasureValues.bits9 (fun HT_ HW_ => ?_)
        generalize w205.drew = w206 at HO106 BK101 BK102 BK111 BK115 BK119 HB hHeld ⊢
        refine pure_ (i := 0) (N := some 66) (v := ?_) (a' := ?_) #[true, false, false, false, false, false, false, false, false, false, false, false, false, false, false, false] rfl rfl (any_of HT_.out (by kernel_rfl)) (fun _ _ _ h => h) (Or.inl ⟨by rfl, ?_⟩) ?_ ?_
        rotate_left
        ·intro w'
         go_simp
         with_reducible rfl
        rotate_left
        ·simp only [Act.put, List.setIfInBounds_toArray, List.set_cons_zero, List.set_cons_succ, i64_w, i32_w]
         rfl
        refine pure_ (i := 1) (N := some 67) (v := ?_) (a' := ?_) #[true, true, false, false, false, false, false, false, false, false, false, false, false, false, false, false] rfl rfl (any_of HT_.out (by kernel_rfl)) (fun _ _ _ h => h) (Or.inl ⟨by rfl, ?_⟩) ?_ ?_
        rotate_left
        ·intro w'
         go_simp
         with_reducible rfl
        rotate_left
        ·simp only [Act.put, List.setIfInBounds_toArray, List.set_cons_zero, List.set_cons_succ, i64_w, i32_w]
         rfl
        refine pure_ (i := 2) (N := some 68) (v := ?_) (a' := ?_) #[true, true, true, false, false, false, false, false, false, false, false, false, false, false, false, false] rfl rfl (any_of HT_.out (by kernel_rfl)) (fun _ _ _ h => h) (Or.inl ⟨by rfl, ?_⟩) ?_ ?_
        rotate_left
        ·intro w'
         go_simp
         with_reducible rfl
        rotate_left
        ·simp only [Act.put, List.setIfInBounds_toArray, List.set_cons_zero, List.set_cons_succ, i64_w, i32_w]
         rfl
        refine pure_ (i := 3) (N := some 69) (v := ?_) (a' := ?_) #[true, true, true, true, false, false, false, false, false, false, false, false, false, false, false, false] rfl rfl (any_of HT_.out (by kernel_rfl)) (fun _ _ _ h => h) (Or.inl ⟨by rfl, ?_⟩) ?_ ?_
        rotate_left
        ·intro w'
         go_simp
         with_reducible rfl
        rotate_left
        ·simp only [Act.put, List.setIfInBounds_toArray, List.set_cons_zero, List.set_cons_succ, i64_w, i32_w]
         rfl
        refine pure_ (i := 4) (N := some 70) (v := ?_) (a' := ?_) #[true, true, true, true, true, false, false, false, false, false, false, false, false, false, false, false] rfl rfl (any_of HT_.out (by kernel_rfl)) (fun _ _ _ h => h) (Or.inl ⟨by rfl, ?_⟩) ?_ ?_
        rotate_left
        ·intro w'
         go_simp
         with_reducible rfl
        rotate_left
        ·simp only [Act.put, List.setIfInBounds_toArray, List.set_cons_zero, List.set_cons_succ, i64_w, i32_w]
         rfl
        refine take_ (i := 5) (N := some 71) (v := ?_) (a' := ?_) #[true, true, true, true, true, true, false, false, false, false, false, false, false, false, false, false] rfl rfl (take_ofW HT_.out HW_.out (by kernel_rfl)) (fun _ _ _ h => h) (Or.inl ⟨by rfl, ?_⟩) hHeld ?_ ?_
        rotate_left
        ·rintro w' ⟨s0, s1, s2, s3, s4⟩
         go_simp
         with_reducible rfl
        rotate_left
        ·simp only [Act.put, List.setIfInBounds_toArray, List.set_cons_zero, List.set_cons_succ, i64_w, i32_w]
         rfl
        refine one_ (i := 6) (N := some 72) #[true, true, true, true, true, true, true, false, false, false, false, false, false, false, false, false] rfl rfl (one_of HT_.out (by kernel_rfl)) (by decide) (fun K hK => ?_)
        refine goes_ Tryd.func27 (by kernel_rfl) rfl #[.int .i64 1, .int .i64 1] (by rfl) rfl rfl (by (try simp only [List.map_toArray, List.map_cons, List.map_nil]); rfl) ?_
        with_reducible refine (cleanselaw04_of.calls 1 1 t123 t124 _ A132.out).mono ?_
        rintro e w207 ⟨rfl, hb⟩
        refine ⟨_, rfl, ?_⟩
        have n0_ := Aside0.mk (Kd.R_below (by (with_reducible skip); exact HO106.out) hb)
        have n1_ := Aside0.mk (blk_below (g := gb101) (o := .cells #[.int .i64 a2_0, .int .i64 a2_1, .string a2_2] 26 (0, 0)) (by (with_reducible skip); exact BK101.out) hb)
        have n2_ := Aside0.mk (blk_below (g := gb102) (o := .cells #[.int .i64 a3_0, .int .i64 a3_1, .string a3_2] 26 (0, 0)) (by (with_reducible skip); exact BK102.out) hb)
        have n3_ := Aside0.mk (blk_below (g := gb111) (o := .cells #[.int .i64 t108, .int .i64 t109] 32 (0, 0)) (by (with_reducible skip); exact BK111.out) hb)
        have n4_ := Aside0.mk (blk_below (g := gb115) (o := .cells #[.int .i64 t112, .int .i64 t113] 32 (0, 0)) (by (with_reducible skip); exact BK115.out) hb)
        have n5_ := Aside0.mk (blk_below (g := gb119) (o := .cells #[.int .i64 t116, .int .i64 t117] 32 (0, 0)) (by (with_reducible skip); exact BK119.out) hb)
        have n6_ := Aside0.mk (below_step (by repeat ((with_reducible (exact HB.out)))) hb)
        clear HO106
        clear BK101
        clear BK102
        clear BK111
        clear BK115
        clear BK119
        clear HB
        have HO106 := n0_
        have BK101 := n1_
        have BK102 := n2_
        have BK111 := n3_
        have BK115 := n4_
        have BK119 := n5_
        have HB := n6_
        clear n0_ n1_ n2_ n3_ n4_ n5_ n6_
        (try clear hb)
        refine hK.out _ _ ⟨(blk_cell BK119.out 0).trans rfl, (blk_cell BK119.out 1).trans rfl, (blk_cell BK101.out 0).trans rfl, (blk_cell BK101.out 1).trans rfl, (blk_cell BK101.out 2).trans rfl⟩ (fun hHeld => ?_)
        clear hK K
        refine norm_ (a' := ?_) ?_ ?_
        rotate_left
        ·show Act.put _ (some 72) _ = _
         simp only [Act.put, List.setIfInBounds_toArray, List.set_cons_zero, List.set_cons_succ, i64_w, i32_w]
         rfl
        refine pure_ (i := 7) (N := some 73) (v := ?_) (a' := ?_) #[true, true, true, true, true, true, true, true, false, false, false, false, false, false, false, false] rfl rfl (any_of HT_.out (by kernel_rfl)) (fun _ _ _ h => h) (Or.inl ⟨by rfl, ?_⟩) ?_ ?_
        rotate_left
        ·intro w'
         go_simp
         with_reducible rfl
        rotate_left
        ·simp only [Act.put, List.setIfInBounds_toArray, List.set_cons_zero, List.set_cons_succ, i64_w, i32_w]
         rfl
        refine pure_ (i := 8) (N := some 74) (v := ?_) (a' := ?_) #[true, true, true, true, true, true, true, true, true, false, false, false, false, false, false, false] rfl rfl (any_of HT_.out (by kernel_rfl)) (fun _ _ _ h => h) (Or.inl ⟨by rfl, ?_⟩) ?_ ?_
        rotate_left
        ·intro w'
         go_simp
         with_reducible rfl
        rotate_left
        ·simp only [Act.put, List.setIfInBounds_toArray, List.set_cons_zero, List.set_cons_succ, i64_w, i32_w]
         rfl
        refine pure_ (i := 9) (N := some 75) (v := ?_) (a' := ?_) #[true, true, true, true, true, true, true, true, true, true, false, false, false, false, false, false] rfl rfl (any_of HT_.out (by kernel_rfl)) (fun _ _ _ h => h) (Or.inl ⟨by rfl, ?_⟩) ?_ ?_
        rotate_left
        ·intro w'
         go_simp
         with_reducible rfl
        rotate_left
        ·simp only [Act.put, List.setIfInBounds_toArray, List.set_cons_zero, List.set_cons_succ, i64_w, i32_w]
         rfl
        refine pure_ (i := 10) (N := some 76) (v := ?_) (a' := ?_) #[true, true, true, true, true, true, true, true, true, true, true, false, false, false, false, false] rfl rfl (any_of HT_.out (by kernel_rfl)) (fun _ _ _ h => h) (Or.inl ⟨by rfl, ?_⟩) ?_ ?_
        rotate_left
        ·intro w'
         go_simp
         with_reducible rfl
        rotate_left
        ·simp only [Act.put, List.setIfInBounds_toArray, List.set_cons_zero, List.set_cons_succ, i64_w, i32_w]
         rfl
        refine take_ (i := 11) (N := some 77) (v := ?_) (a' := ?_) #[true, true, true, true, true, true, true, true, true, true, true, true, false, false, false, false] rfl rfl (take_ofW HT_.out HW_.out (by kernel_rfl)) (fun _ _ _ h => h) (Or.inl ⟨by rfl, ?_⟩) hHeld ?_ ?_
        rotate_left
        ·rintro w' ⟨s0, s1, s2, s3, s4⟩
         go_simp
         with_reducible rfl
        rotate_left
        ·simp only [Act.put, List.setIfInBounds_toArray, List.set_cons_zero, List.set_cons_succ, i64_w, i32_w]
         rfl
        refine pure_ (i := 12) (N := some 78) (v := ?_) (a' := ?_) #[true, true, true, true, true, true, true, true, true, true, true, true, true, false, false, false] rfl rfl (any_of HT_.out (by kernel_rfl)) (fun _ _ _ h => h) (Or.inl ⟨by rfl, ?_⟩) ?_ ?_
        rotate_left
        ·intro w'
         go_simp
         with_reducible rfl
        rotate_left
        ·simp only [Act.put, List.setIfInBounds_toArray, List.set_cons_zero, List.set_cons_succ, i64_w, i32_w]
         rfl
        refine pure_ (i := 13) (N := some 79) (v := ?_) (a' := ?_) #[true, true, true, true, true, true, true, true, true, true, true, true, true, true, false, false] rfl rfl (any_of HT_.out (by kernel_rfl)) (fun _ _ _ h => h) (Or.inl ⟨by rfl, ?_⟩) ?_ ?_
        rotate_left
        ·intro w'
         go_simp
         with_reducible rfl
        rotate_left
        ·simp only [Act.put, List.setIfInBounds_toArray, List.set_cons_zero, List.set_cons_succ, i64_w, i32_w]
         rfl
        refine pure_ (i := 14) (N := some 80) (v := ?_) (a' := ?_) #[true, true, true, true, true, true, true, true, true, true, true, true, true, true, true, false] rfl rfl (any_of HT_.out (by kernel_rfl)) (fun _ _ _ h => h) (Or.inl ⟨by rfl, ?_⟩) ?_ ?_
        rotate_left
        ·intro w'
         go_simp
         with_reducible rfl
        rotate_left
        ·simp only [Act.put, List.setIfInBounds_toArray, List.set_cons_zero, List.set_cons_succ, i64_w, i32_w]
         rfl
        refine pure_ (i := 15) (N := some 8) (v := ?_) (a' := ?_) #[true, true, true, true, true, true, true, true, true, true, true, true, true, true, true, true] rfl rfl (any_of HT_.out (by kernel_rfl)) (fun _ _ _ h => h) (Or.inl ⟨by rfl, ?_⟩) ?_ ?_
        rotate_left
        ·intro w'
         go_simp
         with_reducible rfl
        rotate_left
        ·simp only [Act.put, List.setIfInBounds_toArray, List.set_cons_zero, List.set_cons_succ, i64_w, i32_w]
         rfl
        refine done_ (done_of HT_.out (by kernel_rfl)) ?_
        try go_wp2
        go_ret
        exact ⟨by rfl, by repeat ((with_reducible (exact HB.out)))⟩
      ·rw [if_neg c131] at H
       have c131b0 : (t118 == 0) = false := beq_eq_false_iff_ne.mpr c131
       have c131b1 : (t118 != 0) = true := bne_iff_ne.mpr c131
       obtain rfl := Option.some.inj H
       go_enter Tryd.func8, Tryd.ntmps8
       try go_wp2_with (first | ((with_reducible refine gate_dst (N := 6) rfl ?_); refine box_event ?hg (N := 6) ?hd (cs := #[.int .i64 a2_0, .int .i64 a2_1, .string a2_2]) (t := 26) ?hr ?_; (case hd => rfl); (case hg => rfl); (case hr => (go_simp; done)); intro gb101 hg w208 hbox hb; have n0_ := Aside0.mk (below_step (by repeat ((with_reducible (exact HB.out)))) hb); have n1_ := Aside0.mk (hbox); have n2_ := Aside0.mk ((by rw [hg]; exact (below_size (by repeat ((with_reducible (exact HB.out))))) : w.heap.size ≤ gb101)); have n3_ := Aside0.mk ((by rw [hg]; exact (below_size (by repeat ((with_reducible (exact HB.out))))) : w.heap.size ≤ gb101)); clear HB; have HB := n0_; have BK101 := n1_; have GW101 := n2_; have GE101 := n3_; clear n0_ n1_ n2_ n3_; clear hb hbox hg) | ((with_reducible refine gate_dst (N := 7) rfl ?_); refine box_event ?hg (N := 7) ?hd (cs := #[.int .i64 a3_0, .int .i64 a3_1, .string a3_2]) (t := 26) ?hr ?_; (case hd => rfl); (case hg => rfl); (case hr => (go_simp; done)); intro gb102 hg w209 hbox hb; have n0_ := Aside0.mk (blk_below (g := gb101) (o := .cells #[.int .i64 a2_0, .int .i64 a2_1, .string a2_2] 26 (0, 0)) (by (with_reducible skip); exact BK101.out) hb); have n1_ := Aside0.mk (below_step (by repeat ((with_reducible (exact HB.out)))) hb); have n2_ := Aside0.mk (hbox); have n3_ := Aside0.mk ((by rw [hg]; exact (below_size (by repeat ((with_reducible (exact HB.out))))) : w.heap.size ≤ gb102)); have n4_ := Aside0.mk ((by rw [hg]; exact (below_size (by repeat ((with_reducible (exact HB.out))))) : w.heap.size ≤ gb102)); have n5_ := Aside0.mk ((by rw [hg]; exact Nat.ne_of_lt (blk_lt (g := gb101) (o := .cells #[.int .i64 a2_0, .int .i64 a2_1, .string a2_2] 26 (0, 0)) (by (with_reducible skip); exact BK101.out)) : gb101 ≠ gb102)); have n6_ := Aside0.mk ((by rw [hg]; exact Nat.ne_of_gt (blk_lt (g := gb101) (o := .cells #[.int .i64 a2_0, .int .i64 a2_1, .string a2_2] 26 (0, 0)) (by (with_reducible skip); exact BK101.out)) : gb102 ≠ gb101)); clear BK101; clear HB; have BK101 := n0_; have HB := n1_; have BK102 := n2_; have GW102 := n3_; have GE102 := n4_; have NB101_102 := n5_; have NB102_101 := n6_; clear n0_ n1_ n2_ n3_ n4_ n5_ n6_; clear hb hbox hg) | ((with_reducible refine gate_callee (f := 11) rfl ?_); refine goesL_ (some 16) rfl rfl Tryd.func11 (by kernel_rfl) rfl #[] rfl (by (try simp only [List.map_toArray, List.map_cons, List.map_nil]); done) ?_; (with_reducible refine (cleanselaw04_head.calls  true _ ?sGl A5.out).mono ?_); (case sGl => exact Gl.below HGl.out (by repeat ((with_reducible (exact HB.out))))); rintro e w210 ⟨rfl, hb⟩; refine ⟨_, rfl, ?_⟩; have n0_ := Aside0.mk (blk_below (g := gb101) (o := .cells #[.int .i64 a2_0, .int .i64 a2_1, .string a2_2] 26 (0, 0)) (by (with_reducible skip); exact BK101.out) hb); have n1_ := Aside0.mk (blk_below (g := gb102) (o := .cells #[.int .i64 a3_0, .int .i64 a3_1, .string a3_2] 26 (0, 0)) (by (with_reducible skip); exact BK102.out) hb); have n2_ := Aside0.mk (below_step (by repeat ((with_reducible (exact HB.out)))) hb); clear BK101; clear BK102; clear HB; have BK101 := n0_; have BK102 := n1_; have HB := n2_; clear n0_ n1_ n2_; (try clear hb); have hnb211 := NB101_102.out; have hnc211 := NB102_101.out; have hcz212_0 : w210.cell? ⟨gb101, 0, none⟩ = some (.int .i64 a2_0) := (blk_cell BK101.out 0).trans rfl; have hcz212_1 : w210.cell? ⟨gb101, 1, none⟩ = some (.int .i64 a2_1) := (blk_cell BK101.out 1).trans rfl; have hcz212_2 : w210.cell? ⟨gb101, 2, none⟩ = some (.string a2_2) := (blk_cell BK101.out 2).trans rfl; have hfz212_0 := blk_frozen BK101.out 0; have hfz212_1 := blk_frozen BK101.out 1; have hfz212_2 := blk_frozen BK101.out 2; have hcz213_0 : w210.cell? ⟨gb102, 0, none⟩ = some (.int .i64 a3_0) := (blk_cell BK102.out 0).trans rfl; have hcz213_1 : w210.cell? ⟨gb102, 1, none⟩ = some (.int .i64 a3_1) := (blk_cell BK102.out 1).trans rfl; have hcz213_2 : w210.cell? ⟨gb102, 2, none⟩ = some (.string a3_2) := (blk_cell BK102.out 2).trans rfl; have hfz213_0 := blk_frozen BK102.out 0; have hfz213_1 := blk_frozen BK102.out 1; have hfz213_2 := blk_frozen BK102.out 2) | ((with_reducible refine gate_dst (N := 21) rfl ?_); refine Kd.R_lit Kd.string _ 9 ?hg (N := 21) ?hd (xs := ([a2_2, a3_2] : List ByteArray)) (inner := [.string a2_2, .string a3_2]) (ok := fun _ => True) (okp := fun _ => True) ?hr ?hp (fun _ hk => hk) trivial (Below.refl _ _) (Nat.le_refl _) (by simp) ?_; (case hd => rfl); (case hg => rfl); (case hr => (go_simp; done)); (case hp => exact (Reps.one (show Kd.M Kd.string _ _ _ a2_2 [.string a2_2] from rfl) (Reps.one (show Kd.M Kd.string _ _ _ a3_2 [.string a3_2] from rfl) (Reps.none _ _)))); intro v105 w214 ho215 hb hg_ hnew_; clear hg_ hnew_; ((rw [← Ny104.out] at ho215)); have n0_ := Aside0.mk (Kd.R_lower ho215 (below_size (by repeat ((with_reducible (exact HB.out)))))); have n1_ := Aside0.mk (blk_below (g := gb101) (o := .cells #[.int .i64 a2_0, .int .i64 a2_1, .string a2_2] 26 (0, 0)) (by (with_reducible skip); exact BK101.out) hb); have n2_ := Aside0.mk (blk_below (g := gb102) (o := .cells #[.int .i64 a3_0, .int .i64 a3_1, .string a3_2] 26 (0, 0)) (by (with_reducible skip); exact BK102.out) hb); have n3_ := Aside0.mk (below_step (by repeat ((with_reducible (exact HB.out)))) hb); clear BK101; clear BK102; clear HB; have HO106 := n0_; have BK101 := n1_; have BK102 := n2_; have HB := n3_; clear n0_ n1_ n2_ n3_; clear hb ho215; obtain ⟨Ao216, co216, eo216⟩ := Kd.R_slice HO106.out; subst eo216) | ((with_reducible refine gate_callee (f := 13) rfl ?_); refine goesL_ (some 22) rfl rfl Tryd.func13 (by kernel_rfl) rfl #[.int .i64 200, .slice Ao216 y104.length co216] rfl (by (try simp only [List.map_toArray, List.map_cons, List.map_nil]); rfl) ?_; (with_reducible refine (cleanseref04_Short.calls k 200 _ _ y104 true _ ?side1 ?side2 A6.out).mono ?_); (case side1 => repeat ((exact (Kd.R_reads' HO106.out).2.2))); (case side2 => exact (Kd.R_reads' HO106.out).2.1); rintro e w' ⟨rfl, ⟨nd, rfl⟩⟩; refine ⟨_, rfl, ?_⟩; (try (rw [drewN_self w214]; generalize hq_ : World.drewN w214 _ = w214; have n0_ : Aside0 (Kd.R Kd.string 9 w214 w.heap.size (fun _ => True) (.slice Ao216 y104.length co216) y104) := ⟨by rw [← hq_]; exact (by (with_reducible repeat ((apply Kd.R_drewN))); exact HO106.out)⟩; have n1_ : Aside0 (w214.heap[gb101]? = some (.cells #[.int .i64 a2_0, .int .i64 a2_1, .string a2_2] 26 (0, 0))) := ⟨by rw [← hq_]; exact (by (with_reducible repeat ((refine blk_drewN ?_ _))); exact BK101.out)⟩; have n2_ : Aside0 (w214.heap[gb102]? = some (.cells #[.int .i64 a3_0, .int .i64 a3_1, .string a3_2] 26 (0, 0))) := ⟨by rw [← hq_]; exact (by (with_reducible repeat ((refine blk_drewN ?_ _))); exact BK102.out)⟩; have n3_ : Aside0 (Below w.heap.size w w214) := ⟨by rw [← hq_]; exact (by repeat ((with_reducible first | exact HB.out | apply pw_below_drewN)))⟩; clear HO106 BK101 BK102 HB hq_; have HO106 := n0_; have BK101 := n1_; have BK102 := n2_; have HB := n3_; clear n0_ n1_ n2_ n3_)); have hcz217_0 : w214.cell? ⟨gb101, 0, none⟩ = some (.int .i64 a2_0) := (blk_cell BK101.out 0).trans rfl; have hcz217_1 : w214.cell? ⟨gb101, 1, none⟩ = some (.int .i64 a2_1) := (blk_cell BK101.out 1).trans rfl; have hcz217_2 : w214.cell? ⟨gb101, 2, none⟩ = some (.string a2_2) := (blk_cell BK101.out 2).trans rfl; have hfz217_0 := blk_frozen BK101.out 0; have hfz217_1 := blk_frozen BK101.out 1; have hfz217_2 := blk_frozen BK101.out 2; have hcz218_0 : w214.cell? ⟨gb102, 0, none⟩ = some (.int .i64 a3_0) := (blk_cell BK102.out 0).trans rfl; have hcz218_1 : w214.cell? ⟨gb102, 1, none⟩ = some (.int .i64 a3_1) := (blk_cell BK102.out 1).trans rfl; have hcz218_2 : w214.cell? ⟨gb102, 2, none⟩ = some (.string a3_2) := (blk_cell BK102.out 2).trans rfl; have hfz218_0 := blk_frozen BK102.out 0; have hfz218_1 := blk_frozen BK102.out 1; have hfz218_2 := blk_frozen BK102.out 2) | ((with_reducible refine gate_callee (f := 20) rfl ?_); refine goesL_ (some 30) rfl rfl Tryd.func20 (by kernel_rfl) rfl #[.int .i64 a0, .int .i64 a1, .agg #[.int .i64 a2_0, .int .i64 a2_1, .string a2_2], .agg #[.int .i64 a3_0, .int .i64 a3_1, .string a3_2]] rfl (by (try simp only [List.map_toArray, List.map_cons, List.map_nil]); rfl) ?_; (with_reducible refine (measure_Of.calls k a0 a1 a2_0 a2_1 a2_2 a3_0 a3_1 a3_2 t108 t109 t110 _ ?sGl A8.out).mono ?_); (case sGl => exact Gl.below HGl.out (by repeat ((with_reducible (exact HB.out))))); rintro e w219 ⟨rfl, hb⟩; refine ⟨_, rfl, ?_⟩; have n0_ := Aside0.mk (Kd.R_below (by (with_reducible skip); exact HO106.out) hb); have n1_ := Aside0.mk (blk_below (g := gb101) (o := .cells #[.int .i64 a2_0, .int .i64 a2_1, .string a2_2] 26 (0, 0)) (by (with_reducible skip); exact BK101.out) hb); have n2_ := Aside0.mk (blk_below (g := gb102) (o := .cells #[.int .i64 a3_0, .int .i64 a3_1, .string a3_2] 26 (0, 0)) (by (with_reducible skip); exact BK102.out) hb); have n3_ := Aside0.mk (below_step (by repeat ((with_reducible (exact HB.out)))) hb); clear HO106; clear BK101; clear BK102; clear HB; have HO106 := n0_; have BK101 := n1_; have BK102 := n2_; have HB := n3_; clear n0_ n1_ n2_ n3_; (try clear hb)) | ((with_reducible refine gate_dst (N := 10) rfl ?_); refine box_event ?hg (N := 10) ?hd (cs := #[.int .i64 0, .int .i64 0]) (t := 32) ?hr ?_; (case hd => rfl); (case hg => rfl); (case hr => (go_simp; done)); intro gb111 hg w220 hbox hb; have n0_ := Aside0.mk (Kd.R_below (by (with_reducible skip); exact HO106.out) hb); have n1_ := Aside0.mk (blk_below (g := gb101) (o := .cells #[.int .i64 a2_0, .int .i64 a2_1, .string a2_2] 26 (0, 0)) (by (with_reducible skip); exact BK101.out) hb); have n2_ := Aside0.mk (blk_below (g := gb102) (o := .cells #[.int .i64 a3_0, .int .i64 a3_1, .string a3_2] 26 (0, 0)) (by (with_reducible skip); exact BK102.out) hb); have n3_ := Aside0.mk (below_step (by repeat ((with_reducible (exact HB.out)))) hb); have n4_ := Aside0.mk (hbox); have n5_ := Aside0.mk ((by rw [hg]; exact (below_size (by repeat ((with_reducible (exact HB.out))))) : w.heap.size ≤ gb111)); have n6_ := Aside0.mk ((by rw [hg]; exact (below_size (by repeat ((with_reducible (exact HB.out))))) : w.heap.size ≤ gb111)); have n7_ := Aside0.mk ((by rw [hg]; exact Nat.ne_of_lt (blk_lt (g := gb101) (o := .cells #[.int .i64 a2_0, .int .i64 a2_1, .string a2_2] 26 (0, 0)) (by (with_reducible skip); exact BK101.out)) : gb101 ≠ gb111)); have n8_ := Aside0.mk ((by rw [hg]; exact Nat.ne_of_gt (blk_lt (g := gb101) (o := .cells #[.int .i64 a2_0, .int .i64 a2_1, .string a2_2] 26 (0, 0)) (by (with_reducible skip); exact BK101.out)) : gb111 ≠ gb101)); have n9_ := Aside0.mk ((by rw [hg]; exact Nat.ne_of_lt (blk_lt (g := gb102) (o := .cells #[.int .i64 a3_0, .int .i64 a3_1, .string a3_2] 26 (0, 0)) (by (with_reducible skip); exact BK102.out)) : gb102 ≠ gb111)); have n10_ := Aside0.mk ((by rw [hg]; exact Nat.ne_of_gt (blk_lt (g := gb102) (o := .cells #[.int .i64 a3_0, .int .i64 a3_1, .string a3_2] 26 (0, 0)) (by (with_reducible skip); exact BK102.out)) : gb111 ≠ gb102)); clear HO106; clear BK101; clear BK102; clear HB; have HO106 := n0_; have BK101 := n1_; have BK102 := n2_; have HB := n3_; have BK111 := n4_; have GW111 := n5_; have GE111 := n6_; have NB101_111 := n7_; have NB111_101 := n8_; have NB102_111 := n9_; have NB111_102 := n10_; clear n0_ n1_ n2_ n3_ n4_ n5_ n6_ n7_ n8_ n9_ n10_; clear hb hbox hg; have hnb221 := NB111_101.out; have hnc221 := NB101_111.out; have hnb222 := NB111_102.out; have hnc222 := NB102_111.out; have hcz223_0 : w220.cell? ⟨gb111, 0, none⟩ = some (.int .i64 0) := (blk_cell BK111.out 0).trans rfl; have hcz223_1 : w220.cell? ⟨gb111, 1, none⟩ = some (.int .i64 0) := (blk_cell BK111.out 1).trans rfl; have hfz223_0 := blk_frozen BK111.out 0; have hfz223_1 := blk_frozen BK111.out 1; have hcz224_0 : w220.cell? ⟨gb102, 0, none⟩ = some (.int .i64 a3_0) := (blk_cell BK102.out 0).trans rfl; have hcz224_1 : w220.cell? ⟨gb102, 1, none⟩ = some (.int .i64 a3_1) := (blk_cell BK102.out 1).trans rfl; have hcz224_2 : w220.cell? ⟨gb102, 2, none⟩ = some (.string a3_2) := (blk_cell BK102.out 2).trans rfl; have hfz224_0 := blk_frozen BK102.out 0; have hfz224_1 := blk_frozen BK102.out 1; have hfz224_2 := blk_frozen BK102.out 2; have hcz225_0 : w220.cell? ⟨gb101, 0, none⟩ = some (.int .i64 a2_0) := (blk_cell BK101.out 0).trans rfl; have hcz225_1 : w220.cell? ⟨gb101, 1, none⟩ = some (.int .i64 a2_1) := (blk_cell BK101.out 1).trans rfl; have hcz225_2 : w220.cell? ⟨gb101, 2, none⟩ = some (.string a2_2) := (blk_cell BK101.out 2).trans rfl; have hfz225_0 := blk_frozen BK101.out 0; have hfz225_1 := blk_frozen BK101.out 1; have hfz225_2 := blk_frozen BK101.out 2) | ((with_reducible refine gate_callee (f := 20) rfl ?_); refine goesL_ (some 38) rfl rfl Tryd.func20 (by kernel_rfl) rfl #[.int .i64 a0, .int .i64 a1, .agg #[.int .i64 a3_0, .int .i64 a3_1, .string a3_2], .agg #[.int .i64 a2_0, .int .i64 a2_1, .string a2_2]] rfl (by (try simp only [List.map_toArray, List.map_cons, List.map_nil]); rfl) ?_; (with_reducible refine (measure_Of.calls k a0 a1 a3_0 a3_1 a3_2 a2_0 a2_1 a2_2 t112 t113 t114 _ ?sGl A9.out).mono ?_); (case sGl => exact Gl.below HGl.out (by repeat ((with_reducible first | exact HB.out | refine below_set ?_ (Aside0.out (by assumption)))))); rintro e w226 ⟨rfl, hb⟩; refine ⟨_, rfl, ?_⟩; have n0_ := Aside0.mk (Kd.R_below (by (with_reducible skip); exact (Kd.R_mono (Kd.R_far (p := ⟨gb111, 1, none⟩) (Kd.R_far (p := ⟨gb111, 0, none⟩) (Kd.R_types HO106.out BK111.out (by decide)) (fun _ hk => hk.2) (.int .i64 t108)) (fun _ hk => hk.2) (.int .i64 t109)) (fun _ h_ => h_.1))) hb); have n1_ := Aside0.mk (blk_below (g := gb101) (o := .cells #[.int .i64 a2_0, .int .i64 a2_1, .string a2_2] 26 (0, 0)) (by (with_reducible skip); refine blk_far ?_ NB101_111.out _; (with_reducible skip); refine blk_far ?_ NB101_111.out _; (with_reducible skip); exact BK101.out) hb); have n2_ := Aside0.mk (blk_below (g := gb102) (o := .cells #[.int .i64 a3_0, .int .i64 a3_1, .string a3_2] 26 (0, 0)) (by (with_reducible skip); refine blk_far ?_ NB102_111.out _; (with_reducible skip); refine blk_far ?_ NB102_111.out _; (with_reducible skip); exact BK102.out) hb); have n3_ := Aside0.mk (blk_below (g := gb111) (o := .cells #[.int .i64 t108, .int .i64 t109] 32 (0, 0)) (by (with_reducible skip); refine blk_put (cs := #[.int .i64 t108, .int .i64 0]) ?_ 1 _ rfl; (with_reducible skip); refine blk_put (cs := #[.int .i64 0, .int .i64 0]) ?_ 0 _ rfl; (with_reducible skip); exact BK111.out) hb); have n4_ := Aside0.mk (below_step (by repeat ((with_reducible first | exact HB.out | refine below_set ?_ GE111.out))) hb); clear HO106; clear BK101; clear BK102; clear BK111; clear HB; have HO106 := n0_; have BK101 := n1_; have BK102 := n2_; have BK111 := n3_; have HB := n4_; clear n0_ n1_ n2_ n3_ n4_; (try clear hb)) | ((with_reducible refine gate_dst (N := 12) rfl ?_); refine box_event ?hg (N := 12) ?hd (cs := #[.int .i64 0, .int .i64 0]) (t := 32) ?hr ?_; (case hd => rfl); (case hg => rfl); (case hr => (go_simp; done)); intro gb115 hg w227 hbox hb; have n0_ := Aside0.mk (Kd.R_below (by (with_reducible skip); exact HO106.out) hb); have n1_ := Aside0.mk (blk_below (g := gb101) (o := .cells #[.int .i64 a2_0, .int .i64 a2_1, .string a2_2] 26 (0, 0)) (by (with_reducible skip); exact BK101.out) hb); have n2_ := Aside0.mk (blk_below (g := gb102) (o := .cells #[.int .i64 a3_0, .int .i64 a3_1, .string a3_2] 26 (0, 0)) (by (with_reducible skip); exact BK102.out) hb); have n3_ := Aside0.mk (blk_below (g := gb111) (o := .cells #[.int .i64 t108, .int .i64 t109] 32 (0, 0)) (by (with_reducible skip); exact BK111.out) hb); have n4_ := Aside0.mk (below_step (by repeat ((with_reducible (exact HB.out)))) hb); have n5_ := Aside0.mk (hbox); have n6_ := Aside0.mk ((by rw [hg]; exact (below_size (by repeat ((with_reducible (exact HB.out))))) : w.heap.size ≤ gb115)); have n7_ := Aside0.mk ((by rw [hg]; exact (below_size (by repeat ((with_reducible (exact HB.out))))) : w.heap.size ≤ gb115)); have n8_ := Aside0.mk ((by rw [hg]; exact Nat.ne_of_lt (blk_lt (g := gb101) (o := .cells #[.int .i64 a2_0, .int .i64 a2_1, .string a2_2] 26 (0, 0)) (by (with_reducible skip); exact BK101.out)) : gb101 ≠ gb115)); have n9_ := Aside0.mk ((by rw [hg]; exact Nat.ne_of_gt (blk_lt (g := gb101) (o := .cells #[.int .i64 a2_0, .int .i64 a2_1, .string a2_2] 26 (0, 0)) (by (with_reducible skip); exact BK101.out)) : gb115 ≠ gb101)); have n10_ := Aside0.mk ((by rw [hg]; exact Nat.ne_of_lt (blk_lt (g := gb102) (o := .cells #[.int .i64 a3_0, .int .i64 a3_1, .string a3_2] 26 (0, 0)) (by (with_reducible skip); exact BK102.out)) : gb102 ≠ gb115)); have n11_ := Aside0.mk ((by rw [hg]; exact Nat.ne_of_gt (blk_lt (g := gb102) (o := .cells #[.int .i64 a3_0, .int .i64 a3_1, .string a3_2] 26 (0, 0)) (by (with_reducible skip); exact BK102.out)) : gb115 ≠ gb102)); have n12_ := Aside0.mk ((by rw [hg]; exact Nat.ne_of_lt (blk_lt (g := gb111) (o := .cells #[.int .i64 t108, .int .i64 t109] 32 (0, 0)) (by (with_reducible skip); exact BK111.out)) : gb111 ≠ gb115)); have n13_ := Aside0.mk ((by rw [hg]; exact Nat.ne_of_gt (blk_lt (g := gb111) (o := .cells #[.int .i64 t108, .int .i64 t109] 32 (0, 0)) (by (with_reducible skip); exact BK111.out)) : gb115 ≠ gb111)); clear HO106; clear BK101; clear BK102; clear BK111; clear HB; have HO106 := n0_; have BK101 := n1_; have BK102 := n2_; have BK111 := n3_; have HB := n4_; have BK115 := n5_; have GW115 := n6_; have GE115 := n7_; have NB101_115 := n8_; have NB115_101 := n9_; have NB102_115 := n10_; have NB115_102 := n11_; have NB111_115 := n12_; have NB115_111 := n13_; clear n0_ n1_ n2_ n3_ n4_ n5_ n6_ n7_ n8_ n9_ n10_ n11_ n12_ n13_; clear hb hbox hg; have hnb228 := NB115_101.out; have hnc228 := NB101_115.out; have hnb229 := NB115_102.out; have hnc229 := NB102_115.out; have hnb230 := NB115_111.out; have hnc230 := NB111_115.out; have hcz231_0 : w227.cell? ⟨gb115, 0, none⟩ = some (.int .i64 0) := (blk_cell BK115.out 0).trans rfl; have hcz231_1 : w227.cell? ⟨gb115, 1, none⟩ = some (.int .i64 0) := (blk_cell BK115.out 1).trans rfl; have hfz231_0 := blk_frozen BK115.out 0; have hfz231_1 := blk_frozen BK115.out 1; have hcz232_0 : w227.cell? ⟨gb101, 0, none⟩ = some (.int .i64 a2_0) := (blk_cell BK101.out 0).trans rfl; have hcz232_1 : w227.cell? ⟨gb101, 1, none⟩ = some (.int .i64 a2_1) := (blk_cell BK101.out 1).trans rfl; have hcz232_2 : w227.cell? ⟨gb101, 2, none⟩ = some (.string a2_2) := (blk_cell BK101.out 2).trans rfl; have hfz232_0 := blk_frozen BK101.out 0; have hfz232_1 := blk_frozen BK101.out 1; have hfz232_2 := blk_frozen BK101.out 2) | ((with_reducible refine gate_callee (f := 20) rfl ?_); refine goesL_ (some 46) rfl rfl Tryd.func20 (by kernel_rfl) rfl #[.int .i64 a0, .int .i64 a1, .agg #[.int .i64 a2_0, .int .i64 a2_1, .string a2_2], .agg #[.int .i64 a2_0, .int .i64 a2_1, .string a2_2]] rfl (by (try simp only [List.map_toArray, List.map_cons, List.map_nil]); rfl) ?_; (with_reducible refine (measure_Of.calls k a0 a1 a2_0 a2_1 a2_2 a2_0 a2_1 a2_2 t116 t117 t118 _ ?sGl A10.out).mono ?_); (case sGl => exact Gl.below HGl.out (by repeat ((with_reducible first | exact HB.out | refine below_set ?_ (Aside0.out (by assumption)))))); rintro e w233 ⟨rfl, hb⟩; refine ⟨_, rfl, ?_⟩; have n0_ := Aside0.mk (Kd.R_below (by (with_reducible skip); exact (Kd.R_mono (Kd.R_far (p := ⟨gb115, 1, none⟩) (Kd.R_far (p := ⟨gb115, 0, none⟩) (Kd.R_types HO106.out BK115.out (by decide)) (fun _ hk => hk.2) (.int .i64 t112)) (fun _ hk => hk.2) (.int .i64 t113)) (fun _ h_ => h_.1))) hb); have n1_ := Aside0.mk (blk_below (g := gb101) (o := .cells #[.int .i64 a2_0, .int .i64 a2_1, .string a2_2] 26 (0, 0)) (by (with_reducible skip); refine blk_far ?_ NB101_115.out _; (with_reducible skip); refine blk_far ?_ NB101_115.out _; (with_reducible skip); exact BK101.out) hb); have n2_ := Aside0.mk (blk_below (g := gb102) (o := .cells #[.int .i64 a3_0, .int .i64 a3_1, .string a3_2] 26 (0, 0)) (by (with_reducible skip); refine blk_far ?_ NB102_115.out _; (with_reducible skip); refine blk_far ?_ NB102_115.out _; (with_reducible skip); exact BK102.out) hb); have n3_ := Aside0.mk (blk_below (g := gb111) (o := .cells #[.int .i64 t108, .int .i64 t109] 32 (0, 0)) (by (with_reducible skip); refine blk_far ?_ NB111_115.out _; (with_reducible skip); refine blk_far ?_ NB111_115.out _; (with_reducible skip); exact BK111.out) hb); have n4_ := Aside0.mk (blk_below (g := gb115) (o := .cells #[.int .i64 t112, .int .i64 t113] 32 (0, 0)) (by (with_reducible skip); refine blk_put (cs := #[.int .i64 t112, .int .i64 0]) ?_ 1 _ rfl; (with_reducible skip); refine blk_put (cs := #[.int .i64 0, .int .i64 0]) ?_ 0 _ rfl; (with_reducible skip); exact BK115.out) hb); have n5_ := Aside0.mk (below_step (by repeat ((with_reducible first | exact HB.out | refine below_set ?_ GE115.out))) hb); clear HO106; clear BK101; clear BK102; clear BK111; clear BK115; clear HB; have HO106 := n0_; have BK101 := n1_; have BK102 := n2_; have BK111 := n3_; have BK115 := n4_; have HB := n5_; clear n0_ n1_ n2_ n3_ n4_ n5_; (try clear hb)) | ((with_reducible refine gate_dst (N := 14) rfl ?_); refine box_event ?hg (N := 14) ?hd (cs := #[.int .i64 0, .int .i64 0]) (t := 32) ?hr ?_; (case hd => rfl); (case hg => rfl); (case hr => (go_simp; done)); intro gb119 hg w234 hbox hb; have n0_ := Aside0.mk (Kd.R_below (by (with_reducible skip); exact HO106.out) hb); have n1_ := Aside0.mk (blk_below (g := gb101) (o := .cells #[.int .i64 a2_0, .int .i64 a2_1, .string a2_2] 26 (0, 0)) (by (with_reducible skip); exact BK101.out) hb); have n2_ := Aside0.mk (blk_below (g := gb102) (o := .cells #[.int .i64 a3_0, .int .i64 a3_1, .string a3_2] 26 (0, 0)) (by (with_reducible skip); exact BK102.out) hb); have n3_ := Aside0.mk (blk_below (g := gb111) (o := .cells #[.int .i64 t108, .int .i64 t109] 32 (0, 0)) (by (with_reducible skip); exact BK111.out) hb); have n4_ := Aside0.mk (blk_below (g := gb115) (o := .cells #[.int .i64 t112, .int .i64 t113] 32 (0, 0)) (by (with_reducible skip); exact BK115.out) hb); have n5_ := Aside0.mk (below_step (by repeat ((with_reducible (exact HB.out)))) hb); have n6_ := Aside0.mk (hbox); have n7_ := Aside0.mk ((by rw [hg]; exact (below_size (by repeat ((with_reducible (exact HB.out))))) : w.heap.size ≤ gb119)); have n8_ := Aside0.mk ((by rw [hg]; exact (below_size (by repeat ((with_reducible (exact HB.out))))) : w.heap.size ≤ gb119)); have n9_ := Aside0.mk ((by rw [hg]; exact Nat.ne_of_lt (blk_lt (g := gb101) (o := .cells #[.int .i64 a2_0, .int .i64 a2_1, .string a2_2] 26 (0, 0)) (by (with_reducible skip); exact BK101.out)) : gb101 ≠ gb119)); have n10_ := Aside0.mk ((by rw [hg]; exact Nat.ne_of_gt (blk_lt (g := gb101) (o := .cells #[.int .i64 a2_0, .int .i64 a2_1, .string a2_2] 26 (0, 0)) (by (with_reducible skip); exact BK101.out)) : gb119 ≠ gb101)); have n11_ := Aside0.mk ((by rw [hg]; exact Nat.ne_of_lt (blk_lt (g := gb102) (o := .cells #[.int .i64 a3_0, .int .i64 a3_1, .string a3_2] 26 (0, 0)) (by (with_reducible skip); exact BK102.out)) : gb102 ≠ gb119)); have n12_ := Aside0.mk ((by rw [hg]; exact Nat.ne_of_gt (blk_lt (g := gb102) (o := .cells #[.int .i64 a3_0, .int .i64 a3_1, .string a3_2] 26 (0, 0)) (by (with_reducible skip); exact BK102.out)) : gb119 ≠ gb102)); have n13_ := Aside0.mk ((by rw [hg]; exact Nat.ne_of_lt (blk_lt (g := gb111) (o := .cells #[.int .i64 t108, .int .i64 t109] 32 (0, 0)) (by (with_reducible skip); exact BK111.out)) : gb111 ≠ gb119)); have n14_ := Aside0.mk ((by rw [hg]; exact Nat.ne_of_gt (blk_lt (g := gb111) (o := .cells #[.int .i64 t108, .int .i64 t109] 32 (0, 0)) (by (with_reducible skip); exact BK111.out)) : gb119 ≠ gb111)); have n15_ := Aside0.mk ((by rw [hg]; exact Nat.ne_of_lt (blk_lt (g := gb115) (o := .cells #[.int .i64 t112, .int .i64 t113] 32 (0, 0)) (by (with_reducible skip); exact BK115.out)) : gb115 ≠ gb119)); have n16_ := Aside0.mk ((by rw [hg]; exact Nat.ne_of_gt (blk_lt (g := gb115) (o := .cells #[.int .i64 t112, .int .i64 t113] 32 (0, 0)) (by (with_reducible skip); exact BK115.out)) : gb119 ≠ gb115)); clear HO106; clear BK101; clear BK102; clear BK111; clear BK115; clear HB; have HO106 := n0_; have BK101 := n1_; have BK102 := n2_; have BK111 := n3_; have BK115 := n4_; have HB := n5_; have BK119 := n6_; have GW119 := n7_; have GE119 := n8_; have NB101_119 := n9_; have NB119_101 := n10_; have NB102_119 := n11_; have NB119_102 := n12_; have NB111_119 := n13_; have NB119_111 := n14_; have NB115_119 := n15_; have NB119_115 := n16_; clear n0_ n1_ n2_ n3_ n4_ n5_ n6_ n7_ n8_ n9_ n10_ n11_ n12_ n13_ n14_ n15_ n16_; clear hb hbox hg; have hnb235 := NB119_101.out; have hnc235 := NB101_119.out; have hnb236 := NB119_102.out; have hnc236 := NB102_119.out; have hnb237 := NB119_111.out; have hnc237 := NB111_119.out; have hnb238 := NB119_115.out; have hnc238 := NB115_119.out; have hcz239_0 : w234.cell? ⟨gb119, 0, none⟩ = some (.int .i64 0) := (blk_cell BK119.out 0).trans rfl; have hcz239_1 : w234.cell? ⟨gb119, 1, none⟩ = some (.int .i64 0) := (blk_cell BK119.out 1).trans rfl; have hfz239_0 := blk_frozen BK119.out 0; have hfz239_1 := blk_frozen BK119.out 1; have hcz240_0 : w234.cell? ⟨gb111, 0, none⟩ = some (.int .i64 t108) := (blk_cell BK111.out 0).trans rfl; have hcz240_1 : w234.cell? ⟨gb111, 1, none⟩ = some (.int .i64 t109) := (blk_cell BK111.out 1).trans rfl; have hfz240_0 := blk_frozen BK111.out 0; have hfz240_1 := blk_frozen BK111.out 1; have hcz241_0 : w234.cell? ⟨gb115, 0, none⟩ = some (.int .i64 t112) := (blk_cell BK115.out 0).trans rfl; have hcz241_1 : w234.cell? ⟨gb115, 1, none⟩ = some (.int .i64 t113) := (blk_cell BK115.out 1).trans rfl; have hfz241_0 := blk_frozen BK115.out 0; have hfz241_1 := blk_frozen BK115.out 1))
       have n0_ : Aside0 (Kd.R Kd.string 9 ((w234.setCell ⟨gb119, 0, none⟩ (.int .i64 t116)).setCell ⟨gb119, 1, none⟩ (.int .i64 t117)) w.heap.size (fun _ => True) (.slice Ao216 y104.length co216) y104) := ⟨by (with_reducible skip); exact Kd.R_mono (Kd.R_far (p := ⟨gb119, 1, none⟩) (Kd.R_far (p := ⟨gb119, 0, none⟩) (Kd.R_types HO106.out BK119.out (by decide)) (fun _ hk => hk.2) (.int .i64 t116)) (fun _ hk => hk.2) (.int .i64 t117)) (fun _ hk => trivial)⟩
       have n1_ : Aside0 (((w234.setCell ⟨gb119, 0, none⟩ (.int .i64 t116)).setCell ⟨gb119, 1, none⟩ (.int .i64 t117)).heap[gb101]? = some (.cells #[.int .i64 a2_0, .int .i64 a2_1, .string a2_2] 26 (0, 0))) := ⟨by (with_reducible skip); refine blk_far ?_ NB101_119.out _; (with_reducible skip); refine blk_far ?_ NB101_119.out _; (with_reducible skip); exact BK101.out⟩
       have n2_ : Aside0 (((w234.setCell ⟨gb119, 0, none⟩ (.int .i64 t116)).setCell ⟨gb119, 1, none⟩ (.int .i64 t117)).heap[gb102]? = some (.cells #[.int .i64 a3_0, .int .i64 a3_1, .string a3_2] 26 (0, 0))) := ⟨by (with_reducible skip); refine blk_far ?_ NB102_119.out _; (with_reducible skip); refine blk_far ?_ NB102_119.out _; (with_reducible skip); exact BK102.out⟩
       have n3_ : Aside0 (((w234.setCell ⟨gb119, 0, none⟩ (.int .i64 t116)).setCell ⟨gb119, 1, none⟩ (.int .i64 t117)).heap[gb111]? = some (.cells #[.int .i64 t108, .int .i64 t109] 32 (0, 0))) := ⟨by (with_reducible skip); refine blk_far ?_ NB111_119.out _; (with_reducible skip); refine blk_far ?_ NB111_119.out _; (with_reducible skip); exact BK111.out⟩
       have n4_ : Aside0 (((w234.setCell ⟨gb119, 0, none⟩ (.int .i64 t116)).setCell ⟨gb119, 1, none⟩ (.int .i64 t117)).heap[gb115]? = some (.cells #[.int .i64 t112, .int .i64 t113] 32 (0, 0))) := ⟨by (with_reducible skip); refine blk_far ?_ NB115_119.out _; (with_reducible skip); refine blk_far ?_ NB115_119.out _; (with_reducible skip); exact BK115.out⟩
       have n5_ : Aside0 (((w234.setCell ⟨gb119, 0, none⟩ (.int .i64 t116)).setCell ⟨gb119, 1, none⟩ (.int .i64 t117)).heap[gb119]? = some (.cells #[.int .i64 t116, .int .i64 t117] 32 (0, 0))) := ⟨by (with_reducible skip); refine blk_put (cs := #[.int .i64 t116, .int .i64 0]) ?_ 1 _ rfl; (with_reducible skip); refine blk_put (cs := #[.int .i64 0, .int .i64 0]) ?_ 0 _ rfl; (with_reducible skip); exact BK119.out⟩
       have n6_ : Aside0 (Below w.heap.size w ((w234.setCell ⟨gb119, 0, none⟩ (.int .i64 t116)).setCell ⟨gb119, 1, none⟩ (.int .i64 t117))) := ⟨by repeat ((with_reducible first | exact HB.out | refine below_set ?_ GE119.out))⟩
       (try clear HO106)
       (try clear BK101)
       (try clear BK102)
       (try clear BK111)
       (try clear BK115)
       (try clear BK119)
       (try clear HB)
       generalize ((w234.setCell ⟨gb119, 0, none⟩ (.int .i64 t116)).setCell ⟨gb119, 1, none⟩ (.int .i64 t117)) = w242 at n0_ n1_ n2_ n3_ n4_ n5_ n6_ ⊢
       have HO106 := n0_
       have BK101 := n1_
       have BK102 := n2_
       have BK111 := n3_
       have BK115 := n4_
       have BK119 := n5_
       have HB := n6_
       clear n0_ n1_ n2_ n3_ n4_ n5_ n6_
       have n0_ := Aside0.mk (Kd.R_drew HO106.out)
       have n1_ := Aside0.mk (blk_drew BK101.out)
       have n2_ := Aside0.mk (blk_drew BK102.out)
       have n3_ := Aside0.mk (blk_drew BK111.out)
       have n4_ := Aside0.mk (blk_drew BK115.out)
       have n5_ := Aside0.mk (blk_drew BK119.out)
       have n6_ := Aside0.mk (below_drew1 HB.out)
       clear HO106
       clear BK101
       clear BK102
       clear BK111
       clear BK115
       clear BK119
       clear HB
       have HO106 := n0_
       have BK101 := n1_
       have BK102 := n2_
       have BK111 := n3_
       have BK115 := n4_
       have BK119 := n5_
       have HB := n6_
       clear n0_ n1_ n2_ n3_ n4_ n5_ n6_
       refine start_ (n := 16) (S := fun w' => True) (ds := []) #[false, false, false, false, false, false, false, false, false, false, false, false, false, false, false, false] (by kernel_rfl) rfl rfl trivial (fun hHeld => ?_); refine with_tabW cleanselaw04_MeasureValues.tab9 cleanselaw04_MeasureValues.bits9 (fun HT_ HW_ => ?_)
       generalize w242.drew = w243 at HO106 BK101 BK102 BK111 BK115 BK119 HB hHeld ⊢
       refine pure_ (i := 0) (N := some 66) (v := ?_) (a' := ?_) #[true, false, false, false, false, false, false, false, false, false, false, false, false, false, false, false] rfl rfl (any_of HT_.out (by kernel_rfl)) (fun _ _ _ h => h) (Or.inl ⟨by rfl, ?_⟩) ?_ ?_
       rotate_left
       ·intro w'
        go_simp
        with_reducible rfl
       rotate_left
       ·simp only [Act.put, List.setIfInBounds_toArray, List.set_cons_zero, List.set_cons_succ, i64_w, i32_w]
        rfl
       refine pure_ (i := 1) (N := some 67) (v := ?_) (a' := ?_) #[true, true, false, false, false, false, false, false, false, false, false, false, false, false, false, false] rfl rfl (any_of HT_.out (by kernel_rfl)) (fun _ _ _ h => h) (Or.inl ⟨by rfl, ?_⟩) ?_ ?_
       rotate_left
       ·intro w'
        go_simp
        with_reducible rfl
       rotate_left
       ·simp only [Act.put, List.setIfInBounds_toArray, List.set_cons_zero, List.set_cons_succ, i64_w, i32_w]
        rfl
       refine pure_ (i := 2) (N := some 68) (v := ?_) (a' := ?_) #[true, true, true, false, false, false, false, false, false, false, false, false, false, false, false, false] rfl rfl (any_of HT_.out (by kernel_rfl)) (fun _ _ _ h => h) (Or.inl ⟨by rfl, ?_⟩) ?_ ?_
       rotate_left
       ·intro w'
        go_simp
        with_reducible rfl
       rotate_left
       ·simp only [Act.put, List.setIfInBounds_toArray, List.set_cons_zero, List.set_cons_succ, i64_w, i32_w]
        rfl
       refine pure_ (i := 3) (N := some 69) (v := ?_) (a' := ?_) #[true, true, true, true, false, false, false, false, false, false, false, false, false, false, false, false] rfl rfl (any_of HT_.out (by kernel_rfl)) (fun _ _ _ h => h) (Or.inl ⟨by rfl, ?_⟩) ?_ ?_
       rotate_left
       ·intro w'
        go_simp
        with_reducible rfl
       rotate_left
       ·simp only [Act.put, List.setIfInBounds_toArray, List.set_cons_zero, List.set_cons_succ, i64_w, i32_w]
        rfl
       refine pure_ (i := 4) (N := some 70) (v := ?_) (a' := ?_) #[true, true, true, true, true, false, false, false, false, false, false, false, false, false, false, false] rfl rfl (any_of HT_.out (by kernel_rfl)) (fun _ _ _ h => h) (Or.inl ⟨by rfl, ?_⟩) ?_ ?_
       rotate_left
       ·intro w'
        go_simp
        with_reducible rfl
       rotate_left
       ·simp only [Act.put, List.setIfInBounds_toArray, List.set_cons_zero, List.set_cons_succ, i64_w, i32_w]
        rfl
       refine pure_ (i := 5) (N := some 71) (v := undef) (a' := ?_) #[true, true, true, true, true, true, false, false, false, false, false, false, false, false, false, false] rfl rfl (any_of HT_.out (by kernel_rfl)) (fun _ _ _ h => h) (Or.inr ⟨by rfl, rfl⟩) ?_ ?_
       rotate_left
       ·simp only [Act.put, List.setIfInBounds_toArray, List.set_cons_zero, List.set_cons_succ, i64_w, i32_w]
        rfl
       refine pure_ (i := 6) (N := some 72) (v := undef) (a' := ?_) #[true, true, true, true, true, true, true, false, false, false, false, false, false, false, false, false] rfl rfl (any_of HT_.out (by kernel_rfl)) (fun _ _ _ h => h) (Or.inr ⟨by rfl, rfl⟩) ?_ ?_
       rotate_left
       ·simp only [Act.put, List.setIfInBounds_toArray, List.set_cons_zero, List.set_cons_succ, i64_w, i32_w]
        rfl
       refine pure_ (i := 7) (N := some 73) (v := undef) (a' := ?_) #[true, true, true, true, true, true, true, true, false, false, false, false, false, false, false, false] rfl rfl (any_of HT_.out (by kernel_rfl)) (fun _ _ _ h => h) (Or.inr ⟨by rfl, rfl⟩) ?_ ?_
       rotate_left
       ·simp only [Act.put, List.setIfInBounds_toArray, List.set_cons_zero, List.set_cons_succ, i64_w, i32_w]
        rfl
       refine pure_ (i := 8) (N := some 74) (v := ?_) (a' := ?_) #[true, true, true, true, true, true, true, true, true, false, false, false, false, false, false, false] rfl rfl (any_of HT_.out (by kernel_rfl)) (fun _ _ _ h => h) (Or.inl ⟨by rfl, ?_⟩) ?_ ?_
       rotate_left
       ·intro w'
        go_simp
        with_reducible rfl
       rotate_left
       ·simp only [Act.put, List.setIfInBounds_toArray, List.set_cons_zero, List.set_cons_succ, i64_w, i32_w]
        rfl
       refine pure_ (i := 9) (N := some 75) (v := ?_) (a' := ?_) #[true, true, true, true, true, true, true, true, true, true, false, false, false, false, false, false] rfl rfl (any_of HT_.out (by kernel_rfl)) (fun _ _ _ h => h) (Or.inl ⟨by rfl, ?_⟩) ?_ ?_
       rotate_left
       ·intro w'
        go_simp
        with_reducible rfl
       rotate_left
       ·simp only [Act.put, List.setIfInBounds_toArray, List.set_cons_zero, List.set_cons_succ, i64_w, i32_w]
        rfl
       refine pure_ (i := 10) (N := some 76) (v := undef) (a' := ?_) #[true, true, true, true, true, true, true, true, true, true, true, false, false, false, false, false] rfl rfl (any_of HT_.out (by kernel_rfl)) (fun _ _ _ h => h) (Or.inr ⟨by rfl, rfl⟩) ?_ ?_
       rotate_left
       ·simp only [Act.put, List.setIfInBounds_toArray, List.set_cons_zero, List.set_cons_succ, i64_w, i32_w]
        rfl
       refine pure_ (i := 11) (N := some 77) (v := undef) (a' := ?_) #[true, true, true, true, true, true, true, true, true, true, true, true, false, false, false, false] rfl rfl (any_of HT_.out (by kernel_rfl)) (fun _ _ _ h => h) (Or.inr ⟨by rfl, rfl⟩) ?_ ?_
       rotate_left
       ·simp only [Act.put, List.setIfInBounds_toArray, List.set_cons_zero, List.set_cons_succ, i64_w, i32_w]
        rfl
       refine pure_ (i := 12) (N := some 78) (v := undef) (a' := ?_) #[true, true, true, true, true, true, true, true, true, true, true, true, true, false, false, false] rfl rfl (any_of HT_.out (by kernel_rfl)) (fun _ _ _ h => h) (Or.inr ⟨by rfl, rfl⟩) ?_ ?_
       rotate_left
       ·simp only [Act.put, List.setIfInBounds_toArray, List.set_cons_zero, List.set_cons_succ, i64_w, i32_w]
        rfl
       refine pure_ (i := 13) (N := some 79) (v := ?_) (a' := ?_) #[true, true, true, true, true, true, true, true, true, true, true, true, true, true, false, false] rfl rfl (any_of HT_.out (by kernel_rfl)) (fun _ _ _ h => h) (Or.inl ⟨by rfl, ?_⟩) ?_ ?_
       rotate_left
       ·intro w'
        go_simp
        with_reducible rfl
       rotate_left
       ·simp only [Act.put, List.setIfInBounds_toArray, List.set_cons_zero, List.set_cons_succ, i64_w, i32_w]
        rfl
       refine pure_ (i := 14) (N := some 80) (v := ?_) (a' := ?_) #[true, true, true, true, true, true, true, true, true, true, true, true, true, true, true, false] rfl rfl (any_of HT_.out (by kernel_rfl)) (fun _ _ _ h => h) (Or.inl ⟨by rfl, ?_⟩) ?_ ?_
       rotate_left
       ·intro w'
        go_simp
        with_reducible rfl
       rotate_left
       ·simp only [Act.put, List.setIfInBounds_toArray, List.set_cons_zero, List.set_cons_succ, i64_w, i32_w]
        rfl
       refine pure_ (i := 15) (N := some 8) (v := ?_) (a' := ?_) #[true, true, true, true, true, true, true, true, true, true, true, true, true, true, true, true] rfl rfl (any_of HT_.out (by kernel_rfl)) (fun _ _ _ h => h) (Or.inl ⟨by rfl, ?_⟩) ?_ ?_
       rotate_left
       ·intro w'
        go_simp
        with_reducible rfl
       rotate_left
       ·simp only [Act.put, List.setIfInBounds_toArray, List.set_cons_zero, List.set_cons_succ, i64_w, i32_w]
        rfl
       refine done_ (done_of HT_.out (by kernel_rfl)) ?_
       try go_wp2
       go_ret
       exact ⟨by rfl, by repeat ((with_reducible (exact HB.out)))⟩
     ·replace c130 := Bool.eq_false_iff.mpr c130
      subst c130
      have H1 : (some false) = some r := by rw [if_neg (show ¬ (false = true) by decide)] at H; exact H
      clear H
      have H := H1
      clear H1
      exact absurd ((Option.some.inj H).trans HT.out) (by decide)
  ·rw [if_neg c11] at H
   have c11b0 : (t110 == t114) = false := beq_eq_false_iff_ne.mpr c11
   have c11b1 : (t110 != t114) = true := bne_iff_ne.mpr c11
   exact absurd ((Option.some.inj H).trans HT.out) (by decide)
 ·replace c7 := Bool.eq_false_iff.mpr c7
  subst c7
  have H1 : (some t103) = some r := by rw [if_neg (show ¬ (false = true) by decide)] at H; exact H
  clear H
  have H := H1
  clear H1
  obtain rfl := Option.some.inj H
  go_enter Tryd.func8, Tryd.ntmps8
  go_wp2_with (first | ((with_reducible refine gate_dst (N := 6) rfl ?_); refine box_event ?hg (N := 6) ?hd (cs := #[.int .i64 a2_0, .int .i64 a2_1, .string a2_2]) (t := 26) ?hr ?_; (case hd => rfl); (case hg => rfl); (case hr => (go_simp; done)); intro gb101 hg w244 hbox hb; have n0_ := Aside0.mk (below_step (by repeat ((with_reducible (exact HB.out)))) hb); have n1_ := Aside0.mk (hbox); have n2_ := Aside0.mk ((by rw [hg]; exact (below_size (by repeat ((with_reducible (exact HB.out))))) : w.heap.size ≤ gb101)); have n3_ := Aside0.mk ((by rw [hg]; exact (below_size (by repeat ((with_reducible (exact HB.out))))) : w.heap.size ≤ gb101)); clear HB; have HB := n0_; have BK101 := n1_; have GW101 := n2_; have GE101 := n3_; clear n0_ n1_ n2_ n3_; clear hb hbox hg) | ((with_reducible refine gate_dst (N := 7) rfl ?_); refine box_event ?hg (N := 7) ?hd (cs := #[.int .i64 a3_0, .int .i64 a3_1, .string a3_2]) (t := 26) ?hr ?_; (case hd => rfl); (case hg => rfl); (case hr => (go_simp; done)); intro gb102 hg w245 hbox hb; have n0_ := Aside0.mk (blk_below (g := gb101) (o := .cells #[.int .i64 a2_0, .int .i64 a2_1, .string a2_2] 26 (0, 0)) (by (with_reducible skip); exact BK101.out) hb); have n1_ := Aside0.mk (below_step (by repeat ((with_reducible (exact HB.out)))) hb); have n2_ := Aside0.mk (hbox); have n3_ := Aside0.mk ((by rw [hg]; exact (below_size (by repeat ((with_reducible (exact HB.out))))) : w.heap.size ≤ gb102)); have n4_ := Aside0.mk ((by rw [hg]; exact (below_size (by repeat ((with_reducible (exact HB.out))))) : w.heap.size ≤ gb102)); have n5_ := Aside0.mk ((by rw [hg]; exact Nat.ne_of_lt (blk_lt (g := gb101) (o := .cells #[.int .i64 a2_0, .int .i64 a2_1, .string a2_2] 26 (0, 0)) (by (with_reducible skip); exact BK101.out)) : gb101 ≠ gb102)); have n6_ := Aside0.mk ((by rw [hg]; exact Nat.ne_of_gt (blk_lt (g := gb101) (o := .cells #[.int .i64 a2_0, .int .i64 a2_1, .string a2_2] 26 (0, 0)) (by (with_reducible skip); exact BK101.out)) : gb102 ≠ gb101)); clear BK101; clear HB; have BK101 := n0_; have HB := n1_; have BK102 := n2_; have GW102 := n3_; have GE102 := n4_; have NB101_102 := n5_; have NB102_101 := n6_; clear n0_ n1_ n2_ n3_ n4_ n5_ n6_; clear hb hbox hg) | ((with_reducible refine gate_callee (f := 11) rfl ?_); refine goesL_ (some 16) rfl rfl Tryd.func11 (by kernel_rfl) rfl #[] rfl (by (try simp only [List.map_toArray, List.map_cons, List.map_nil]); done) ?_; (with_reducible refine (cleanselaw04_head.calls  t103 _ ?sGl A5.out).mono ?_); (case sGl => exact Gl.below HGl.out (by repeat ((with_reducible (exact HB.out))))); rintro e w246 ⟨rfl, hb⟩; refine ⟨_, rfl, ?_⟩; have n0_ := Aside0.mk (blk_below (g := gb101) (o := .cells #[.int .i64 a2_0, .int .i64 a2_1, .string a2_2] 26 (0, 0)) (by (with_reducible skip); exact BK101.out) hb); have n1_ := Aside0.mk (blk_below (g := gb102) (o := .cells #[.int .i64 a3_0, .int .i64 a3_1, .string a3_2] 26 (0, 0)) (by (with_reducible skip); exact BK102.out) hb); have n2_ := Aside0.mk (below_step (by repeat ((with_reducible (exact HB.out)))) hb); clear BK101; clear BK102; clear HB; have BK101 := n0_; have BK102 := n1_; have HB := n2_; clear n0_ n1_ n2_; (try clear hb); have hnb247 := NB101_102.out; have hnc247 := NB102_101.out; have hcz248_0 : w246.cell? ⟨gb101, 0, none⟩ = some (.int .i64 a2_0) := (blk_cell BK101.out 0).trans rfl; have hcz248_1 : w246.cell? ⟨gb101, 1, none⟩ = some (.int .i64 a2_1) := (blk_cell BK101.out 1).trans rfl; have hcz248_2 : w246.cell? ⟨gb101, 2, none⟩ = some (.string a2_2) := (blk_cell BK101.out 2).trans rfl; have hfz248_0 := blk_frozen BK101.out 0; have hfz248_1 := blk_frozen BK101.out 1; have hfz248_2 := blk_frozen BK101.out 2; have hcz249_0 : w246.cell? ⟨gb102, 0, none⟩ = some (.int .i64 a3_0) := (blk_cell BK102.out 0).trans rfl; have hcz249_1 : w246.cell? ⟨gb102, 1, none⟩ = some (.int .i64 a3_1) := (blk_cell BK102.out 1).trans rfl; have hcz249_2 : w246.cell? ⟨gb102, 2, none⟩ = some (.string a3_2) := (blk_cell BK102.out 2).trans rfl; have hfz249_0 := blk_frozen BK102.out 0; have hfz249_1 := blk_frozen BK102.out 1; have hfz249_2 := blk_frozen BK102.out 2) | ((with_reducible refine gate_dst (N := 21) rfl ?_); refine Kd.R_lit Kd.string _ 9 ?hg (N := 21) ?hd (xs := ([a2_2, a3_2] : List ByteArray)) (inner := [.string a2_2, .string a3_2]) (ok := fun _ => True) (okp := fun _ => True) ?hr ?hp (fun _ hk => hk) trivial (Below.refl _ _) (Nat.le_refl _) (by simp) ?_; (case hd => rfl); (case hg => rfl); (case hr => (go_simp; done)); (case hp => exact (Reps.one (show Kd.M Kd.string _ _ _ a2_2 [.string a2_2] from rfl) (Reps.one (show Kd.M Kd.string _ _ _ a3_2 [.string a3_2] from rfl) (Reps.none _ _)))); intro v105 w250 ho251 hb hg_ hnew_; clear hg_ hnew_; ((rw [← Ny104.out] at ho251)); have n0_ := Aside0.mk (Kd.R_lower ho251 (below_size (by repeat ((with_reducible (exact HB.out)))))); have n1_ := Aside0.mk (blk_below (g := gb101) (o := .cells #[.int .i64 a2_0, .int .i64 a2_1, .string a2_2] 26 (0, 0)) (by (with_reducible skip); exact BK101.out) hb); have n2_ := Aside0.mk (blk_below (g := gb102) (o := .cells #[.int .i64 a3_0, .int .i64 a3_1, .string a3_2] 26 (0, 0)) (by (with_reducible skip); exact BK102.out) hb); have n3_ := Aside0.mk (below_step (by repeat ((with_reducible (exact HB.out)))) hb); clear BK101; clear BK102; clear HB; have HO106 := n0_; have BK101 := n1_; have BK102 := n2_; have HB := n3_; clear n0_ n1_ n2_ n3_; clear hb ho251; obtain ⟨Ao252, co252, eo252⟩ := Kd.R_slice HO106.out; subst eo252) | ((with_reducible refine gate_callee (f := 13) rfl ?_); refine goesL_ (some 22) rfl rfl Tryd.func13 (by kernel_rfl) rfl #[.int .i64 200, .slice Ao252 y104.length co252] rfl (by (try simp only [List.map_toArray, List.map_cons, List.map_nil]); rfl) ?_; (with_reducible refine (cleanseref04_Short.calls k 200 _ _ y104 false _ ?side1 ?side2 A6.out).mono ?_); (case side1 => repeat ((exact (Kd.R_reads' HO106.out).2.2))); (case side2 => exact (Kd.R_reads' HO106.out).2.1); rintro e w' ⟨rfl, ⟨nd, rfl⟩⟩; refine ⟨_, rfl, ?_⟩))
  go_ret
  exact ⟨by rfl, by repeat ((with_reducible first | exact HB.out | apply pw_below_drewN))⟩

end Go.Proofs.YtgomlpndoolllaaDoor.LValues
end

section
/- What the contract of Of tells, in plain values. -/
namespace Go.Proofs.YtgomlpndoolllaaDoor.Pure
open Go Go.RowKit Go.Proofs.YtgomlpndoolllaaDoor.Q Go.Proofs.YtgomlpndoolllaaDoor.CL Go.Proofs.YtgomlpndoolllaaDoorW.PrintWords Go.Proofs.YtgomlpndoolllaaDoorW.PrintLast Go.Proofs.YtgomlpndoolllaaDoorW.PrintMore
set_option linter.unusedVariables false
set_option linter.unusedSimpArgs false

/-- How alike two texts are by their edit distance. -/
def alikeS (a b : List UInt8) : Int × Int := if max a.length b.length = 0 then (1, 1) else rat (max a.length b.length - dist a b) (max a.length b.length)
theorem alike_f (a b : ByteArray) (ha : a.toList.length ≤ 1000) (hb : b.toList.length ≤ 1000) : Ev (fun k => measure_Alike.f k a b) (alikeS a.toList b.toList) := by
  have e0 := tl_size a
  have e1 := tl_size b
  have hm : mx (a.size : Int) (b.size : Int) = ((max a.toList.length b.toList.length : Nat) : Int) := by rw [mx_nat, e0, e1]
  unfold alikeS
  refine Ev.congr (fun k => by unfold measure_Alike.f; rw [hm]) ?_
  by_cases h0 : max a.toList.length b.toList.length = 0
  · rw [if_pos h0]
    exact Ev.congr (fun k => by rw [if_pos (by omega)]) (Ev.now _)
  · rw [if_neg h0]
    refine Ev.congr (fun k => by rw [if_neg (by omega)]) (Ev.bind (edit_f a b ha hb) ?_)
    have hd := (dist_bounds a.toList b.toList).2.2
    have e2 : wrap64 (((max a.toList.length b.toList.length : Nat) : Int) - ((dist a.toList b.toList : Nat) : Int)) = ((max a.toList.length b.toList.length - dist a.toList b.toList : Nat) : Int) := by
      rw [i64_id (by omega) (by omega)]; omega
    rw [e2]
    exact Ev.bind (share_f _ _ (by omega) (by omega) (by omega)) (Ev.now _)
theorem alikeS_low (a b : List UInt8) (ha : a.length ≤ 1000) (hb : b.length ≤ 1000) : ∃ p q, Low (alikeS a b) p q := by
  unfold alikeS
  split
  · exact ⟨1, 1, low_one⟩
  · have hd := (dist_bounds a b).2.2
    obtain ⟨p, q, _, hl, _⟩ := rat_low (n := max a.length b.length - dist a b) (d := max a.length b.length) (by omega) (by omega) (by omega)
    exact ⟨p, q, hl⟩
theorem alikeS_symm (a b : List UInt8) : alikeS a b = alikeS b a := by
  unfold alikeS; rw [Nat.max_comm, dist_symm]
theorem alikeS_self (a : List UInt8) : alikeS a a = (1, 1) := by
  unfold alikeS
  split
  · rfl
  · have : dist a a = 0 := lev_self _
    rw [this, Nat.sub_zero]
    exact rat_self (by omega)
def jaroB (x y : ByteArray) : Int × Int := if 200 < x.size ∨ 200 < y.size then (0, 1) else jaroN x.size y.size (jA x) (jA y)
theorem jaroB_f (x y : ByteArray) : Ev (fun k => measure_Jaro.f k x y) (jaroB x y) := by
  unfold jaroB
  by_cases h : 200 < x.size ∨ 200 < y.size
  · rw [if_pos h]; exact jaro_long x y h
  · rw [if_neg h]; exact jaro_f x y (by omega) (by omega)
theorem jaroB_low (x y : ByteArray) : ∃ p q, Low (jaroB x y) p q := by
  unfold jaroB
  split
  · exact ⟨0, 1, low_zero⟩
  · exact jaroN_low _ _ _ _ (by omega) (by omega)
theorem jaroB_symm (x y : ByteArray) : jaroB x y = jaroB y x := by
  unfold jaroB
  by_cases h : 200 < x.size ∨ 200 < y.size
  · rw [if_pos h, if_pos h.symm]
  · rw [if_neg h, if_neg (fun k => h k.symm)]; exact jaroN_symm _ _ _ _
theorem jaroB_self (x : ByteArray) (h : x.size ≤ 200) : jaroB x x = (1, 1) := by
  unfold jaroB; rw [if_neg (by omega)]; exact jaroN_self _ _
theorem jac_f (a b : List ByteArray) (h : (jOk a && jOk b) = true) (hn : a.length + b.length ≤ 1000000000) : Ev (fun k => measure_Jaccard.f k a b) (jacS (dataL a) (dataL b)) := by
  unfold jacS
  refine Ev.congr (fun k => by unfold measure_Jaccard.f; rw [if_pos h]) ?_
  have hl := jac_len (dataL a) (dataL b)
  have e : (dataL a).length = a.length := by unfold dataL; rw [List.length_map]
  have e2 : (dataL b).length = b.length := by unfold dataL; rw [List.length_map]
  by_cases h0 : (jFold (dataL a) (dataL b)).2.2.1 = 0
  · rw [if_pos h0]
    exact Ev.congr (fun k => by rw [if_pos h0]) (Ev.now _)
  · rw [if_neg h0]
    refine Ev.congr (fun k => by rw [if_neg h0]) (share_f _ _ (by omega) (j_le _ _) (by omega))
/-- The measures of texts. -/
def textS (m : Int) (a b : ByteArray) : Int × Int :=
  if m = 2 then alikeS (foldL a.data.toList) (foldL b.data.toList)
  else if m = 3 then jacS (sortU (wordsL a.data.toList)) (sortU (wordsL b.data.toList))
  else jaroB (ofL (foldL a.data.toList)) (ofL (foldL b.data.toList))
theorem size_dl (a : ByteArray) : a.data.toList.length = a.size := by rw [← tl_size, Go.ByteArray.toList_eq]
theorem dl_ofL (l : List UInt8) : (ofL l).data.toList = l := by rw [← Go.ByteArray.toList_eq]; exact tl_ofL l
theorem dataL_ofL (l : List (List UInt8)) : dataL (l.map ofL) = l := by
  unfold dataL
  rw [List.map_map]
  conv => rhs; rw [← List.map_id l]
  exact List.map_congr_left (fun x _ => dl_ofL x)
theorem fold_sz (a : ByteArray) : (ofL (foldL a.data.toList)).size ≤ a.size := by
  rw [ofL_size, ← size_dl]; exact foldL_len _
theorem tokens_ok (a : ByteArray) (h : a.size ≤ 1000) : jOk ((sortU (wordsL a.data.toList)).map ofL) = true := by
  have h1 := sortU_len (wordsL a.data.toList)
  have h2 := words_len a.data.toList
  rw [size_dl] at h2
  unfold jOk
  rw [Bool.and_eq_true, decide_eq_true_eq, List.length_map, List.all_eq_true]
  refine ⟨by omega, fun x hx => ?_⟩
  obtain ⟨y, hy, rfl⟩ := List.mem_map.1 hx
  have := word_len ((mem_sortU _ _).1 hy)
  rw [size_dl] at this
  rw [decide_eq_true_eq, ofL_size]
  omega
theorem text_f1 (a b : ByteArray) (ha : a.size ≤ 1000) (hb : b.size ≤ 1000) : Ev (fun k => measure_texts_1.f k a b) (textS 2 a b) := by
  have h1 := fold_sz a
  have h2 := fold_sz b
  have e := alike_f (ofL (foldL a.data.toList)) (ofL (foldL b.data.toList)) (by rw [tl_size]; omega) (by rw [tl_size]; omega)
  rw [tl_ofL, tl_ofL] at e
  unfold textS
  rw [if_pos rfl]
  refine Ev.congr (fun k => ?_) (Ev.bind e (Ev.now _))
  unfold measure_texts_1.f words_Fold.f
  rw [if_pos (by omega), if_pos (by omega), Option.bind_some, Option.bind_some]
theorem text_f3 (a b : ByteArray) (ha : a.size ≤ 1000) (hb : b.size ≤ 1000) : Ev (fun k => measure_texts_3.f k a b) (textS 4 a b) := by
  have e := jaroB_f (ofL (foldL a.data.toList)) (ofL (foldL b.data.toList))
  unfold textS
  rw [if_neg (by decide), if_neg (by decide)]
  refine Ev.congr (fun k => ?_) (Ev.bind e (Ev.now _))
  unfold measure_texts_3.f words_Fold.f
  rw [if_pos (by omega), if_pos (by omega), Option.bind_some, Option.bind_some]
theorem text_f2 (a b : ByteArray) (ha : a.size ≤ 1000) (hb : b.size ≤ 1000) : Ev (fun k => measure_texts_2.f k a b) (textS 3 a b) := by
  have l1 := sortU_len (wordsL a.data.toList)
  have l2 := words_len a.data.toList
  have l3 := sortU_len (wordsL b.data.toList)
  have l4 := words_len b.data.toList
  rw [size_dl] at l2 l4
  have e := jac_f ((sortU (wordsL a.data.toList)).map ofL) ((sortU (wordsL b.data.toList)).map ofL) (by rw [tokens_ok a ha, tokens_ok b hb]; rfl) (by rw [List.length_map, List.length_map]; omega)
  rw [dataL_ofL, dataL_ofL] at e
  unfold textS
  rw [if_neg (by decide), if_pos rfl]
  refine Ev.congr (fun k => ?_) (Ev.bind e (Ev.now _))
  unfold measure_texts_2.f words_Tokens.f
  rw [if_pos (by omega), if_pos (by omega), Option.bind_some, Option.bind_some]
theorem textS_low (m : Int) (a b : ByteArray) (ha : a.size ≤ 1000) (hb : b.size ≤ 1000) : ∃ p q, Low (textS m a b) p q := by
  have f1 := foldL_len a.data.toList
  have f2 := foldL_len b.data.toList
  have l1 := sortU_len (wordsL a.data.toList)
  have l2 := words_len a.data.toList
  have l3 := sortU_len (wordsL b.data.toList)
  have l4 := words_len b.data.toList
  rw [size_dl] at l2 l4 f1 f2
  unfold textS
  split
  · exact alikeS_low _ _ (by omega) (by omega)
  · split
    · exact jacS_low _ _ (by omega)
    · exact jaroB_low _ _
theorem textS_symm (m : Int) (a b : ByteArray) : textS m a b = textS m b a := by
  unfold textS
  rw [alikeS_symm, jacS_symm, jaroB_symm]
theorem textS_self (m : Int) (a : ByteArray) (h : a.size ≤ 200) : textS m a a = (1, 1) := by
  have := fold_sz a
  unfold textS
  rw [alikeS_self, jacS_self, jaroB_self _ (by omega)]
  split
  · rfl
  · split <;> rfl
/-- Is a value valid? -/
def valJ (c : Bool) (a0 a1 : Int) (a2 : ByteArray) : Bool :=
  if c = true then false else if a0 = 0 then (if 0 ≤ a1 then decide (a1 ≤ 0) else false) else if a0 = 1 then (if (a2.size : Int) > 200 then false else if 0 ≤ a1 then decide (a1 ≤ 0) else false)
  else if a0 = 2 then (if (-1000000000) ≤ a1 then decide (a1 ≤ 1000000000) else false) else if a0 = 3 then (if 0 ≤ a1 then decide (a1 ≤ 73048) else false) else if a0 = 4 then (if 0 ≤ a1 then decide (a1 ≤ 1) else false) else false
def valB (a0 a1 : Int) (a2 : ByteArray) : Bool := valJ (if a0 = 1 then false else a2.toList != ([] : List UInt8)) a0 a1 a2
theorem valid_f (a0 a1 : Int) (a2 : ByteArray) : Ev (fun k => value_Valid.f k a0 a1 a2) (valB a0 a1 a2) := by
  have h : ∀ c, Ev (fun k => value_Valid.j0 k c a0 a1 a2) (valJ c a0 a1 a2) := by
    intro c
    refine Ev.step (f := fun _ => some (valJ c a0 a1 a2)) (fun k => ?_) (Ev.now _)
    simp only [value_Valid.j0]
    unfold valJ
    (repeat' split) <;> first | rfl | contradiction
  unfold valB
  by_cases h1 : a0 = 1
  · rw [if_pos h1]
    exact Ev.congr (fun k => by unfold value_Valid.f; rw [if_pos h1]) (h false)
  · rw [if_neg h1]
    exact Ev.congr (fun k => by unfold value_Valid.f; rw [if_neg h1]) (h _)
def withE (r : Int × Int) : Int × Int × Int := (r.1, r.2, 0)
def ofT (m tol a0 a1 : Int) (a2 : ByteArray) (b0 b1 : Int) (b2 : ByteArray) : Int × Int × Int :=
  if m = 5 ∧ (tol < 0 ∨ 1000000000 ≤ tol) then (0, 0, 1)
  else if a0 = 0 ∨ b0 = 0 then (0, 1, 0)
  else if m = 1 then (if a0 = b0 ∧ a1 = b1 ∧ a2.toList = b2.toList then (1, 1, 0) else (0, 1, 0))
  else if a0 ≠ b0 ∨ (m = 5 ∧ a0 ≠ 2 ∧ a0 ≠ 3) ∨ (m ≠ 5 ∧ a0 ≠ 1) then (0, 0, 10)
  else if m = 5 then withE (nearS a1 b1 tol) else withE (textS m a2 b2)
/-- The similarity of two values by a measure, with the error's number. -/
def ofS (m tol a0 a1 : Int) (a2 : ByteArray) (b0 b1 : Int) (b2 : ByteArray) : Int × Int × Int :=
  if m < 1 ∨ 5 < m then (0, 0, 1) else if valB a0 a1 a2 = true then (if valB b0 b1 b2 = true then ofT m tol a0 a1 a2 b0 b1 b2 else (0, 0, 1)) else (0, 0, 1)
abbrev I64 (x : Int) : Prop := -9223372036854775808 ≤ x ∧ x < 9223372036854775808
theorem ofT_f (m tol a0 a1 : Int) (a2 : ByteArray) (b0 b1 : Int) (b2 : ByteArray) (hm : ¬ (m < 1 ∨ 5 < m)) (ht : I64 tol) (ha : I64 a1) (hb : I64 b1) (sa : a2.size ≤ 1000) (sb : b2.size ≤ 1000) :
    Ev (fun k => ofTail k m tol a0 a1 a2 b0 b1 b2) (ofT m tol a0 a1 a2 b0 b1 b2) := by
  unfold ofT
  split
  · rename_i h; exact Ev.congr (fun k => by unfold ofTail; rw [if_pos h]) (Ev.now _)
  · rename_i h1
    split
    · rename_i h; exact Ev.congr (fun k => by unfold ofTail; rw [if_neg h1, if_pos h]) (Ev.now _)
    · rename_i h2
      split
      · rename_i h3
        split
        · rename_i h; exact Ev.congr (fun k => by unfold ofTail; rw [if_neg h1, if_neg h2, if_pos h3, if_pos h]) (Ev.now _)
        · rename_i h; exact Ev.congr (fun k => by unfold ofTail; rw [if_neg h1, if_neg h2, if_pos h3, if_neg h]) (Ev.now _)
      · rename_i h3
        split
        · rename_i h; exact Ev.congr (fun k => by unfold ofTail; rw [if_neg h1, if_neg h2, if_neg h3, if_pos h]) (Ev.now _)
        · rename_i h4
          split
          · rename_i h5
            exact Ev.congr (fun k => by unfold ofTail; rw [if_neg h1, if_neg h2, if_neg h3, if_neg h4, if_pos h5]) (Ev.bind (near_f a1 b1 tol ha hb ht) (Ev.now _))
          · rename_i h5
            by_cases h6 : m = 2
            · subst h6
              exact Ev.congr (fun k => by unfold ofTail; rw [if_neg h1, if_neg h2, if_neg h3, if_neg h4, if_neg h5, if_pos rfl]) (Ev.bind (text_f1 a2 b2 sa sb) (Ev.now _))
            · by_cases h7 : m = 3
              · subst h7
                exact Ev.congr (fun k => by unfold ofTail; rw [if_neg h1, if_neg h2, if_neg h3, if_neg h4, if_neg h5, if_neg h6, if_pos rfl]) (Ev.bind (text_f2 a2 b2 sa sb) (Ev.now _))
              · obtain rfl : m = 4 := by omega
                exact Ev.congr (fun k => by unfold ofTail; rw [if_neg h1, if_neg h2, if_neg h3, if_neg h4, if_neg h5, if_neg h6, if_neg h7]) (Ev.bind (text_f3 a2 b2 sa sb) (Ev.now _))
theorem of_f (m tol a0 a1 : Int) (a2 : ByteArray) (b0 b1 : Int) (b2 : ByteArray) (hm : (Lit.int .i64 m).wf = true) (ht : I64 tol) (ha : I64 a1) (hb : I64 b1) (sa : a2.size ≤ 1000) (sb : b2.size ≤ 1000) :
    Ev (fun k => measure_Of.f k m tol a0 a1 a2 b0 b1 b2) (ofS m tol a0 a1 a2 b0 b1 b2) := by
  unfold ofS
  refine Ev.congr (fun k => by unfold measure_Of.f; rw [if_pos hm]) ?_
  by_cases h : m < 1 ∨ 5 < m
  · rw [if_pos h]
    exact Ev.congr (fun k => by rw [if_pos h]) (Ev.now _)
  · rw [if_neg h]
    refine Ev.congr (fun k => by rw [if_neg h]) (Ev.bind (valid_f a0 a1 a2) ?_)
    cases valB a0 a1 a2 with
    | false => exact Ev.congr (fun k => by rw [if_neg (by simp)]) (by rw [if_neg (by simp)]; exact Ev.now _)
    | true =>
      rw [if_pos rfl]
      refine Ev.congr (fun k => by rw [if_pos rfl]) (Ev.bind (valid_f b0 b1 b2) ?_)
      cases valB b0 b1 b2 with
      | false => exact Ev.congr (fun k => by rw [if_neg (by simp)]) (by rw [if_neg (by simp)]; exact Ev.now _)
      | true =>
        rw [if_pos rfl]
        exact Ev.congr (fun k => by rw [if_pos rfl]) (ofT_f m tol a0 a1 a2 b0 b1 b2 h ht ha hb sa sb)
theorem nearS_symm (x y t : Int) : nearS x y t = nearS y x t := by
  unfold nearS
  rw [show (x - y).natAbs = (y - x).natAbs by omega]
theorem nearS_low (x y t : Int) : ∃ p q, Low (nearS x y t) p q := by
  unfold nearS
  split
  · rename_i h
    obtain ⟨p, q, _, hl, _⟩ := rat_low (n := t.toNat + 1 - (x - y).natAbs) (d := t.toNat + 1) (by omega) (by omega) (by omega)
    exact ⟨p, q, hl⟩
  · exact ⟨0, 1, low_zero⟩
theorem nearS_self (x t : Int) (h0 : 0 ≤ t) (h1 : t < 1000000000) : nearS x x t = (1, 1) := by
  unfold nearS
  rw [if_pos ⟨h0, h1, by omega⟩, show (x - x).natAbs = 0 by omega, Nat.sub_zero]
  exact rat_self (by omega)
theorem ofT_symm (m tol a0 a1 : Int) (a2 : ByteArray) (b0 b1 : Int) (b2 : ByteArray) : ofT m tol a0 a1 a2 b0 b1 b2 = ofT m tol b0 b1 b2 a0 a1 a2 := by
  unfold ofT
  by_cases h1 : m = 5 ∧ (tol < 0 ∨ 1000000000 ≤ tol)
  · rw [if_pos h1, if_pos h1]
  · rw [if_neg h1, if_neg h1]
    by_cases h2 : a0 = 0 ∨ b0 = 0
    · rw [if_pos h2, if_pos h2.symm]
    · rw [if_neg h2, if_neg (show ¬ (b0 = 0 ∨ a0 = 0) from fun k => h2 k.symm)]
      by_cases h3 : m = 1
      · rw [if_pos h3, if_pos h3]
        by_cases h : a0 = b0 ∧ a1 = b1 ∧ a2.toList = b2.toList
        · rw [if_pos h, if_pos ⟨h.1.symm, h.2.1.symm, h.2.2.symm⟩]
        · rw [if_neg h, if_neg (show ¬ (b0 = a0 ∧ b1 = a1 ∧ b2.toList = a2.toList) from fun k => h ⟨k.1.symm, k.2.1.symm, k.2.2.symm⟩)]
      · rw [if_neg h3, if_neg h3]
        by_cases h4 : a0 = b0
        · subst h4
          rw [nearS_symm, textS_symm]
        · rw [if_pos (.inl h4), if_pos (show b0 ≠ a0 ∨ _ from .inl (fun k => h4 k.symm))]
theorem ofS_symm (m tol a0 a1 : Int) (a2 : ByteArray) (b0 b1 : Int) (b2 : ByteArray) : ofS m tol a0 a1 a2 b0 b1 b2 = ofS m tol b0 b1 b2 a0 a1 a2 := by
  unfold ofS
  rw [ofT_symm]
  cases valB a0 a1 a2 <;> cases valB b0 b1 b2 <;> simp
theorem ofS_low (m tol a0 a1 : Int) (a2 : ByteArray) (b0 b1 : Int) (b2 : ByteArray) (sa : a2.size ≤ 1000) (sb : b2.size ≤ 1000) (h : (ofS m tol a0 a1 a2 b0 b1 b2).2.2 = 0) : ∃ p q, Low ((ofS m tol a0 a1 a2 b0 b1 b2).1, (ofS m tol a0 a1 a2 b0 b1 b2).2.1) p q := by
  obtain ⟨r, hr⟩ : ∃ r, ofS m tol a0 a1 a2 b0 b1 b2 = r := ⟨_, rfl⟩
  rw [hr] at h ⊢
  unfold ofS ofT withE at hr
  (repeat' split at hr) <;> subst hr <;> first | exact ⟨0, 1, low_zero⟩ | exact ⟨1, 1, low_one⟩ | (exact absurd h (by decide)) | exact nearS_low _ _ _ | exact textS_low _ _ _ sa sb
theorem ofS_self (m tol a0 a1 : Int) (a2 : ByteArray) (sa : a2.size ≤ 200) (h : (ofS m tol a0 a1 a2 a0 a1 a2).2.2 = 0) (h0 : a0 ≠ 0) : (ofS m tol a0 a1 a2 a0 a1 a2).1 = 1 ∧ (ofS m tol a0 a1 a2 a0 a1 a2).2.1 = 1 := by
  unfold ofS ofT at h ⊢
  by_cases h1 : m < 1 ∨ 5 < m
  · rw [if_pos h1] at h; exact absurd h (by decide)
  · rw [if_neg h1] at h ⊢
    by_cases h2 : valB a0 a1 a2 = true
    · rw [if_pos h2, if_pos h2] at h ⊢
      by_cases h3 : m = 5 ∧ (tol < 0 ∨ 1000000000 ≤ tol)
      · rw [if_pos h3] at h; exact absurd h (by decide)
      · rw [if_neg h3] at h ⊢
        rw [if_neg (by omega)] at h ⊢
        by_cases h4 : m = 1
        · rw [if_pos h4, if_pos ⟨rfl, rfl, rfl⟩]; exact ⟨rfl, rfl⟩
        · rw [if_neg h4] at h ⊢
          by_cases h5 : a0 ≠ a0 ∨ (m = 5 ∧ a0 ≠ 2 ∧ a0 ≠ 3) ∨ (m ≠ 5 ∧ a0 ≠ 1)
          · rw [if_pos h5] at h; exact absurd h (by decide)
          · rw [if_neg h5] at h ⊢
            by_cases h6 : m = 5
            · rw [if_pos h6, nearS_self a1 tol (by omega) (by omega)]; exact ⟨rfl, rfl⟩
            · rw [if_neg h6, textS_self m a2 sa]; exact ⟨rfl, rfl⟩
    · rw [if_neg h2] at h; exact absurd h (by decide)
end Go.Proofs.YtgomlpndoolllaaDoor.Pure
end

section
/- The plain law of MeasureValues. -/
namespace Go.Proofs.YtgomlpndoolllaaDoor.Pure
open Go Go.RowKit Go.Proofs.YtgomlpndoolllaaDoor.Q Go.Proofs.YtgomlpndoolllaaDoor.LValues Go.Proofs.YtgomlpndoolllaaDoorW.PrintWords Go.Proofs.YtgomlpndoolllaaDoorW.PrintLast Go.Proofs.YtgomlpndoolllaaDoorW.PrintMore
set_option linter.unusedVariables false
set_option linter.unusedSimpArgs false

theorem not_diff (x y : Int) : ¬ ((!(x == x) || !(y == y)) = true) := by simp
theorem values_ev (a0 a1 x0 x1 : Int) (x2 : ByteArray) (y0 y1 : Int) (y2 : ByteArray) (h0 : (Lit.int .i64 a0).wf = true) (h1 : (Lit.int .i64 a1).wf = true) (h2 : (Lit.int .i64 x1).wf = true) (h3 : (Lit.int .i64 y1).wf = true) :
    Ev (fun k => cleanselaw04_MeasureValues.f k a0 a1 x0 x1 x2 y0 y1 y2) true := by
  obtain ⟨b, hb, hbi⟩ := short_f 200 [x2, y2] (by simp)
  refine Ev.congr (fun k => by unfold cleanselaw04_MeasureValues.f cleanselaw04_head.f; rw [Option.bind_some]) (Ev.bind hb ?_)
  cases b with
  | false => exact Ev.congr (fun k => by rw [if_neg (by simp)]) (Ev.now _)
  | true =>
    have hh := hbi.1 rfl
    have s0 : x2.size ≤ 200 := Int.ofNat_le.1 (hh x2 (by simp))
    have s1 : y2.size ≤ 200 := Int.ofNat_le.1 (hh y2 (by simp))
    clear hh hbi hb
    have t := i64_of h1
    have u := i64_of h2
    have v := i64_of h3
    have e1 := of_f a0 a1 x0 x1 x2 y0 y1 y2 h0 t u v (by omega) (by omega)
    have e2 := of_f a0 a1 y0 y1 y2 x0 x1 x2 h0 t v u (by omega) (by omega)
    have e3 := of_f a0 a1 x0 x1 x2 x0 x1 x2 h0 t u u (by omega) (by omega)
    rw [ofS_symm a0 a1 y0 y1 y2 x0 x1 x2] at e2
    have hl := ofS_low a0 a1 x0 x1 x2 y0 y1 y2 (by omega) (by omega)
    have hs := ofS_self a0 a1 x0 x1 x2 s0
    generalize ofS a0 a1 x0 x1 x2 y0 y1 y2 = r at *
    generalize ofS a0 a1 x0 x1 x2 x0 x1 x2 = z at *
    refine Ev.congr (fun k => by rw [if_pos rfl]) (Ev.bind e1 (Ev.bind e2 (Ev.bind e3 ?_)))
    have last : ∀ (k : Nat), (if true = true then (if z.2.2 = 0 then ((cleanselaw04_of.f 1 1).bind fun bt121 => (if (z.1 == bt121.1 && (z.2.1 == bt121.2)) = true then (some true) else (some (x0 == 0)))) else (some true)) else (some false)) = some true := by
      intro k
      rw [if_pos rfl]
      by_cases hz : z.2.2 = 0
      · rw [if_pos hz]
        unfold cleanselaw04_of.f
        rw [Option.bind_some]
        by_cases hx : x0 = 0
        · split
          · rfl
          · rw [hx]; rfl
        · obtain ⟨g1, g2⟩ := hs hz hx
          rw [g1, g2]
          rfl
      · rw [if_neg hz]
    by_cases hr : r.2.2 = 0
    · obtain ⟨p, q, hlow⟩ := hl hr
      refine Ev.congr (fun k => by rw [if_pos rfl, if_neg (not_diff _ _), if_pos hr]) (Ev.bind (unit_low hlow) ?_)
      exact Ev.congr (fun k => by rw [if_pos rfl]; exact last k) (Ev.now true)
    · exact Ev.congr (fun k => by rw [if_pos rfl, if_neg (not_diff _ _), if_neg hr]; exact last k) (Ev.now true)
end Go.Proofs.YtgomlpndoolllaaDoor.Pure
end

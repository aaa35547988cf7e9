-- Printed by a program of this session out of the translation (wip/tools/qprint.sh); Lean checks it.
import Derived.Test.YtgomlpndoolllaaDoorLMetric0
import Derived.Test.YtgomlpndoolllaaDoorD5
import Derived.Test.YtgomlpndoolllaaDoorQ10
import Derived.Test.YtgomlpndoolllaaDoorQ3
namespace Go.Proofs.YtgomlpndoolllaaDoor.LMetric
open Go.RowKit Go.Proofs.YtgomlpndoolllaaDoor.Q Go.Proofs.YtgomlpndoolllaaDoorW.PrintWords Go.Proofs.YtgomlpndoolllaaDoorW.PrintLast Go.Proofs.YtgomlpndoolllaaDoorW.PrintMore
attribute [local go_sem] max2_int min2_int max_two min_two max_three min_three max_four min_four   -- for this text's walks alone
set_option linter.unusedVariables false
set_option linter.unusedSimpArgs false

-- by hand: function 11 (cleanselaw04_head)

-- by hand: function 13 (cleanseref04_Short)

-- by hand: function 14 (measure_Edit)

/-! ### cleanselaw04_MeasureMetric: function 4 -/
def cleanselaw04_MeasureMetric.f (k : Nat) (a0 : ByteArray) (a1 : ByteArray) (a2 : ByteArray) : Option (Bool) := (cleanselaw04_head.f).bind fun t101 => ((cleanseref04_Short.f k 300 (([a0, a1, a2] : List ByteArray))).bind fun t105 => (if t105 = true then ((measure_Edit.f k a0 a1).bind fun t106 => (if ((t106 == 0) != (a0.toList == a1.toList)) = true then (some false) else ((measure_Edit.f k a1 a0).bind fun t107 => (if t107 = t106 then ((measure_Edit.f k a0 a2).bind fun t108 => ((measure_Edit.f k a2 a1).bind fun t109 => (if t106 > (wrap64 (t108 + t109)) then (some false) else (if t101 = true then (if t106 ≥ (wrap64 ((mx (a0.size : Int) (a1.size : Int)) - (mn (a0.size : Int) (a1.size : Int)))) then (some (decide (t106 ≤ (mx (a0.size : Int) (a1.size : Int))))) else (some false)) else (some false))))) else (some false))))) else (some t101)))
theorem cleanselaw04_MeasureMetric.mono : ∀ a0 a1 a2 k, LeO (cleanselaw04_MeasureMetric.f k a0 a1 a2) (cleanselaw04_MeasureMetric.f (k + 1) a0 a1 a2) := by
  intro a0 a1 a2 k
  unfold cleanselaw04_MeasureMetric.f
  repeat' first
      | (with_reducible exact cleanseref04_Short.mono _ _ _)
      | (with_reducible exact measure_Edit.mono _ _ _)
      | (with_reducible exact LeO.refl _)
      | (with_reducible exact LeO.none _)
      | (with_reducible refine LeO.ite ?_ ?_)
      | (with_reducible refine LeO.bind ?_ (fun _ => ?_))
      | exact cleanseref04_Short.mono _ _ _
      | exact measure_Edit.mono _ _ _
      | exact LeO.none _
      | refine LeO.ite ?_ ?_
      | refine LeO.bind ?_ (fun _ => ?_)
set_option maxHeartbeats 8000000 in
set_option maxRecDepth 100000 in
theorem cleanselaw04_MeasureMetric.calls (k : Nat) (a0 : ByteArray) (a1 : ByteArray) (a2 : ByteArray) (r : Bool) (w : World) (hG : Gl w) (hT : r = true) (h : cleanselaw04_MeasureMetric.f k a0 a1 a2 = some r) :
    Calls Tryd.prog 4 #[.string a0, .string a1, .string a2] w fun e w' => e = .returned (.bool r) ∧ Below w.heap.size w w' := by
  have HGl := Aside0.mk hG
  clear hG
  have HT := Aside0.mk hT
  clear hT
  have HB := Aside0.mk (Below.refl w.heap.size w)
  have H : ((cleanselaw04_head.f).bind fun t101 => ((cleanseref04_Short.f k 300 (([a0, a1, a2] : List ByteArray))).bind fun t105 => (if t105 = true then ((measure_Edit.f k a0 a1).bind fun t106 => (if ((t106 == 0) != (a0.toList == a1.toList)) = true then (some false) else ((measure_Edit.f k a1 a0).bind fun t107 => (if t107 = t106 then ((measure_Edit.f k a0 a2).bind fun t108 => ((measure_Edit.f k a2 a1).bind fun t109 => (if t106 > (wrap64 (t108 + t109)) then (some false) else (if t101 = true then (if t106 ≥ (wrap64 ((mx (a0.size : Int) (a1.size : Int)) - (mn (a0.size : Int) (a1.size : Int)))) then (some (decide (t106 ≤ (mx (a0.size : Int) (a1.size : Int))))) else (some false)) else (some false))))) else (some false))))) else (some t101)))) = some r := h
  clear h
  replace H := Option.bind_eq_some_iff.mp H
  obtain ⟨t101, A40, H⟩ := H
  replace H : ((cleanseref04_Short.f k 300 (([a0, a1, a2] : List ByteArray))).bind fun t105 => (if t105 = true then ((measure_Edit.f k a0 a1).bind fun t106 => (if ((t106 == 0) != (a0.toList == a1.toList)) = true then (some false) else ((measure_Edit.f k a1 a0).bind fun t107 => (if t107 = t106 then ((measure_Edit.f k a0 a2).bind fun t108 => ((measure_Edit.f k a2 a1).bind fun t109 => (if t106 > (wrap64 (t108 + t109)) then (some false) else (if t101 = true then (if t106 ≥ (wrap64 ((mx (a0.size : Int) (a1.size : Int)) - (mn (a0.size : Int) (a1.size : Int)))) then (some (decide (t106 ≤ (mx (a0.size : Int) (a1.size : Int))))) else (some false)) else (some false))))) else (some false))))) else (some t101))) = some r := H
  have A4 := Aside0.mk A40
  clear A40
  obtain ⟨y102, hy102⟩ : ∃ y_ : List ByteArray, y_ = (([a0, a1, a2] : List ByteArray)) := ⟨_, rfl⟩
  replace H : ((cleanseref04_Short.f k 300 y102).bind fun t105 => (if t105 = true then ((measure_Edit.f k a0 a1).bind fun t106 => (if ((t106 == 0) != (a0.toList == a1.toList)) = true then (some false) else ((measure_Edit.f k a1 a0).bind fun t107 => (if t107 = t106 then ((measure_Edit.f k a0 a2).bind fun t108 => ((measure_Edit.f k a2 a1).bind fun t109 => (if t106 > (wrap64 (t108 + t109)) then (some false) else (if t101 = true then (if t106 ≥ (wrap64 ((mx (a0.size : Int) (a1.size : Int)) - (mn (a0.size : Int) (a1.size : Int)))) then (some (decide (t106 ≤ (mx (a0.size : Int) (a1.size : Int))))) else (some false)) else (some false))))) else (some false))))) else (some t101))) = some r := by first | (rw [hy102]; with_reducible exact H) | (have H2_ := (Option.bind_some _ _).symm.trans H; rw [hy102]; with_reducible exact H2_) | (have H2_ := (Option.bind_some _ _).symm.trans H; with_reducible exact H2_) | with_reducible exact H | (rw [hy102]; exact H) | exact H
  have Ny102 := Aside0.mk hy102
  clear hy102
  replace H := Option.bind_eq_some_iff.mp H
  obtain ⟨t105, A50, H⟩ := H
  replace H : (if t105 = true then ((measure_Edit.f k a0 a1).bind fun t106 => (if ((t106 == 0) != (a0.toList == a1.toList)) = true then (some false) else ((measure_Edit.f k a1 a0).bind fun t107 => (if t107 = t106 then ((measure_Edit.f k a0 a2).bind fun t108 => ((measure_Edit.f k a2 a1).bind fun t109 => (if t106 > (wrap64 (t108 + t109)) then (some false) else (if t101 = true then (if t106 ≥ (wrap64 ((mx (a0.size : Int) (a1.size : Int)) - (mn (a0.size : Int) (a1.size : Int)))) then (some (decide (t106 ≤ (mx (a0.size : Int) (a1.size : Int))))) else (some false)) else (some false))))) else (some false))))) else (some t101)) = some r := H
  have A5 := Aside0.mk A50
  clear A50
  by_cases c6 : t105 = true
  · subst c6
    have H1 : ((measure_Edit.f k a0 a1).bind fun t106 => (if ((t106 == 0) != (a0.toList == a1.toList)) = true then (some false) else ((measure_Edit.f k a1 a0).bind fun t107 => (if t107 = t106 then ((measure_Edit.f k a0 a2).bind fun t108 => ((measure_Edit.f k a2 a1).bind fun t109 => (if t106 > (wrap64 (t108 + t109)) then (some false) else (if t101 = true then (if t106 ≥ (wrap64 ((mx (a0.size : Int) (a1.size : Int)) - (mn (a0.size : Int) (a1.size : Int)))) then (some (decide (t106 ≤ (mx (a0.size : Int) (a1.size : Int))))) else (some false)) else (some false))))) else (some false))))) = some r := by rw [if_pos rfl] at H; exact H
    clear H
    have H := H1
    clear H1
    replace H := Option.bind_eq_some_iff.mp H
    obtain ⟨t106, A70, H⟩ := H
    replace H : (if ((t106 == 0) != (a0.toList == a1.toList)) = true then (some false) else ((measure_Edit.f k a1 a0).bind fun t107 => (if t107 = t106 then ((measure_Edit.f k a0 a2).bind fun t108 => ((measure_Edit.f k a2 a1).bind fun t109 => (if t106 > (wrap64 (t108 + t109)) then (some false) else (if t101 = true then (if t106 ≥ (wrap64 ((mx (a0.size : Int) (a1.size : Int)) - (mn (a0.size : Int) (a1.size : Int)))) then (some (decide (t106 ≤ (mx (a0.size : Int) (a1.size : Int))))) else (some false)) else (some false))))) else (some false)))) = some r := H
    have A7 := Aside0.mk A70
    clear A70
    by_cases c8 : ((t106 == 0) != (a0.toList == a1.toList)) = true
    · rw [if_pos c8] at H
      have c8b0 : ((t106 == 0) != (a0.toList == a1.toList)) = true := c8
      (try (have c8b1 : decide ((t106 == 0) = (a0.toList == a1.toList)) = false := by simpa using c8))
      (try (have c8b2 : ((t106 == 0) == (a0.toList == a1.toList)) = false := by simpa using c8))
      (try (have c8b3 : ¬ ((t106 == 0) = (a0.toList == a1.toList)) := by simpa using c8))
      clear c8
      exact absurd ((Option.some.inj H).trans HT.out) (by decide)
    · rw [if_neg c8] at H
      have c8b0 : ((t106 == 0) != (a0.toList == a1.toList)) = false := by simpa using c8
      (try (have c8b1 : decide ((t106 == 0) = (a0.toList == a1.toList)) = true := by simpa using c8))
      (try (have c8b2 : ((t106 == 0) == (a0.toList == a1.toList)) = true := by simpa using c8))
      clear c8
      replace H := Option.bind_eq_some_iff.mp H
      obtain ⟨t107, A90, H⟩ := H
      replace H : (if t107 = t106 then ((measure_Edit.f k a0 a2).bind fun t108 => ((measure_Edit.f k a2 a1).bind fun t109 => (if t106 > (wrap64 (t108 + t109)) then (some false) else (if t101 = true then (if t106 ≥ (wrap64 ((mx (a0.size : Int) (a1.size : Int)) - (mn (a0.size : Int) (a1.size : Int)))) then (some (decide (t106 ≤ (mx (a0.size : Int) (a1.size : Int))))) else (some false)) else (some false))))) else (some false)) = some r := H
      have A9 := Aside0.mk A90
      clear A90
      by_cases c10 : t107 = t106
      · rw [if_pos c10] at H
        have c10b0 : (t107 == t106) = true := beq_iff_eq.mpr c10
        have c10b1 : (t107 != t106) = false := bne_eq_false_iff_eq.mpr c10
        clear c10
        replace H := Option.bind_eq_some_iff.mp H
        obtain ⟨t108, A110, H⟩ := H
        replace H : ((measure_Edit.f k a2 a1).bind fun t109 => (if t106 > (wrap64 (t108 + t109)) then (some false) else (if t101 = true then (if t106 ≥ (wrap64 ((mx (a0.size : Int) (a1.size : Int)) - (mn (a0.size : Int) (a1.size : Int)))) then (some (decide (t106 ≤ (mx (a0.size : Int) (a1.size : Int))))) else (some false)) else (some false)))) = some r := H
        have A11 := Aside0.mk A110
        clear A110
        replace H := Option.bind_eq_some_iff.mp H
        obtain ⟨t109, A120, H⟩ := H
        replace H : (if t106 > (wrap64 (t108 + t109)) then (some false) else (if t101 = true then (if t106 ≥ (wrap64 ((mx (a0.size : Int) (a1.size : Int)) - (mn (a0.size : Int) (a1.size : Int)))) then (some (decide (t106 ≤ (mx (a0.size : Int) (a1.size : Int))))) else (some false)) else (some false))) = some r := H
        have A12 := Aside0.mk A120
        clear A120
        by_cases c13 : t106 > (wrap64 (t108 + t109))
        · rw [if_pos c13] at H
          have c13b0 : decide ((wrap64 (t108 + t109)) < t106) = true := decide_eq_true c13
          clear c13
          exact absurd ((Option.some.inj H).trans HT.out) (by decide)
        · rw [if_neg c13] at H
          have c13b0 : decide ((wrap64 (t108 + t109)) < t106) = false := decide_eq_false c13
          clear c13
          by_cases c14 : t101 = true
          · subst c14
            have H1 : (if t106 ≥ (wrap64 ((mx (a0.size : Int) (a1.size : Int)) - (mn (a0.size : Int) (a1.size : Int)))) then (some (decide (t106 ≤ (mx (a0.size : Int) (a1.size : Int))))) else (some false)) = some r := by rw [if_pos rfl] at H; exact H
            clear H
            have H := H1
            clear H1
            obtain ⟨ji15, hji15⟩ : ∃ j_ : Int, (mx (a0.size : Int) (a1.size : Int)) = j_ := ⟨_, rfl⟩
            replace H : (if t106 ≥ (wrap64 ((ji15) - (mn (a0.size : Int) (a1.size : Int)))) then (some (decide (t106 ≤ (ji15)))) else (some false)) = some r := by first | (rw [hji15] at H; exact H) | (simp only [hji15] at H ⊢; exact H)
            (try rw [hji15] at A4)
            (try rw [hji15] at A5)
            (try rw [hji15] at A7)
            (try rw [hji15] at A9)
            (try rw [hji15] at A11)
            (try rw [hji15] at A12)
            (try (have hji15l : 0 ≤ ji15 := by (rw [← hji15]; unfold mx; (repeat' split) <;> omega)))
            (try (have hji15m : 0 ≤ ji15 := by omega))
            have hji15_ : (if (a0.size : Int) < (a1.size : Int) then (a1.size : Int) else (a0.size : Int)) = ji15 := hji15
            (try (have hji15n_ := hji15_; simp only [Int.ofNat_lt] at hji15n_))
            obtain ⟨ji16, hji16⟩ : ∃ j_ : Int, (mn (a0.size : Int) (a1.size : Int)) = j_ := ⟨_, rfl⟩
            replace H : (if t106 ≥ (wrap64 ((ji15) - (ji16))) then (some (decide (t106 ≤ (ji15)))) else (some false)) = some r := by first | (rw [hji16] at H; exact H) | (simp only [hji16] at H ⊢; exact H)
            (try rw [hji16] at A4)
            (try rw [hji16] at A5)
            (try rw [hji16] at A7)
            (try rw [hji16] at A9)
            (try rw [hji16] at A11)
            (try rw [hji16] at A12)
            (try (have hji16l : 0 ≤ ji16 := by (rw [← hji16]; unfold mn; (repeat' split) <;> omega)))
            (try (have hji16m : 0 ≤ ji16 := by omega))
            have hji16_ : (if (a1.size : Int) < (a0.size : Int) then (a1.size : Int) else (a0.size : Int)) = ji16 := hji16
            (try (have hji16n_ := hji16_; simp only [Int.ofNat_lt] at hji16n_))
            by_cases c17 : t106 ≥ (wrap64 ((ji15) - (ji16)))
            · rw [if_pos c17] at H
              have c17b0 : decide ((wrap64 ((ji15) - (ji16))) ≤ t106) = true := decide_eq_true c17
              clear c17
              obtain rfl := Option.some.inj H
              go_enter Tryd.func4, Tryd.ntmps4
              go_wp2_with (first | ((with_reducible refine gate_callee (f := 11) rfl ?_); refine goesL_ (some 9) rfl rfl Tryd.func11 (by kernel_rfl) rfl #[] rfl (by (try simp only [List.map_toArray, List.map_cons, List.map_nil]); first | done | rfl | (simp only [List.length_drop, List.length_take]; rfl) | (simp only [Int.add_zero]; rfl) | (simp; done)) ?_; (with_reducible refine (cleanselaw04_head.calls  true _ ?sGl A4.out).mono ?_); (case sGl => exact Gl.below HGl.out (by repeat (first | (with_reducible first | exact HB.out | apply below_alloc | apply pw_below_drewN | apply below_drew1 | refine below_set ?_ (Aside0.out (by assumption))) | exact HB.out))); rintro e w18 ⟨rfl, hb⟩; refine ⟨_, rfl, ?_⟩; have n0_ := Aside0.mk (below_step (by repeat (first | (with_reducible first | exact HB.out | apply below_alloc | apply pw_below_drewN | apply below_drew1) | exact HB.out)) hb); clear HB; have HB := n0_; clear n0_; (try clear hb); (try clear hb2); (try clear hk); (try clear hi)) | ((with_reducible refine gate_dst (N := 13) rfl ?_); (try (refine gate_guard (by rfl) ?_; dsimp only)); refine Kd.R_lit Kd.string _ 9 ?hg (N := 13) ?hd (xs := ([a0, a1, a2] : List ByteArray)) (inner := [.string a0, .string a1, .string a2]) (ok := fun _ => True) (okp := fun _ => True) ?hr ?hp (fun _ hk => hk) trivial (Below.refl _ _) (Nat.le_refl _) (by simp) ?_; (case hd => rfl); (case hg => rfl); (case hr => first | (go_simp; done) | (go_simp; rfl)); (case hp => exact (Reps.one (show Kd.M Kd.string _ _ _ a0 [.string a0] from rfl) (Reps.one (show Kd.M Kd.string _ _ _ a1 [.string a1] from rfl) (Reps.one (show Kd.M Kd.string _ _ _ a2 [.string a2] from rfl) (Reps.none _ _))))); intro v103 w19 ho20 hb hg_ hnew_; clear hg_ hnew_; (first | rw [← Ny102.out] at ho20 | (simp only [Int.reduceToNat] at ho20; rw [← Ny102.out] at ho20)); have n0_ := Aside0.mk (Kd.R_lower ho20 (below_size (by repeat (first | (with_reducible first | exact HB.out | apply below_alloc | apply pw_below_drewN | apply below_drew1) | exact HB.out)))); have n1_ := Aside0.mk (below_step (by repeat (first | (with_reducible first | exact HB.out | apply below_alloc | apply pw_below_drewN | apply below_drew1) | exact HB.out)) hb); clear HB; have HO104 := n0_; have HB := n1_; clear n0_ n1_; clear hb ho20; obtain ⟨Ao21, co21, eo21⟩ := Kd.R_slice HO104.out; subst eo21) | ((with_reducible refine gate_callee (f := 13) rfl ?_); refine goesL_ (some 14) rfl rfl Tryd.func13 (by kernel_rfl) rfl #[.int .i64 300, .slice Ao21 y102.length co21] rfl (by (try simp only [List.map_toArray, List.map_cons, List.map_nil]); first | done | rfl | (simp only [List.length_drop, List.length_take]; rfl) | (simp only [Int.add_zero]; rfl) | (simp; done)) ?_; (with_reducible refine (cleanseref04_Short.calls k 300 _ _ y102 true _ ?side1 ?side2 A5.out).mono ?_); (case side1 => repeat (first | exact (Kd.R_reads' HO104.out).2.2 | (with_reducible refine Kd.C_alloc ?_ _) | (with_reducible refine Kd.C_drewN ?_ _) | (with_reducible refine Kd.C_drew ?_))); (case side2 => exact (Kd.R_reads' HO104.out).2.1); rintro e w' ⟨rfl, ⟨nd, rfl⟩⟩; refine ⟨_, rfl, ?_⟩) | ((with_reducible refine gate_callee (f := 14) rfl ?_); refine goesL_ (some 19) rfl rfl Tryd.func14 (by kernel_rfl) rfl #[.string a0, .string a1] rfl (by (try simp only [List.map_toArray, List.map_cons, List.map_nil]); first | done | rfl | (simp only [List.length_drop, List.length_take]; rfl) | (simp only [Int.add_zero]; rfl) | (simp; done)) ?_; (with_reducible refine (measure_Edit.calls k a0 a1 t106 _ A7.out).mono ?_); rintro e w22 ⟨rfl, hb⟩; refine ⟨_, rfl, ?_⟩; have n0_ := Aside0.mk (Kd.R_below (by (with_reducible repeat (first | apply Kd.R_alloc | apply Kd.R_drewN | apply Kd.R_drew)); exact HO104.out) hb); have n1_ := Aside0.mk (below_step (by repeat (first | (with_reducible first | exact HB.out | apply below_alloc | apply pw_below_drewN | apply below_drew1) | exact HB.out)) hb); clear HO104; clear HB; have HO104 := n0_; have HB := n1_; clear n0_ n1_; (try clear hb); (try clear hb2); (try clear hk); (try clear hi)) | (go_at_call 14; (with_reducible refine (measure_Edit.calls k a1 a0 t107 _ A9.out).mono ?_); rintro e w23 ⟨rfl, hb⟩; have n0_ := Aside0.mk (Kd.R_below (by (with_reducible repeat (first | apply Kd.R_alloc | apply Kd.R_drewN | apply Kd.R_drew)); exact HO104.out) hb); have n1_ := Aside0.mk (below_step (by repeat (first | (with_reducible first | exact HB.out | apply below_alloc | apply pw_below_drewN | apply below_drew1) | exact HB.out)) hb); clear HO104; clear HB; have HO104 := n0_; have HB := n1_; clear n0_ n1_; (try clear hb); (try clear hb2); (try clear hk); (try clear hi)) | (go_at_call 14; (with_reducible refine (measure_Edit.calls k a0 a2 t108 _ A11.out).mono ?_); rintro e w24 ⟨rfl, hb⟩; have n0_ := Aside0.mk (Kd.R_below (by (with_reducible repeat (first | apply Kd.R_alloc | apply Kd.R_drewN | apply Kd.R_drew)); exact HO104.out) hb); have n1_ := Aside0.mk (below_step (by repeat (first | (with_reducible first | exact HB.out | apply below_alloc | apply pw_below_drewN | apply below_drew1) | exact HB.out)) hb); clear HO104; clear HB; have HO104 := n0_; have HB := n1_; clear n0_ n1_; (try clear hb); (try clear hb2); (try clear hk); (try clear hi)) | (go_at_call 14; (with_reducible refine (measure_Edit.calls k a2 a1 t109 _ A12.out).mono ?_); rintro e w25 ⟨rfl, hb⟩; have n0_ := Aside0.mk (Kd.R_below (by (with_reducible repeat (first | apply Kd.R_alloc | apply Kd.R_drewN | apply Kd.R_drew)); exact HO104.out) hb); have n1_ := Aside0.mk (below_step (by repeat (first | (with_reducible first | exact HB.out | apply below_alloc | apply pw_below_drewN | apply below_drew1) | exact HB.out)) hb); clear HO104; clear HB; have HO104 := n0_; have HB := n1_; clear n0_ n1_; (try clear hb); (try clear hb2); (try clear hk); (try clear hi)))
              go_ret
              exact ⟨by first | rfl | (simp [errW_none, errW_some] <;> rfl) | (simp only [← hji15, ← hji16]; first | rfl | (simp [errW_none, errW_some] <;> rfl)) | (simp [*, errW_none, errW_some] <;> rfl), by repeat (first | (with_reducible first | exact HB.out | apply below_alloc | apply pw_below_drewN | apply below_drew1) | exact HB.out)⟩
            · rw [if_neg c17] at H
              have c17b0 : decide ((wrap64 ((ji15) - (ji16))) ≤ t106) = false := decide_eq_false c17
              clear c17
              exact absurd ((Option.some.inj H).trans HT.out) (by decide)
          · replace c14 := Bool.eq_false_iff.mpr c14
            subst c14
            have H1 : (some false) = some r := by rw [if_neg (show ¬ (false = true) by decide)] at H; exact H
            clear H
            have H := H1
            clear H1
            exact absurd ((Option.some.inj H).trans HT.out) (by decide)
      · rw [if_neg c10] at H
        have c10b0 : (t107 == t106) = false := beq_eq_false_iff_ne.mpr c10
        have c10b1 : (t107 != t106) = true := bne_iff_ne.mpr c10
        exact absurd ((Option.some.inj H).trans HT.out) (by decide)
  · replace c6 := Bool.eq_false_iff.mpr c6
    subst c6
    have H1 : (some t101) = some r := by rw [if_neg (show ¬ (false = true) by decide)] at H; exact H
    clear H
    have H := H1
    clear H1
    obtain rfl := Option.some.inj H
    go_enter Tryd.func4, Tryd.ntmps4
    go_wp2_with (first | ((with_reducible refine gate_callee (f := 11) rfl ?_); refine goesL_ (some 9) rfl rfl Tryd.func11 (by kernel_rfl) rfl #[] rfl (by (try simp only [List.map_toArray, List.map_cons, List.map_nil]); first | done | rfl | (simp only [List.length_drop, List.length_take]; rfl) | (simp only [Int.add_zero]; rfl) | (simp; done)) ?_; (with_reducible refine (cleanselaw04_head.calls  t101 _ ?sGl A4.out).mono ?_); (case sGl => exact Gl.below HGl.out (by repeat (first | (with_reducible first | exact HB.out | apply below_alloc | apply pw_below_drewN | apply below_drew1 | refine below_set ?_ (Aside0.out (by assumption))) | exact HB.out))); rintro e w26 ⟨rfl, hb⟩; refine ⟨_, rfl, ?_⟩; have n0_ := Aside0.mk (below_step (by repeat (first | (with_reducible first | exact HB.out | apply below_alloc | apply pw_below_drewN | apply below_drew1) | exact HB.out)) hb); clear HB; have HB := n0_; clear n0_; (try clear hb); (try clear hb2); (try clear hk); (try clear hi)) | ((with_reducible refine gate_dst (N := 13) rfl ?_); (try (refine gate_guard (by rfl) ?_; dsimp only)); refine Kd.R_lit Kd.string _ 9 ?hg (N := 13) ?hd (xs := ([a0, a1, a2] : List ByteArray)) (inner := [.string a0, .string a1, .string a2]) (ok := fun _ => True) (okp := fun _ => True) ?hr ?hp (fun _ hk => hk) trivial (Below.refl _ _) (Nat.le_refl _) (by simp) ?_; (case hd => rfl); (case hg => rfl); (case hr => first | (go_simp; done) | (go_simp; rfl)); (case hp => exact (Reps.one (show Kd.M Kd.string _ _ _ a0 [.string a0] from rfl) (Reps.one (show Kd.M Kd.string _ _ _ a1 [.string a1] from rfl) (Reps.one (show Kd.M Kd.string _ _ _ a2 [.string a2] from rfl) (Reps.none _ _))))); intro v103 w27 ho28 hb hg_ hnew_; clear hg_ hnew_; (first | rw [← Ny102.out] at ho28 | (simp only [Int.reduceToNat] at ho28; rw [← Ny102.out] at ho28)); have n0_ := Aside0.mk (Kd.R_lower ho28 (below_size (by repeat (first | (with_reducible first | exact HB.out | apply below_alloc | apply pw_below_drewN | apply below_drew1) | exact HB.out)))); have n1_ := Aside0.mk (below_step (by repeat (first | (with_reducible first | exact HB.out | apply below_alloc | apply pw_below_drewN | apply below_drew1) | exact HB.out)) hb); clear HB; have HO104 := n0_; have HB := n1_; clear n0_ n1_; clear hb ho28; obtain ⟨Ao29, co29, eo29⟩ := Kd.R_slice HO104.out; subst eo29) | ((with_reducible refine gate_callee (f := 13) rfl ?_); refine goesL_ (some 14) rfl rfl Tryd.func13 (by kernel_rfl) rfl #[.int .i64 300, .slice Ao29 y102.length co29] rfl (by (try simp only [List.map_toArray, List.map_cons, List.map_nil]); first | done | rfl | (simp only [List.length_drop, List.length_take]; rfl) | (simp only [Int.add_zero]; rfl) | (simp; done)) ?_; (with_reducible refine (cleanseref04_Short.calls k 300 _ _ y102 false _ ?side1 ?side2 A5.out).mono ?_); (case side1 => repeat (first | exact (Kd.R_reads' HO104.out).2.2 | (with_reducible refine Kd.C_alloc ?_ _) | (with_reducible refine Kd.C_drewN ?_ _) | (with_reducible refine Kd.C_drew ?_))); (case side2 => exact (Kd.R_reads' HO104.out).2.1); rintro e w' ⟨rfl, ⟨nd, rfl⟩⟩; refine ⟨_, rfl, ?_⟩))
    go_ret
    exact ⟨by first | rfl | (simp [errW_none, errW_some] <;> rfl) | (simp [*, errW_none, errW_some] <;> rfl), by repeat (first | (with_reducible first | exact HB.out | apply below_alloc | apply pw_below_drewN | apply below_drew1) | exact HB.out)⟩

/-- THE ONE PURE STATEMENT of cleanselaw04_MeasureMetric: yours. -/
def cleanselaw04_MeasureMetric.Pure : Prop := ∀ (a0 : ByteArray) (a1 : ByteArray) (a2 : ByteArray), a0.size ≤ 140737488351232 → a1.size ≤ 140737488351232 → a2.size ≤ 140737488351232 → ∃ k, cleanselaw04_MeasureMetric.f k a0 a1 a2 = some true
theorem cleanselaw04_MeasureMetric.walk (P : cleanselaw04_MeasureMetric.Pure) (a0 : ByteArray) (a1 : ByteArray) (a2 : ByteArray) (w : World) (hG : Gl w) (w0 : a0.size ≤ 140737488351232) (w1 : a1.size ≤ 140737488351232) (w2 : a2.size ≤ 140737488351232) :
    Calls Tryd.prog 4 #[.string a0, .string a1, .string a2] w fun e w' => e = .returned (.bool true) ∧ Below w.heap.size w w' := by
  obtain ⟨k, h⟩ := P a0 a1 a2 w0 w1 w2
  refine (cleanselaw04_MeasureMetric.calls k a0 a1 a2 true w hG rfl h).mono ?_
  rintro e w' ⟨rfl, hd⟩
  exact ⟨rfl, hd⟩

end Go.Proofs.YtgomlpndoolllaaDoor.LMetric

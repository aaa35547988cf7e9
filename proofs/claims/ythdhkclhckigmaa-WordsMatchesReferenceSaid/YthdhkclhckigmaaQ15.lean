-- Printed by a program of this session out of the translation (wip/tools/qprint.sh); Lean checks it.
import Derived.Test.YthdhkclhckigmaaQ0
import Derived.Test.YthdhkclhckigmaaQ1
import Derived.Test.YthdhkclhckigmaaQ2
import Derived.Test.YthdhkclhckigmaaQ3
import Derived.Test.YthdhkclhckigmaaQ13
import Derived.Test.YthdhkclhckigmaaQ14
import Derived.Test.YthdhkclhckigmaaA5
import Derived.Test.YthdhkclhckigmaaB2
import Derived.Test.YthdhkclhckigmaaB3
namespace Go.Proofs.Ythdhkclhckigmaa.Q
open Go.RowKit Go.Proofs.YthdhkclhckigmaaW.PrintWords Go.Proofs.YthdhkclhckigmaaW.PrintLast Go.Proofs.YthdhkclhckigmaaW.PrintMore
attribute [local go_sem] max2_int min2_int max_two min_two max_three min_three max_four min_four   -- for this text's walks alone
set_option linter.unusedVariables false
set_option linter.unusedSimpArgs false

/-! ### cleanselaw03_WordsMatchesReference: function 3 -/
mutual
def cleanselaw03_WordsMatchesReference.j0 : Nat → ByteArray → Int → List ByteArray → List ByteArray → Bool → Bool → Option (Bool)
  | 0, _, _, _, _, _, _ => none
  | k + 1, x0, x1, x2, x3, x9, x24 => if x24 = true then (some x9) else ((words_Fold.f x0).bind fun t362 => ((cleanseref03_Fold.f k x0).bind fun t363 => (if t362.toList = t363.toList then ((words_Tokens.f x0).bind fun t364 => ((cleanseref03_Tokens.f k x0).bind fun t367 => ((cleanseref03_Same.f k t364 t367).bind fun t370 => (cleanselaw03_WordsMatchesReference.j1 k x0 x1 x2 x3 x9 t370)))) else (cleanselaw03_WordsMatchesReference.j1 k x0 x1 x2 x3 x9 false))))
def cleanselaw03_WordsMatchesReference.j1 : Nat → ByteArray → Int → List ByteArray → List ByteArray → Bool → Bool → Option (Bool)
  | 0, _, _, _, _, _, _ => none
  | k + 1, x0, x1, x2, x3, x9, x10 => if x9 = true then (if x10 = true then ((words_Grams.f x0 x1).bind fun t371 => ((cleanseref03_Grams.f k x0 x1).bind fun t374 => ((cleanseref03_Same.f k t371 t374).bind fun t377 => (if t377 = true then ((words_Common.f k x2 x3).bind fun t378 => ((cleanseref03_Common.f k x2 x3).bind fun t379 => (some (t378 == t379)))) else (some false))))) else (some false)) else (some false)
end
def cleanselaw03_WordsMatchesReference.f (k : Nat) (a0 : ByteArray) (a1 : Int) (l2 : List ByteArray) (l3 : List ByteArray) : Option (Bool) := (cleanselaw03_head.f k).bind fun t361 => (if (a0.size : Int) > 1000 then (cleanselaw03_WordsMatchesReference.j0 k a0 a1 l2 l3 t361 true) else (if (l2.length : Int) > 200 then (cleanselaw03_WordsMatchesReference.j0 k a0 a1 l2 l3 t361 true) else (cleanselaw03_WordsMatchesReference.j0 k a0 a1 l2 l3 t361 (decide ((l3.length : Int) > 200)))))
theorem cleanselaw03_WordsMatchesReference.mono_l : ∀ k, (∀ y0 y1 y2 y3 y4 y5, LeO (cleanselaw03_WordsMatchesReference.j0 k y0 y1 y2 y3 y4 y5) (cleanselaw03_WordsMatchesReference.j0 (k + 1) y0 y1 y2 y3 y4 y5)) ∧ (∀ y0 y1 y2 y3 y4 y5, LeO (cleanselaw03_WordsMatchesReference.j1 k y0 y1 y2 y3 y4 y5) (cleanselaw03_WordsMatchesReference.j1 (k + 1) y0 y1 y2 y3 y4 y5))
  | 0 => ⟨fun _ _ _ _ _ _ r h => by simp [cleanselaw03_WordsMatchesReference.j0] at h, fun _ _ _ _ _ _ r h => by simp [cleanselaw03_WordsMatchesReference.j1] at h⟩
  | k + 1 => by
    obtain ⟨ih0, ih1⟩ := cleanselaw03_WordsMatchesReference.mono_l k
    refine ⟨?_, ?_⟩
    · intro y0 y1 y2 y3 y4 y5
      unfold cleanselaw03_WordsMatchesReference.j0
      repeat' first
      | (with_reducible exact ih0 _ _ _ _ _ _)
      | (with_reducible exact ih1 _ _ _ _ _ _)
      | (with_reducible exact cleanselaw03_head.mono _)
      | (with_reducible exact cleanseref03_Common.mono _ _ _)
      | (with_reducible exact cleanseref03_Fold.mono _ _)
      | (with_reducible exact cleanseref03_Grams.mono _ _ _)
      | (with_reducible exact cleanseref03_Same.mono _ _ _)
      | (with_reducible exact cleanseref03_Tokens.mono _ _)
      | (with_reducible exact words_Common.mono _ _ _)
      | (with_reducible exact LeO.refl _)
      | (with_reducible exact LeO.none _)
      | (with_reducible refine LeO.ite ?_ ?_)
      | (with_reducible refine LeO.bind ?_ (fun _ => ?_))
      | exact ih0 _ _ _ _ _ _
      | exact ih1 _ _ _ _ _ _
      | exact cleanselaw03_head.mono _
      | exact cleanseref03_Common.mono _ _ _
      | exact cleanseref03_Fold.mono _ _
      | exact cleanseref03_Grams.mono _ _ _
      | exact cleanseref03_Same.mono _ _ _
      | exact cleanseref03_Tokens.mono _ _
      | exact words_Common.mono _ _ _
      | exact LeO.none _
      | refine LeO.ite ?_ ?_
      | refine LeO.bind ?_ (fun _ => ?_)
    · intro y0 y1 y2 y3 y4 y5
      unfold cleanselaw03_WordsMatchesReference.j1
      repeat' first
      | (with_reducible exact ih0 _ _ _ _ _ _)
      | (with_reducible exact ih1 _ _ _ _ _ _)
      | (with_reducible exact cleanselaw03_head.mono _)
      | (with_reducible exact cleanseref03_Common.mono _ _ _)
      | (with_reducible exact cleanseref03_Fold.mono _ _)
      | (with_reducible exact cleanseref03_Grams.mono _ _ _)
      | (with_reducible exact cleanseref03_Same.mono _ _ _)
      | (with_reducible exact cleanseref03_Tokens.mono _ _)
      | (with_reducible exact words_Common.mono _ _ _)
      | (with_reducible exact LeO.refl _)
      | (with_reducible exact LeO.none _)
      | (with_reducible refine LeO.ite ?_ ?_)
      | (with_reducible refine LeO.bind ?_ (fun _ => ?_))
      | exact ih0 _ _ _ _ _ _
      | exact ih1 _ _ _ _ _ _
      | exact cleanselaw03_head.mono _
      | exact cleanseref03_Common.mono _ _ _
      | exact cleanseref03_Fold.mono _ _
      | exact cleanseref03_Grams.mono _ _ _
      | exact cleanseref03_Same.mono _ _ _
      | exact cleanseref03_Tokens.mono _ _
      | exact words_Common.mono _ _ _
      | exact LeO.none _
      | refine LeO.ite ?_ ?_
      | refine LeO.bind ?_ (fun _ => ?_)
theorem cleanselaw03_WordsMatchesReference.mono : ∀ a0 a1 a2 a3 k, LeO (cleanselaw03_WordsMatchesReference.f k a0 a1 a2 a3) (cleanselaw03_WordsMatchesReference.f (k + 1) a0 a1 a2 a3) := by
  intro a0 a1 a2 a3 k
  obtain ⟨ih0, ih1⟩ := cleanselaw03_WordsMatchesReference.mono_l k
  unfold cleanselaw03_WordsMatchesReference.f
  repeat' first
      | (with_reducible exact ih0 _ _ _ _ _ _)
      | (with_reducible exact ih1 _ _ _ _ _ _)
      | (with_reducible exact cleanselaw03_head.mono _)
      | (with_reducible exact cleanseref03_Common.mono _ _ _)
      | (with_reducible exact cleanseref03_Fold.mono _ _)
      | (with_reducible exact cleanseref03_Grams.mono _ _ _)
      | (with_reducible exact cleanseref03_Same.mono _ _ _)
      | (with_reducible exact cleanseref03_Tokens.mono _ _)
      | (with_reducible exact words_Common.mono _ _ _)
      | (with_reducible exact LeO.refl _)
      | (with_reducible exact LeO.none _)
      | (with_reducible refine LeO.ite ?_ ?_)
      | (with_reducible refine LeO.bind ?_ (fun _ => ?_))
      | exact ih0 _ _ _ _ _ _
      | exact ih1 _ _ _ _ _ _
      | exact cleanselaw03_head.mono _
      | exact cleanseref03_Common.mono _ _ _
      | exact cleanseref03_Fold.mono _ _
      | exact cleanseref03_Grams.mono _ _ _
      | exact cleanseref03_Same.mono _ _ _
      | exact cleanseref03_Tokens.mono _ _
      | exact words_Common.mono _ _ _
      | exact LeO.none _
      | refine LeO.ite ?_ ?_
      | refine LeO.bind ?_ (fun _ => ?_)
set_option maxHeartbeats 8000000 in
set_option maxRecDepth 100000 in
theorem cleanselaw03_WordsMatchesReference.calls (k : Nat) (a0 : ByteArray) (a1 : Int) (A2 : Option Addr) (c2 : Nat) (l2 : List ByteArray) (A3 : Option Addr) (c3 : Nat) (l3 : List ByteArray) (r : Bool) (w : World) (hr2 : Kd.C Kd.string w A2 l2.length l2) (hc2 : l2.length ≤ c2) (hr3 : Kd.C Kd.string w A3 l3.length l3) (hc3 : l3.length ≤ c3) (h : cleanselaw03_WordsMatchesReference.f k a0 a1 l2 l3 = some r) :
    Calls Try.prog 3 #[.string a0, .int .i64 a1, .slice A2 l2.length c2, .slice A3 l3.length c3] w fun e w' => e = .returned (.bool r) ∧ Below w.heap.size w w' := by
  have HR2 := Aside0.mk hr2
  have HC2 := Aside0.mk hc2
  clear hr2 hc2
  have HR3 := Aside0.mk hr3
  have HC3 := Aside0.mk hc3
  clear hr3 hc3
  have HB := Aside0.mk (Below.refl w.heap.size w)
  have H : ((cleanselaw03_head.f k).bind fun t361 => (if (a0.size : Int) > 1000 then (cleanselaw03_WordsMatchesReference.j0 k a0 a1 l2 l3 t361 true) else (if (l2.length : Int) > 200 then (cleanselaw03_WordsMatchesReference.j0 k a0 a1 l2 l3 t361 true) else (cleanselaw03_WordsMatchesReference.j0 k a0 a1 l2 l3 t361 (decide ((l3.length : Int) > 200)))))) = some r := h
  clear h
  replace H := Option.bind_eq_some_iff.mp H
  obtain ⟨t361, A50, H⟩ := H
  replace H : (if (a0.size : Int) > 1000 then (cleanselaw03_WordsMatchesReference.j0 k a0 a1 l2 l3 t361 true) else (if (l2.length : Int) > 200 then (cleanselaw03_WordsMatchesReference.j0 k a0 a1 l2 l3 t361 true) else (cleanselaw03_WordsMatchesReference.j0 k a0 a1 l2 l3 t361 (decide ((l3.length : Int) > 200))))) = some r := H
  have A5 := Aside0.mk A50
  clear A50
  have HC6 := Aside0.mk H
  clear H
  go_enter Try.func3, Try.ntmps3
  go_upto_region 2 with (first | ((with_reducible refine gate_callee (f := 10) rfl ?_); refine goesL_ (some 11) rfl rfl Try.func10 (by kernel_rfl) rfl #[] rfl (by (try simp only [List.map_toArray, List.map_cons, List.map_nil]); first | done | rfl | (simp only [List.length_drop, List.length_take]; rfl)) ?_; (with_reducible refine (cleanselaw03_head.calls k  t361 _ A5.out).mono ?_); rintro e w7 ⟨rfl, hb⟩; refine ⟨_, rfl, ?_⟩; have n0_ := Aside0.mk (below_step (by repeat (first | (with_reducible first | exact HB.out | apply below_alloc | apply pw_below_drewN | apply below_drew1) | exact HB.out)) hb); clear HB; have HB := n0_; clear n0_; (try clear hb); (try clear hb2); (try clear hk); (try clear hi)))
  (try simp only [Act.put, List.setIfInBounds_toArray, List.set_cons_zero, List.set_cons_succ])
  go_cut [24] (fun v24 wc => ∃ (kq : Nat) (x24_5 : Bool), v24 = .bool x24_5 ∧ Aside0 (cleanselaw03_WordsMatchesReference.j0 kq a0 a1 l2 l3 t361 x24_5 = some r) ∧ Aside0 (kq ≤ k) ∧ Aside0 (Below w.heap.size w wc))
  case first =>
    have H := HC6.out
    clear HC6
    by_cases c8 : (a0.size : Int) > 1000
    · rw [if_pos c8] at H
      have c8b0 : decide (1000 < (a0.size : Int)) = true := decide_eq_true c8
      have c8b1 : decide (1000 < a0.size) = true := decide_eq_true (by omega)
      clear c8
      (first | rw [c8b0] | (simp only [i64_w, i32_w]; rw [c8b0]) | skip)
      have H' := Aside0.mk H
      clear H
      go_wp2
      go_meet
      case rel => exact ⟨_, (true), (by first | rfl | (simp; done) | (simp [*]; done)), H', ⟨by first | omega | exact Nat.le_refl _⟩, ⟨by repeat (first | (with_reducible first | exact HB.out | apply below_alloc | apply pw_below_drewN | apply below_drew1) | exact HB.out)⟩⟩
    · rw [if_neg c8] at H
      have c8b0 : decide (1000 < (a0.size : Int)) = false := decide_eq_false c8
      have c8b1 : decide (1000 < a0.size) = false := decide_eq_false (by omega)
      clear c8
      (first | rw [c8b0] | (simp only [i64_w, i32_w]; rw [c8b0]) | skip)
      by_cases c9 : (l2.length : Int) > 200
      · rw [if_pos c9] at H
        have c9b0 : decide (200 < (l2.length : Int)) = true := decide_eq_true c9
        have c9b1 : decide (200 < l2.length) = true := decide_eq_true (by omega)
        clear c9
        have H' := Aside0.mk H
        clear H
        go_wp2
        go_meet
        case rel => exact ⟨_, (true), (by first | rfl | (simp; done) | (simp [*]; done)), H', ⟨by first | omega | exact Nat.le_refl _⟩, ⟨by repeat (first | (with_reducible first | exact HB.out | apply below_alloc | apply pw_below_drewN | apply below_drew1) | exact HB.out)⟩⟩
      · rw [if_neg c9] at H
        have c9b0 : decide (200 < (l2.length : Int)) = false := decide_eq_false c9
        have c9b1 : decide (200 < l2.length) = false := decide_eq_false (by omega)
        clear c9
        have H' := Aside0.mk H
        clear H
        go_wp2
        go_meet
        case rel => exact ⟨_, (decide ((l3.length : Int) > 200)), (by first | rfl | (simp; done) | (simp [*]; done)), H', ⟨by first | omega | exact Nat.le_refl _⟩, ⟨by repeat (first | (with_reducible first | exact HB.out | apply below_alloc | apply pw_below_drewN | apply below_drew1) | exact HB.out)⟩⟩
  case rest =>
    clear HC6
    try clear c1
    try clear c2
    try clear p2
    try clear c3
    try clear c8
    try clear c8b0
    try clear c8b1
    try clear c9
    try clear c9b0
    try clear c9b1
    obtain ⟨kq, x24_5, rfl, HA, HJ5, HB⟩ := hcut
    cases kq with
    | zero => exact absurd HA.out (by simp [cleanselaw03_WordsMatchesReference.j0])
    | succ kj5 =>
      have H := HA.out
      clear HA
      simp only [cleanselaw03_WordsMatchesReference.j0] at H
      by_cases c10 : x24_5 = true
      · subst c10
        have H1 : (some t361) = some r := by rw [if_pos rfl] at H; exact H
        clear H
        have H := H1
        clear H1
        obtain rfl := Option.some.inj H
        go_wp2
        go_ret
        exact ⟨by first | rfl | (simp [errW_none, errW_some] <;> rfl) | (simp [*, errW_none, errW_some] <;> rfl), by repeat (first | (with_reducible first | exact HB.out | apply below_alloc | apply pw_below_drewN | apply below_drew1) | exact HB.out)⟩
      · replace c10 := Bool.eq_false_iff.mpr c10
        subst c10
        have H1 : ((words_Fold.f a0).bind fun t362 => ((cleanseref03_Fold.f kj5 a0).bind fun t363 => (if t362.toList = t363.toList then ((words_Tokens.f a0).bind fun t364 => ((cleanseref03_Tokens.f kj5 a0).bind fun t367 => ((cleanseref03_Same.f kj5 t364 t367).bind fun t370 => (cleanselaw03_WordsMatchesReference.j1 kj5 a0 a1 l2 l3 t361 t370)))) else (cleanselaw03_WordsMatchesReference.j1 kj5 a0 a1 l2 l3 t361 false)))) = some r := by rw [if_neg (show ¬ (false = true) by decide)] at H; exact H
        clear H
        have H := H1
        clear H1
        have HC11 := Aside0.mk H
        clear H
        go_upto_region 4 with (fail)
        go_cut [10] (fun v10 wc => ∃ (kq : Nat) (x10_10 : Bool), v10 = .bool x10_10 ∧ Aside0 (cleanselaw03_WordsMatchesReference.j1 kq a0 a1 l2 l3 t361 x10_10 = some r) ∧ Aside0 (kq ≤ kj5) ∧ Aside0 (Below w.heap.size w wc))
        case first =>
          have H := HC11.out
          clear HC11
          replace H := Option.bind_eq_some_iff.mp H
          obtain ⟨t362, A120, H⟩ := H
          replace H : ((cleanseref03_Fold.f kj5 a0).bind fun t363 => (if t362.toList = t363.toList then ((words_Tokens.f a0).bind fun t364 => ((cleanseref03_Tokens.f kj5 a0).bind fun t367 => ((cleanseref03_Same.f kj5 t364 t367).bind fun t370 => (cleanselaw03_WordsMatchesReference.j1 kj5 a0 a1 l2 l3 t361 t370)))) else (cleanselaw03_WordsMatchesReference.j1 kj5 a0 a1 l2 l3 t361 false))) = some r := H
          have A12 := Aside0.mk A120
          clear A120
          replace H := Option.bind_eq_some_iff.mp H
          obtain ⟨t363, A130, H⟩ := H
          replace H : (if t362.toList = t363.toList then ((words_Tokens.f a0).bind fun t364 => ((cleanseref03_Tokens.f kj5 a0).bind fun t367 => ((cleanseref03_Same.f kj5 t364 t367).bind fun t370 => (cleanselaw03_WordsMatchesReference.j1 kj5 a0 a1 l2 l3 t361 t370)))) else (cleanselaw03_WordsMatchesReference.j1 kj5 a0 a1 l2 l3 t361 false)) = some r := H
          have A13 := Aside0.mk A130
          clear A130
          by_cases c14 : t362.toList = t363.toList
          · rw [if_pos c14] at H
            have c14b0 : (t362.toList == t363.toList) = true := beq_iff_eq.mpr c14
            have c14b1 : (t362.toList != t363.toList) = false := bne_eq_false_iff_eq.mpr c14
            clear c14
            (first | rw [c14b0] | (simp only [i64_w, i32_w]; rw [c14b0]) | skip)
            replace H := Option.bind_eq_some_iff.mp H
            obtain ⟨t364, A150, H⟩ := H
            replace H : ((cleanseref03_Tokens.f kj5 a0).bind fun t367 => ((cleanseref03_Same.f kj5 t364 t367).bind fun t370 => (cleanselaw03_WordsMatchesReference.j1 kj5 a0 a1 l2 l3 t361 t370))) = some r := H
            have A15 := Aside0.mk A150
            clear A150
            replace H := Option.bind_eq_some_iff.mp H
            obtain ⟨t367, A160, H⟩ := H
            replace H : ((cleanseref03_Same.f kj5 t364 t367).bind fun t370 => (cleanselaw03_WordsMatchesReference.j1 kj5 a0 a1 l2 l3 t361 t370)) = some r := H
            have A16 := Aside0.mk A160
            clear A160
            replace H := Option.bind_eq_some_iff.mp H
            obtain ⟨t370, A170, H⟩ := H
            replace H : (cleanselaw03_WordsMatchesReference.j1 kj5 a0 a1 l2 l3 t361 t370) = some r := H
            have A17 := Aside0.mk A170
            clear A170
            have H' := Aside0.mk H
            clear H
            go_wp2_with (first | ((with_reducible refine gate_callee (f := 11) rfl ?_); refine goesL_ (some 27) rfl rfl Try.func11 (by kernel_rfl) rfl #[.string a0] rfl (by (try simp only [List.map_toArray, List.map_cons, List.map_nil]); first | done | rfl | (simp only [List.length_drop, List.length_take]; rfl)) ?_; (with_reducible refine (words_Fold.calls a0 t362 _ A12.out).mono ?_); rintro e w18 ⟨rfl, hb⟩; refine ⟨_, rfl, ?_⟩; have n0_ := Aside0.mk (below_step (by repeat (first | (with_reducible first | exact HB.out | apply below_alloc | apply pw_below_drewN | apply below_drew1) | exact HB.out)) hb); clear HB; have HB := n0_; clear n0_; (try clear hb); (try clear hb2); (try clear hk); (try clear hi)) | ((with_reducible refine gate_callee (f := 12) rfl ?_); refine goesL_ (some 29) rfl rfl Try.func12 (by kernel_rfl) rfl #[.string a0] rfl (by (try simp only [List.map_toArray, List.map_cons, List.map_nil]); first | done | rfl | (simp only [List.length_drop, List.length_take]; rfl)) ?_; (with_reducible refine (cleanseref03_Fold.calls kj5 a0 t363 _ A13.out).mono ?_); rintro e w19 ⟨rfl, hb⟩; refine ⟨_, rfl, ?_⟩; have n0_ := Aside0.mk (below_step (by repeat (first | (with_reducible first | exact HB.out | apply below_alloc | apply pw_below_drewN | apply below_drew1) | exact HB.out)) hb); clear HB; have HB := n0_; clear n0_; (try clear hb); (try clear hb2); (try clear hk); (try clear hi)) | (go_at_call 14; (with_reducible refine (words_Tokens.calls a0 t364 _ A15.out).mono ?_); rintro e w20 ⟨v365, rfl, ho0, hb⟩; have n0_ := Aside0.mk (Kd.R_lower ho0 (below_size (by repeat (first | (with_reducible first | exact HB.out | apply below_alloc | apply pw_below_drewN | apply below_drew1) | exact HB.out)))); have n1_ := Aside0.mk (below_step (by repeat (first | (with_reducible first | exact HB.out | apply below_alloc | apply pw_below_drewN | apply below_drew1) | exact HB.out)) hb); clear HB; have HO366 := n0_; have HB := n1_; clear n0_ n1_; (try clear hb); (try clear hb2); (try clear hk); (try clear hi); (try clear ho0)) | (go_at_call 15; (with_reducible refine (cleanseref03_Tokens.calls kj5 a0 t367 _ A16.out).mono ?_); rintro e w21 ⟨v368, rfl, ho0, hb⟩; have n0_ := Aside0.mk (Kd.R_elder' (by (with_reducible repeat (first | apply Kd.R_alloc | apply Kd.R_drewN | apply Kd.R_drew)); exact HO366.out) (Kd.R_base ho0) hb); have n1_ := Aside0.mk (Kd.R_lower (Kd.R_new' ho0 (Kd.R_lt (by (with_reducible repeat (first | apply Kd.R_alloc | apply Kd.R_drewN | apply Kd.R_drew)); exact HO366.out))) (below_size (by repeat (first | (with_reducible first | exact HB.out | apply below_alloc | apply pw_below_drewN | apply below_drew1) | exact HB.out)))); have n2_ := Aside0.mk (below_step (by repeat (first | (with_reducible first | exact HB.out | apply below_alloc | apply pw_below_drewN | apply below_drew1) | exact HB.out)) hb); clear HO366; clear HB; have HO366 := n0_; have HO369 := n1_; have HB := n2_; clear n0_ n1_ n2_; (try clear hb); (try clear hb2); (try clear hk); (try clear hi); (try clear ho0); obtain ⟨Ao22, co22, eo22⟩ := Kd.R_slice HO366.out; subst eo22; obtain ⟨Ao23, co23, eo23⟩ := Kd.R_slice HO369.out; subst eo23) | (go_at_call 13; (with_reducible refine (cleanseref03_Same.calls kj5 _ _ t364 _ _ t367 t370 _ ?side1 ?side2 ?side3 ?side4 A17.out).mono ?_); (case side1 => repeat (first | exact (Kd.R_reads' HO366.out).2.2 | (with_reducible refine Kd.C_alloc ?_ _) | (with_reducible refine Kd.C_drewN ?_ _) | (with_reducible refine Kd.C_drew ?_))); (case side2 => exact (Kd.R_reads' HO366.out).2.1); (case side3 => repeat (first | exact (Kd.R_reads' HO369.out).2.2 | (with_reducible refine Kd.C_alloc ?_ _) | (with_reducible refine Kd.C_drewN ?_ _) | (with_reducible refine Kd.C_drew ?_))); (case side4 => exact (Kd.R_reads' HO369.out).2.1); rintro e w' ⟨rfl, ⟨nd, rfl⟩⟩))
            go_meet
            case rel => exact ⟨_, (t370), (by first | rfl | (simp; done) | (simp [*]; done)), H', ⟨by have := HJ5.out; first | omega | exact Nat.le_refl _⟩, ⟨by repeat (first | (with_reducible first | exact HB.out | apply below_alloc | apply pw_below_drewN | apply below_drew1) | exact HB.out)⟩⟩
          · rw [if_neg c14] at H
            have c14b0 : (t362.toList == t363.toList) = false := beq_eq_false_iff_ne.mpr c14
            have c14b1 : (t362.toList != t363.toList) = true := bne_iff_ne.mpr c14
            (first | rw [c14b0] | (simp only [i64_w, i32_w]; rw [c14b0]) | skip)
            have H' := Aside0.mk H
            clear H
            go_wp2_with (first | ((with_reducible refine gate_callee (f := 11) rfl ?_); refine goesL_ (some 27) rfl rfl Try.func11 (by kernel_rfl) rfl #[.string a0] rfl (by (try simp only [List.map_toArray, List.map_cons, List.map_nil]); first | done | rfl | (simp only [List.length_drop, List.length_take]; rfl)) ?_; (with_reducible refine (words_Fold.calls a0 t362 _ A12.out).mono ?_); rintro e w24 ⟨rfl, hb⟩; refine ⟨_, rfl, ?_⟩; have n0_ := Aside0.mk (below_step (by repeat (first | (with_reducible first | exact HB.out | apply below_alloc | apply pw_below_drewN | apply below_drew1) | exact HB.out)) hb); clear HB; have HB := n0_; clear n0_; (try clear hb); (try clear hb2); (try clear hk); (try clear hi)) | ((with_reducible refine gate_callee (f := 12) rfl ?_); refine goesL_ (some 29) rfl rfl Try.func12 (by kernel_rfl) rfl #[.string a0] rfl (by (try simp only [List.map_toArray, List.map_cons, List.map_nil]); first | done | rfl | (simp only [List.length_drop, List.length_take]; rfl)) ?_; (with_reducible refine (cleanseref03_Fold.calls kj5 a0 t363 _ A13.out).mono ?_); rintro e w25 ⟨rfl, hb⟩; refine ⟨_, rfl, ?_⟩; have n0_ := Aside0.mk (below_step (by repeat (first | (with_reducible first | exact HB.out | apply below_alloc | apply pw_below_drewN | apply below_drew1) | exact HB.out)) hb); clear HB; have HB := n0_; clear n0_; (try clear hb); (try clear hb2); (try clear hk); (try clear hi)))
            go_meet
            case rel => exact ⟨_, (false), (by first | rfl | (simp; done) | (simp [*]; done)), H', ⟨by have := HJ5.out; first | omega | exact Nat.le_refl _⟩, ⟨by repeat (first | (with_reducible first | exact HB.out | apply below_alloc | apply pw_below_drewN | apply below_drew1) | exact HB.out)⟩⟩
        case rest =>
          clear HC11
          try clear c1
          try clear c2
          try clear p2
          try clear c3
          try clear c8
          try clear c8b0
          try clear c8b1
          try clear c9
          try clear c9b0
          try clear c9b1
          try clear c10
          try clear c11
          try clear c12
          try clear c14
          try clear c14b0
          try clear c14b1
          try clear p2
          obtain ⟨kq, x10_10, rfl, HA, HJ10, HB⟩ := hcut
          cases kq with
          | zero => exact absurd HA.out (by simp [cleanselaw03_WordsMatchesReference.j1])
          | succ kj10 =>
            have H := HA.out
            clear HA
            simp only [cleanselaw03_WordsMatchesReference.j1] at H
            by_cases c26 : t361 = true
            · subst c26
              have H1 : (if x10_10 = true then ((words_Grams.f a0 a1).bind fun t371 => ((cleanseref03_Grams.f kj10 a0 a1).bind fun t374 => ((cleanseref03_Same.f kj10 t371 t374).bind fun t377 => (if t377 = true then ((words_Common.f kj10 l2 l3).bind fun t378 => ((cleanseref03_Common.f kj10 l2 l3).bind fun t379 => (some (t378 == t379)))) else (some false))))) else (some false)) = some r := by rw [if_pos rfl] at H; exact H
              clear H
              have H := H1
              clear H1
              by_cases c27 : x10_10 = true
              · subst c27
                have H1 : ((words_Grams.f a0 a1).bind fun t371 => ((cleanseref03_Grams.f kj10 a0 a1).bind fun t374 => ((cleanseref03_Same.f kj10 t371 t374).bind fun t377 => (if t377 = true then ((words_Common.f kj10 l2 l3).bind fun t378 => ((cleanseref03_Common.f kj10 l2 l3).bind fun t379 => (some (t378 == t379)))) else (some false))))) = some r := by rw [if_pos rfl] at H; exact H
                clear H
                have H := H1
                clear H1
                replace H := Option.bind_eq_some_iff.mp H
                obtain ⟨t371, A280, H⟩ := H
                replace H : ((cleanseref03_Grams.f kj10 a0 a1).bind fun t374 => ((cleanseref03_Same.f kj10 t371 t374).bind fun t377 => (if t377 = true then ((words_Common.f kj10 l2 l3).bind fun t378 => ((cleanseref03_Common.f kj10 l2 l3).bind fun t379 => (some (t378 == t379)))) else (some false)))) = some r := H
                have A28 := Aside0.mk A280
                clear A280
                replace H := Option.bind_eq_some_iff.mp H
                obtain ⟨t374, A290, H⟩ := H
                replace H : ((cleanseref03_Same.f kj10 t371 t374).bind fun t377 => (if t377 = true then ((words_Common.f kj10 l2 l3).bind fun t378 => ((cleanseref03_Common.f kj10 l2 l3).bind fun t379 => (some (t378 == t379)))) else (some false))) = some r := H
                have A29 := Aside0.mk A290
                clear A290
                replace H := Option.bind_eq_some_iff.mp H
                obtain ⟨t377, A300, H⟩ := H
                replace H : (if t377 = true then ((words_Common.f kj10 l2 l3).bind fun t378 => ((cleanseref03_Common.f kj10 l2 l3).bind fun t379 => (some (t378 == t379)))) else (some false)) = some r := H
                have A30 := Aside0.mk A300
                clear A300
                by_cases c31 : t377 = true
                · subst c31
                  have H1 : ((words_Common.f kj10 l2 l3).bind fun t378 => ((cleanseref03_Common.f kj10 l2 l3).bind fun t379 => (some (t378 == t379)))) = some r := by rw [if_pos rfl] at H; exact H
                  clear H
                  have H := H1
                  clear H1
                  replace H := Option.bind_eq_some_iff.mp H
                  obtain ⟨t378, A320, H⟩ := H
                  replace H : ((cleanseref03_Common.f kj10 l2 l3).bind fun t379 => (some (t378 == t379))) = some r := H
                  have A32 := Aside0.mk A320
                  clear A320
                  replace H := Option.bind_eq_some_iff.mp H
                  obtain ⟨t379, A330, H⟩ := H
                  replace H : (some (t378 == t379)) = some r := H
                  have A33 := Aside0.mk A330
                  clear A330
                  obtain rfl := Option.some.inj H
                  go_wp2_with (first | (go_at_call 16; (with_reducible refine (words_Grams.calls a0 a1 t371 _ A28.out).mono ?_); rintro e w34 ⟨v372, rfl, ho0, hb⟩; have n0_ := Aside0.mk (Kd.R_lower ho0 (below_size (by repeat (first | (with_reducible first | exact HB.out | apply below_alloc | apply pw_below_drewN | apply below_drew1) | exact HB.out)))); have n1_ := Aside0.mk (below_step (by repeat (first | (with_reducible first | exact HB.out | apply below_alloc | apply pw_below_drewN | apply below_drew1) | exact HB.out)) hb); clear HB; have HO373 := n0_; have HB := n1_; clear n0_ n1_; (try clear hb); (try clear hb2); (try clear hk); (try clear hi); (try clear ho0)) | (go_at_call 17; (with_reducible refine (cleanseref03_Grams.calls kj10 a0 a1 t374 _ A29.out).mono ?_); rintro e w35 ⟨v375, rfl, ho0, hb⟩; have n0_ := Aside0.mk (Kd.R_elder' (by (with_reducible repeat (first | apply Kd.R_alloc | apply Kd.R_drewN | apply Kd.R_drew)); exact HO373.out) (Kd.R_base ho0) hb); have n1_ := Aside0.mk (Kd.R_lower (Kd.R_new' ho0 (Kd.R_lt (by (with_reducible repeat (first | apply Kd.R_alloc | apply Kd.R_drewN | apply Kd.R_drew)); exact HO373.out))) (below_size (by repeat (first | (with_reducible first | exact HB.out | apply below_alloc | apply pw_below_drewN | apply below_drew1) | exact HB.out)))); have n2_ := Aside0.mk (below_step (by repeat (first | (with_reducible first | exact HB.out | apply below_alloc | apply pw_below_drewN | apply below_drew1) | exact HB.out)) hb); clear HO373; clear HB; have HO373 := n0_; have HO376 := n1_; have HB := n2_; clear n0_ n1_ n2_; (try clear hb); (try clear hb2); (try clear hk); (try clear hi); (try clear ho0); obtain ⟨Ao36, co36, eo36⟩ := Kd.R_slice HO373.out; subst eo36; obtain ⟨Ao37, co37, eo37⟩ := Kd.R_slice HO376.out; subst eo37) | (go_at_call 13; (with_reducible refine (cleanseref03_Same.calls kj10 _ _ t371 _ _ t374 true _ ?side1 ?side2 ?side3 ?side4 A30.out).mono ?_); (case side1 => repeat (first | exact (Kd.R_reads' HO373.out).2.2 | (with_reducible refine Kd.C_alloc ?_ _) | (with_reducible refine Kd.C_drewN ?_ _) | (with_reducible refine Kd.C_drew ?_))); (case side2 => exact (Kd.R_reads' HO373.out).2.1); (case side3 => repeat (first | exact (Kd.R_reads' HO376.out).2.2 | (with_reducible refine Kd.C_alloc ?_ _) | (with_reducible refine Kd.C_drewN ?_ _) | (with_reducible refine Kd.C_drew ?_))); (case side4 => exact (Kd.R_reads' HO376.out).2.1); rintro e w' ⟨rfl, ⟨nd, rfl⟩⟩) | (go_at_call 18; (with_reducible refine (words_Common.calls kj10 (fun k_ => k_ < w.heap.size) _ _ l2 (fun k_ => k_ < w.heap.size) _ _ l3 t378 _ ?side1 ?side2 A32.out).mono ?_); (case side1 => exact Kd.V_mk HC2.out (Kd.F_below (Kd.C_F Kd.heap_string HR2.out) (by repeat (first | (with_reducible first | exact HB.out | apply below_alloc | apply pw_below_drewN | apply below_drew1) | exact HB.out)))); (case side2 => exact Kd.V_mk HC3.out (Kd.F_below (Kd.C_F Kd.heap_string HR3.out) (by repeat (first | (with_reducible first | exact HB.out | apply below_alloc | apply pw_below_drewN | apply below_drew1) | exact HB.out)))); rintro e w38 ⟨rfl, hb⟩; have n0_ := Aside0.mk (Kd.R_below (by (with_reducible repeat (first | apply Kd.R_alloc | apply Kd.R_drewN | apply Kd.R_drew)); exact HO373.out) hb); have n1_ := Aside0.mk (Kd.R_below (by (with_reducible repeat (first | apply Kd.R_alloc | apply Kd.R_drewN | apply Kd.R_drew)); exact HO376.out) hb); have n2_ := Aside0.mk (below_step (by repeat (first | (with_reducible first | exact HB.out | apply below_alloc | apply pw_below_drewN | apply below_drew1) | exact HB.out)) hb); clear HO373; clear HO376; clear HB; have HO373 := n0_; have HO376 := n1_; have HB := n2_; clear n0_ n1_ n2_; (try clear hb); (try clear hb2); (try clear hk); (try clear hi)) | (go_at_call 19; (with_reducible refine (cleanseref03_Common.calls kj10 _ _ l2 _ _ l3 t379 _ ?side1 ?side2 ?side3 ?side4 A33.out).mono ?_); (case side1 => repeat (first | exact (Kd.C_below HR2.out HB.out) | (with_reducible refine Kd.C_alloc ?_ _) | (with_reducible refine Kd.C_drewN ?_ _) | (with_reducible refine Kd.C_drew ?_))); (case side2 => exact HC2.out); (case side3 => repeat (first | exact (Kd.C_below HR3.out HB.out) | (with_reducible refine Kd.C_alloc ?_ _) | (with_reducible refine Kd.C_drewN ?_ _) | (with_reducible refine Kd.C_drew ?_))); (case side4 => exact HC3.out); rintro e w' ⟨rfl, ⟨nd, rfl⟩⟩))
                  go_ret
                  exact ⟨by first | rfl | (simp [errW_none, errW_some] <;> rfl) | (simp [*, errW_none, errW_some] <;> rfl), by repeat (first | (with_reducible first | exact HB.out | apply below_alloc | apply pw_below_drewN | apply below_drew1) | exact HB.out)⟩
                · replace c31 := Bool.eq_false_iff.mpr c31
                  subst c31
                  have H1 : (some false) = some r := by rw [if_neg (show ¬ (false = true) by decide)] at H; exact H
                  clear H
                  have H := H1
                  clear H1
                  obtain rfl := Option.some.inj H
                  go_wp2_with (first | (go_at_call 16; (with_reducible refine (words_Grams.calls a0 a1 t371 _ A28.out).mono ?_); rintro e w39 ⟨v372, rfl, ho0, hb⟩; have n0_ := Aside0.mk (Kd.R_lower ho0 (below_size (by repeat (first | (with_reducible first | exact HB.out | apply below_alloc | apply pw_below_drewN | apply below_drew1) | exact HB.out)))); have n1_ := Aside0.mk (below_step (by repeat (first | (with_reducible first | exact HB.out | apply below_alloc | apply pw_below_drewN | apply below_drew1) | exact HB.out)) hb); clear HB; have HO373 := n0_; have HB := n1_; clear n0_ n1_; (try clear hb); (try clear hb2); (try clear hk); (try clear hi); (try clear ho0)) | (go_at_call 17; (with_reducible refine (cleanseref03_Grams.calls kj10 a0 a1 t374 _ A29.out).mono ?_); rintro e w40 ⟨v375, rfl, ho0, hb⟩; have n0_ := Aside0.mk (Kd.R_elder' (by (with_reducible repeat (first | apply Kd.R_alloc | apply Kd.R_drewN | apply Kd.R_drew)); exact HO373.out) (Kd.R_base ho0) hb); have n1_ := Aside0.mk (Kd.R_lower (Kd.R_new' ho0 (Kd.R_lt (by (with_reducible repeat (first | apply Kd.R_alloc | apply Kd.R_drewN | apply Kd.R_drew)); exact HO373.out))) (below_size (by repeat (first | (with_reducible first | exact HB.out | apply below_alloc | apply pw_below_drewN | apply below_drew1) | exact HB.out)))); have n2_ := Aside0.mk (below_step (by repeat (first | (with_reducible first | exact HB.out | apply below_alloc | apply pw_below_drewN | apply below_drew1) | exact HB.out)) hb); clear HO373; clear HB; have HO373 := n0_; have HO376 := n1_; have HB := n2_; clear n0_ n1_ n2_; (try clear hb); (try clear hb2); (try clear hk); (try clear hi); (try clear ho0); obtain ⟨Ao41, co41, eo41⟩ := Kd.R_slice HO373.out; subst eo41; obtain ⟨Ao42, co42, eo42⟩ := Kd.R_slice HO376.out; subst eo42) | (go_at_call 13; (with_reducible refine (cleanseref03_Same.calls kj10 _ _ t371 _ _ t374 false _ ?side1 ?side2 ?side3 ?side4 A30.out).mono ?_); (case side1 => repeat (first | exact (Kd.R_reads' HO373.out).2.2 | (with_reducible refine Kd.C_alloc ?_ _) | (with_reducible refine Kd.C_drewN ?_ _) | (with_reducible refine Kd.C_drew ?_))); (case side2 => exact (Kd.R_reads' HO373.out).2.1); (case side3 => repeat (first | exact (Kd.R_reads' HO376.out).2.2 | (with_reducible refine Kd.C_alloc ?_ _) | (with_reducible refine Kd.C_drewN ?_ _) | (with_reducible refine Kd.C_drew ?_))); (case side4 => exact (Kd.R_reads' HO376.out).2.1); rintro e w' ⟨rfl, ⟨nd, rfl⟩⟩))
                  go_ret
                  exact ⟨by first | rfl | (simp [errW_none, errW_some] <;> rfl) | (simp [*, errW_none, errW_some] <;> rfl), by repeat (first | (with_reducible first | exact HB.out | apply below_alloc | apply pw_below_drewN | apply below_drew1) | exact HB.out)⟩
              · replace c27 := Bool.eq_false_iff.mpr c27
                subst c27
                have H1 : (some false) = some r := by rw [if_neg (show ¬ (false = true) by decide)] at H; exact H
                clear H
                have H := H1
                clear H1
                obtain rfl := Option.some.inj H
                go_wp2
                go_ret
                exact ⟨by first | rfl | (simp [errW_none, errW_some] <;> rfl) | (simp [*, errW_none, errW_some] <;> rfl), by repeat (first | (with_reducible first | exact HB.out | apply below_alloc | apply pw_below_drewN | apply below_drew1) | exact HB.out)⟩
            · replace c26 := Bool.eq_false_iff.mpr c26
              subst c26
              have H1 : (some false) = some r := by rw [if_neg (show ¬ (false = true) by decide)] at H; exact H
              clear H
              have H := H1
              clear H1
              obtain rfl := Option.some.inj H
              go_wp2
              go_ret
              exact ⟨by first | rfl | (simp [errW_none, errW_some] <;> rfl) | (simp [*, errW_none, errW_some] <;> rfl), by repeat (first | (with_reducible first | exact HB.out | apply below_alloc | apply pw_below_drewN | apply below_drew1) | exact HB.out)⟩

end Go.Proofs.Ythdhkclhckigmaa.Q

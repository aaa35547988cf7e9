-- Printed by a program of this session out of the translation (wip/tools/qprint.sh); Lean checks it.
import Derived.Test.YthdhkclhckigmaaQ0
import Derived.Test.YthdhkclhckigmaaQ3
import Derived.Test.YthdhkclhckigmaaA5
namespace Go.Proofs.Ythdhkclhckigmaa.Q
open Go.RowKit Go.Proofs.YthdhkclhckigmaaW.PrintWords Go.Proofs.YthdhkclhckigmaaW.PrintLast Go.Proofs.YthdhkclhckigmaaW.PrintMore
attribute [local go_sem] max2_int min2_int max_two min_two max_three min_three max_four min_four   -- for this text's walks alone
set_option linter.unusedVariables false
set_option linter.unusedSimpArgs false

/-! ### cleanselaw03_WordsFold: function 4 -/
def cleanselaw03_WordsFold.l0 : Nat → ByteArray → Bool → ByteArray → Int → Option (Bool)
  | 0, _, _, _, _ => none
  | k + 1, x0, x3, x4, x5 => if x5 < (x4.size : Int) then (if 0 ≤ x5 then (if (bt x4 x5) ≥ 97 then (if (bt x4 x5) ≤ 122 then (if (bt x4 x5) = 32 then (if x5 > 0 then (if (wrap64 (x5 + 1)) < (x4.size : Int) then (if 0 ≤ (wrap64 (x5 + 1)) then (cleanselaw03_WordsFold.l0 k x0 x3 x4 (wrap64 (x5 + 1))) else (none)) else (cleanselaw03_WordsFold.l0 k x0 x3 x4 (wrap64 (x5 + 1)))) else (cleanselaw03_WordsFold.l0 k x0 x3 x4 (wrap64 (x5 + 1)))) else (cleanselaw03_WordsFold.l0 k x0 x3 x4 (wrap64 (x5 + 1)))) else (if (bt x4 x5) ≥ 48 then (if (bt x4 x5) = 32 then (if x5 > 0 then (if (wrap64 (x5 + 1)) < (x4.size : Int) then (if 0 ≤ (wrap64 (x5 + 1)) then (if ((bt x4 x5) ≤ 57) then (cleanselaw03_WordsFold.l0 k x0 x3 x4 (wrap64 (x5 + 1))) else (if (¬ (bt x4 (wrap64 (x5 + 1))) = 32) then (cleanselaw03_WordsFold.l0 k x0 x3 x4 (wrap64 (x5 + 1))) else (some false))) else (none)) else (if ((bt x4 x5) ≤ 57) then (cleanselaw03_WordsFold.l0 k x0 x3 x4 (wrap64 (x5 + 1))) else (some false))) else (if ((bt x4 x5) ≤ 57) then (cleanselaw03_WordsFold.l0 k x0 x3 x4 (wrap64 (x5 + 1))) else (some false))) else (if ((bt x4 x5) ≤ 57) then (cleanselaw03_WordsFold.l0 k x0 x3 x4 (wrap64 (x5 + 1))) else (some false))) else (if (bt x4 x5) = 32 then (if x5 > 0 then (if (wrap64 (x5 + 1)) < (x4.size : Int) then (if 0 ≤ (wrap64 (x5 + 1)) then (if (¬ (bt x4 (wrap64 (x5 + 1))) = 32) then (cleanselaw03_WordsFold.l0 k x0 x3 x4 (wrap64 (x5 + 1))) else (some false)) else (none)) else (some false)) else (some false)) else (some false)))) else (if (bt x4 x5) ≥ 48 then (if (bt x4 x5) = 32 then (if x5 > 0 then (if (wrap64 (x5 + 1)) < (x4.size : Int) then (if 0 ≤ (wrap64 (x5 + 1)) then (if ((bt x4 x5) ≤ 57) then (cleanselaw03_WordsFold.l0 k x0 x3 x4 (wrap64 (x5 + 1))) else (if (¬ (bt x4 (wrap64 (x5 + 1))) = 32) then (cleanselaw03_WordsFold.l0 k x0 x3 x4 (wrap64 (x5 + 1))) else (some false))) else (none)) else (if ((bt x4 x5) ≤ 57) then (cleanselaw03_WordsFold.l0 k x0 x3 x4 (wrap64 (x5 + 1))) else (some false))) else (if ((bt x4 x5) ≤ 57) then (cleanselaw03_WordsFold.l0 k x0 x3 x4 (wrap64 (x5 + 1))) else (some false))) else (if ((bt x4 x5) ≤ 57) then (cleanselaw03_WordsFold.l0 k x0 x3 x4 (wrap64 (x5 + 1))) else (some false))) else (if (bt x4 x5) = 32 then (if x5 > 0 then (if (wrap64 (x5 + 1)) < (x4.size : Int) then (if 0 ≤ (wrap64 (x5 + 1)) then (if (¬ (bt x4 (wrap64 (x5 + 1))) = 32) then (cleanselaw03_WordsFold.l0 k x0 x3 x4 (wrap64 (x5 + 1))) else (some false)) else (none)) else (some false)) else (some false)) else (some false)))) else (none)) else (if x3 = true then ((words_Fold.f x4).bind fun t172 => (if t172.toList = x4.toList then (some (decide ((x4.size : Int) ≤ (x0.size : Int)))) else (some false))) else (some false))
def cleanselaw03_WordsFold.f (k : Nat) (a0 : ByteArray) : Option (Bool) := (cleanselaw03_head.f k).bind fun t170 => (if (a0.size : Int) > 1000 then (some t170) else ((words_Fold.f a0).bind fun t171 => (cleanselaw03_WordsFold.l0 k a0 t170 t171 0)))
theorem cleanselaw03_WordsFold.mono_l : ∀ k, (∀ y0 y1 y2 y3, LeO (cleanselaw03_WordsFold.l0 k y0 y1 y2 y3) (cleanselaw03_WordsFold.l0 (k + 1) y0 y1 y2 y3))
  | 0 => fun _ _ _ _ r h => by simp [cleanselaw03_WordsFold.l0] at h
  | k + 1 => by
    have ih0 := cleanselaw03_WordsFold.mono_l k
    · intro y0 y1 y2 y3
      unfold cleanselaw03_WordsFold.l0
      repeat' first
      | (with_reducible exact ih0 _ _ _ _)
      | (with_reducible exact cleanselaw03_head.mono _)
      | (with_reducible exact LeO.refl _)
      | (with_reducible exact LeO.none _)
      | (with_reducible refine LeO.ite ?_ ?_)
      | (with_reducible refine LeO.bind ?_ (fun _ => ?_))
      | exact ih0 _ _ _ _
      | exact cleanselaw03_head.mono _
      | exact LeO.none _
      | refine LeO.ite ?_ ?_
      | refine LeO.bind ?_ (fun _ => ?_)
theorem cleanselaw03_WordsFold.mono : ∀ a0 k, LeO (cleanselaw03_WordsFold.f k a0) (cleanselaw03_WordsFold.f (k + 1) a0) := by
  intro a0 k
  have ih0 := cleanselaw03_WordsFold.mono_l k
  unfold cleanselaw03_WordsFold.f
  repeat' first
      | (with_reducible exact ih0 _ _ _ _)
      | (with_reducible exact cleanselaw03_head.mono _)
      | (with_reducible exact LeO.refl _)
      | (with_reducible exact LeO.none _)
      | (with_reducible refine LeO.ite ?_ ?_)
      | (with_reducible refine LeO.bind ?_ (fun _ => ?_))
      | exact ih0 _ _ _ _
      | exact cleanselaw03_head.mono _
      | exact LeO.none _
      | refine LeO.ite ?_ ?_
      | refine LeO.bind ?_ (fun _ => ?_)
set_option maxHeartbeats 8000000 in
set_option maxRecDepth 100000 in
theorem cleanselaw03_WordsFold.calls (k : Nat) (a0 : ByteArray) (r : Bool) (w : World) (h : cleanselaw03_WordsFold.f k a0 = some r) :
    Calls Try.prog 4 #[.string a0] w fun e w' => e = .returned (.bool r) ∧ Below w.heap.size w w' := by
  have HB := Aside0.mk (Below.refl w.heap.size w)
  have H : ((cleanselaw03_head.f k).bind fun t170 => (if (a0.size : Int) > 1000 then (some t170) else ((words_Fold.f a0).bind fun t171 => (cleanselaw03_WordsFold.l0 k a0 t170 t171 0)))) = some r := h
  clear h
  replace H := Option.bind_eq_some_iff.mp H
  obtain ⟨t170, A20, H⟩ := H
  replace H : (if (a0.size : Int) > 1000 then (some t170) else ((words_Fold.f a0).bind fun t171 => (cleanselaw03_WordsFold.l0 k a0 t170 t171 0))) = some r := H
  have A2 := Aside0.mk A20
  clear A20
  by_cases c3 : (a0.size : Int) > 1000
  · rw [if_pos c3] at H
    have c3b0 : decide (1000 < (a0.size : Int)) = true := decide_eq_true c3
    have c3b1 : decide (1000 < a0.size) = true := decide_eq_true (by omega)
    clear c3
    obtain rfl := Option.some.inj H
    go_enter Try.func4, Try.ntmps4
    go_wp2_with (first | ((with_reducible refine gate_callee (f := 10) rfl ?_); refine goesL_ (some 8) rfl rfl Try.func10 (by kernel_rfl) rfl #[] rfl (by (try simp only [List.map_toArray, List.map_cons, List.map_nil]); first | done | rfl | (simp only [List.length_drop, List.length_take]; rfl)) ?_; (with_reducible refine (cleanselaw03_head.calls k  t170 _ A2.out).mono ?_); rintro e w4 ⟨rfl, hb⟩; refine ⟨_, rfl, ?_⟩; have n0_ := Aside0.mk (below_step (by repeat (first | (with_reducible first | exact HB.out | apply below_alloc | apply pw_below_drewN | apply below_drew1) | exact HB.out)) hb); clear HB; have HB := n0_; clear n0_; (try clear hb); (try clear hb2); (try clear hk); (try clear hi)))
    go_ret
    exact ⟨by first | rfl | (simp [errW_none, errW_some] <;> rfl) | (simp [*, errW_none, errW_some] <;> rfl), by repeat (first | (with_reducible first | exact HB.out | apply below_alloc | apply pw_below_drewN | apply below_drew1) | exact HB.out)⟩
  · rw [if_neg c3] at H
    have c3b0 : decide (1000 < (a0.size : Int)) = false := decide_eq_false c3
    have c3b1 : decide (1000 < a0.size) = false := decide_eq_false (by omega)
    clear c3
    replace H := Option.bind_eq_some_iff.mp H
    obtain ⟨t171, A50, H⟩ := H
    replace H : (cleanselaw03_WordsFold.l0 k a0 t170 t171 0) = some r := H
    have A5 := Aside0.mk A50
    clear A50
    have H' := Aside0.mk H
    clear H
    go_enter Try.func4, Try.ntmps4
    go_wp2_with (first | ((with_reducible refine gate_callee (f := 10) rfl ?_); refine goesL_ (some 8) rfl rfl Try.func10 (by kernel_rfl) rfl #[] rfl (by (try simp only [List.map_toArray, List.map_cons, List.map_nil]); first | done | rfl | (simp only [List.length_drop, List.length_take]; rfl)) ?_; (with_reducible refine (cleanselaw03_head.calls k  t170 _ A2.out).mono ?_); rintro e w6 ⟨rfl, hb⟩; refine ⟨_, rfl, ?_⟩; have n0_ := Aside0.mk (below_step (by repeat (first | (with_reducible first | exact HB.out | apply below_alloc | apply pw_below_drewN | apply below_drew1) | exact HB.out)) hb); clear HB; have HB := n0_; clear n0_; (try clear hb); (try clear hb2); (try clear hk); (try clear hi)) | ((with_reducible refine gate_callee (f := 11) rfl ?_); refine goesL_ (some 14) rfl rfl Try.func11 (by kernel_rfl) rfl #[.string a0] rfl (by (try simp only [List.map_toArray, List.map_cons, List.map_nil]); first | done | rfl | (simp only [List.length_drop, List.length_take]; rfl)) ?_; (with_reducible refine (words_Fold.calls a0 t171 _ A5.out).mono ?_); rintro e w7 ⟨rfl, hb⟩; refine ⟨_, rfl, ?_⟩; have n0_ := Aside0.mk (below_step (by repeat (first | (with_reducible first | exact HB.out | apply below_alloc | apply pw_below_drewN | apply below_drew1) | exact HB.out)) hb); clear HB; have HB := n0_; clear n0_; (try clear hb); (try clear hb2); (try clear hk); (try clear hi)))
    go_loopg [5] k (fun kq v5 w' => ∃ (x5_1 : Int), v5 = .int .i64 x5_1 ∧ Aside0 (cleanselaw03_WordsFold.l0 kq a0 t170 t171 x5_1 = some r) ∧ Aside0 (kq ≤ k) ∧ Aside0 (Below w.heap.size w w'))
    case atStart => exact ⟨(0), (by first | rfl | (simp; done) | (simp [*]; done)), H', ⟨Nat.le_refl _⟩, ⟨by repeat (first | (with_reducible first | exact HB.out | apply below_alloc | apply pw_below_drewN | apply below_drew1) | exact HB.out)⟩⟩
    case round =>
      clear H'
      try clear c1
      try clear p2
      try clear c3
      try clear c3b0
      try clear c3b1
      try clear c4
      obtain ⟨x5_1, rfl, HA, HK1, HB⟩ := hrel
      cases gk with
      | zero => exact absurd HA.out (by simp [cleanselaw03_WordsFold.l0])
      | succ k1 =>
        have H := HA.out
        clear HA
        simp only [cleanselaw03_WordsFold.l0] at H
        by_cases c8 : x5_1 < (t171.size : Int)
        · rw [if_pos c8] at H
          have c8b0 : decide (x5_1 < (t171.size : Int)) = true := decide_eq_true c8
          clear c8
          by_cases c9 : 0 ≤ x5_1
          · rw [if_pos c9] at H
            have c9b0 : decide (0 ≤ x5_1) = true := decide_eq_true c9
            clear c9
            by_cases c11 : (bt t171 x5_1) ≥ 97
            · rw [if_pos c11] at H
              have c11b0 : decide (97 ≤ (bt t171 x5_1)) = true := decide_eq_true c11
              clear c11
              by_cases c13 : (bt t171 x5_1) ≤ 122
              · rw [if_pos c13] at H
                have c13b0 : decide ((bt t171 x5_1) ≤ 122) = true := decide_eq_true c13
                clear c13
                by_cases c15 : (bt t171 x5_1) = 32
                · rw [if_pos c15] at H
                  have c15b0 : ((bt t171 x5_1) == 32) = true := beq_iff_eq.mpr c15
                  have c15b1 : ((bt t171 x5_1) != 32) = false := bne_eq_false_iff_eq.mpr c15
                  clear c15
                  by_cases c16 : x5_1 > 0
                  · rw [if_pos c16] at H
                    have c16b0 : decide (0 < x5_1) = true := decide_eq_true c16
                    clear c16
                    by_cases c17 : (wrap64 (x5_1 + 1)) < (t171.size : Int)
                    · rw [if_pos c17] at H
                      have c17b0 : decide ((wrap64 (x5_1 + 1)) < (t171.size : Int)) = true := decide_eq_true c17
                      clear c17
                      obtain ⟨ji18, hji18⟩ : ∃ j_ : Int, (wrap64 (x5_1 + 1)) = j_ := ⟨_, rfl⟩
                      replace H : (if 0 ≤ (ji18) then (cleanselaw03_WordsFold.l0 k1 a0 t170 t171 ji18) else (none)) = some r := by first | (rw [hji18] at H; exact H) | (simp only [hji18] at H ⊢; exact H)
                      (try rw [hji18] at c17b0)
                      have hji18w : (IntKind.i64.wrap (x5_1 + 1)) = ji18 := (i64_w _).trans hji18
                      by_cases c19 : 0 ≤ (ji18)
                      · rw [if_pos c19] at H
                        have c19b0 : decide (0 ≤ (ji18)) = true := decide_eq_true c19
                        clear c19
                        have H' := Aside0.mk H
                        clear H
                        have p10 : 0 ≤ (x5_1 : Int) := of_decide_eq_true (by first | (with_reducible assumption) | assumption)
                        have q10 : x5_1 < (t171.size : Int) := of_decide_eq_true (by first | (with_reducible assumption) | assumption)
                        have hx10 := bt_at t171 x5_1
                        replace p10 := eq_true p10
                        replace q10 := eq_true q10
                        have p12 : 0 ≤ (x5_1 : Int) := of_decide_eq_true (by first | (with_reducible assumption) | assumption)
                        have q12 : x5_1 < (t171.size : Int) := of_decide_eq_true (by first | (with_reducible assumption) | assumption)
                        have hx12 := bt_at t171 x5_1
                        replace p12 := eq_true p12
                        replace q12 := eq_true q12
                        have p14 : 0 ≤ (x5_1 : Int) := of_decide_eq_true (by first | (with_reducible assumption) | assumption)
                        have q14 : x5_1 < (t171.size : Int) := of_decide_eq_true (by first | (with_reducible assumption) | assumption)
                        have hx14 := bt_at t171 x5_1
                        replace p14 := eq_true p14
                        replace q14 := eq_true q14
                        have p20 : 0 ≤ ((ji18) : Int) := of_decide_eq_true (by first | (with_reducible assumption) | assumption)
                        have q20 : (ji18) < (t171.size : Int) := of_decide_eq_true (by first | (with_reducible assumption) | assumption)
                        have hx20 := bt_at t171 (ji18)
                        replace p20 := eq_true p20
                        replace q20 := eq_true q20
                        go_wp2
                        go_roundg k1
                        case measure => have := HK1.out; omega
                        case rel => exact ⟨(ji18), (by first | rfl | (simp; done) | (simp only [← hji18] <;> (first | rfl | simp)) | (simp [*]; done)), H', ⟨by have := HK1.out; omega⟩, ⟨by repeat (first | (with_reducible first | exact HB.out | apply below_alloc | apply pw_below_drewN | apply below_drew1) | exact HB.out)⟩⟩
                      · rw [if_neg c19] at H
                        exact absurd H (by simp)
                    · rw [if_neg c17] at H
                      have c17b0 : decide ((wrap64 (x5_1 + 1)) < (t171.size : Int)) = false := decide_eq_false c17
                      clear c17
                      have H' := Aside0.mk H
                      clear H
                      have p10 : 0 ≤ (x5_1 : Int) := of_decide_eq_true (by first | (with_reducible assumption) | assumption)
                      have q10 : x5_1 < (t171.size : Int) := of_decide_eq_true (by first | (with_reducible assumption) | assumption)
                      have hx10 := bt_at t171 x5_1
                      replace p10 := eq_true p10
                      replace q10 := eq_true q10
                      have p12 : 0 ≤ (x5_1 : Int) := of_decide_eq_true (by first | (with_reducible assumption) | assumption)
                      have q12 : x5_1 < (t171.size : Int) := of_decide_eq_true (by first | (with_reducible assumption) | assumption)
                      have hx12 := bt_at t171 x5_1
                      replace p12 := eq_true p12
                      replace q12 := eq_true q12
                      have p14 : 0 ≤ (x5_1 : Int) := of_decide_eq_true (by first | (with_reducible assumption) | assumption)
                      have q14 : x5_1 < (t171.size : Int) := of_decide_eq_true (by first | (with_reducible assumption) | assumption)
                      have hx14 := bt_at t171 x5_1
                      replace p14 := eq_true p14
                      replace q14 := eq_true q14
                      go_wp2
                      go_roundg k1
                      case measure => have := HK1.out; omega
                      case rel => exact ⟨(wrap64 (x5_1 + 1)), (by first | rfl | (simp; done) | (simp [*]; done)), H', ⟨by have := HK1.out; omega⟩, ⟨by repeat (first | (with_reducible first | exact HB.out | apply below_alloc | apply pw_below_drewN | apply below_drew1) | exact HB.out)⟩⟩
                  · rw [if_neg c16] at H
                    have c16b0 : decide (0 < x5_1) = false := decide_eq_false c16
                    clear c16
                    have H' := Aside0.mk H
                    clear H
                    have p10 : 0 ≤ (x5_1 : Int) := of_decide_eq_true (by first | (with_reducible assumption) | assumption)
                    have q10 : x5_1 < (t171.size : Int) := of_decide_eq_true (by first | (with_reducible assumption) | assumption)
                    have hx10 := bt_at t171 x5_1
                    replace p10 := eq_true p10
                    replace q10 := eq_true q10
                    have p12 : 0 ≤ (x5_1 : Int) := of_decide_eq_true (by first | (with_reducible assumption) | assumption)
                    have q12 : x5_1 < (t171.size : Int) := of_decide_eq_true (by first | (with_reducible assumption) | assumption)
                    have hx12 := bt_at t171 x5_1
                    replace p12 := eq_true p12
                    replace q12 := eq_true q12
                    have p14 : 0 ≤ (x5_1 : Int) := of_decide_eq_true (by first | (with_reducible assumption) | assumption)
                    have q14 : x5_1 < (t171.size : Int) := of_decide_eq_true (by first | (with_reducible assumption) | assumption)
                    have hx14 := bt_at t171 x5_1
                    replace p14 := eq_true p14
                    replace q14 := eq_true q14
                    go_wp2
                    go_roundg k1
                    case measure => have := HK1.out; omega
                    case rel => exact ⟨(wrap64 (x5_1 + 1)), (by first | rfl | (simp; done) | (simp [*]; done)), H', ⟨by have := HK1.out; omega⟩, ⟨by repeat (first | (with_reducible first | exact HB.out | apply below_alloc | apply pw_below_drewN | apply below_drew1) | exact HB.out)⟩⟩
                · rw [if_neg c15] at H
                  have c15b0 : ((bt t171 x5_1) == 32) = false := beq_eq_false_iff_ne.mpr c15
                  have c15b1 : ((bt t171 x5_1) != 32) = true := bne_iff_ne.mpr c15
                  have H' := Aside0.mk H
                  clear H
                  have p10 : 0 ≤ (x5_1 : Int) := of_decide_eq_true (by first | (with_reducible assumption) | assumption)
                  have q10 : x5_1 < (t171.size : Int) := of_decide_eq_true (by first | (with_reducible assumption) | assumption)
                  have hx10 := bt_at t171 x5_1
                  replace p10 := eq_true p10
                  replace q10 := eq_true q10
                  have p12 : 0 ≤ (x5_1 : Int) := of_decide_eq_true (by first | (with_reducible assumption) | assumption)
                  have q12 : x5_1 < (t171.size : Int) := of_decide_eq_true (by first | (with_reducible assumption) | assumption)
                  have hx12 := bt_at t171 x5_1
                  replace p12 := eq_true p12
                  replace q12 := eq_true q12
                  have p14 : 0 ≤ (x5_1 : Int) := of_decide_eq_true (by first | (with_reducible assumption) | assumption)
                  have q14 : x5_1 < (t171.size : Int) := of_decide_eq_true (by first | (with_reducible assumption) | assumption)
                  have hx14 := bt_at t171 x5_1
                  replace p14 := eq_true p14
                  replace q14 := eq_true q14
                  go_wp2
                  go_roundg k1
                  case measure => have := HK1.out; omega
                  case rel => exact ⟨(wrap64 (x5_1 + 1)), (by first | rfl | (simp; done) | (simp [*]; done)), H', ⟨by have := HK1.out; omega⟩, ⟨by repeat (first | (with_reducible first | exact HB.out | apply below_alloc | apply pw_below_drewN | apply below_drew1) | exact HB.out)⟩⟩
              · rw [if_neg c13] at H
                have c13b0 : decide ((bt t171 x5_1) ≤ 122) = false := decide_eq_false c13
                clear c13
                by_cases c22 : (bt t171 x5_1) ≥ 48
                · rw [if_pos c22] at H
                  have c22b0 : decide (48 ≤ (bt t171 x5_1)) = true := decide_eq_true c22
                  clear c22
                  by_cases c25 : (bt t171 x5_1) = 32
                  · rw [if_pos c25] at H
                    have c25b0 : ((bt t171 x5_1) == 32) = true := beq_iff_eq.mpr c25
                    have c25b1 : ((bt t171 x5_1) != 32) = false := bne_eq_false_iff_eq.mpr c25
                    clear c25
                    by_cases c26 : x5_1 > 0
                    · rw [if_pos c26] at H
                      have c26b0 : decide (0 < x5_1) = true := decide_eq_true c26
                      clear c26
                      by_cases c27 : (wrap64 (x5_1 + 1)) < (t171.size : Int)
                      · rw [if_pos c27] at H
                        have c27b0 : decide ((wrap64 (x5_1 + 1)) < (t171.size : Int)) = true := decide_eq_true c27
                        clear c27
                        obtain ⟨ji28, hji28⟩ : ∃ j_ : Int, (wrap64 (x5_1 + 1)) = j_ := ⟨_, rfl⟩
                        replace H : (if 0 ≤ (ji28) then (if ((bt t171 x5_1) ≤ 57) then (cleanselaw03_WordsFold.l0 k1 a0 t170 t171 ji28) else (if (¬ (bt t171 (ji28)) = 32) then (cleanselaw03_WordsFold.l0 k1 a0 t170 t171 ji28) else (some false))) else (none)) = some r := by first | (rw [hji28] at H; exact H) | (simp only [hji28] at H ⊢; exact H)
                        (try rw [hji28] at c27b0)
                        have hji28w : (IntKind.i64.wrap (x5_1 + 1)) = ji28 := (i64_w _).trans hji28
                        by_cases c29 : 0 ≤ (ji28)
                        · rw [if_pos c29] at H
                          have c29b0 : decide (0 ≤ (ji28)) = true := decide_eq_true c29
                          clear c29
                          by_cases c31 : ((bt t171 x5_1) ≤ 57)
                          · rw [if_pos c31] at H
                            have c31b0 : decide ((bt t171 x5_1) ≤ 57) = true := decide_eq_true c31
                            clear c31
                            have H' := Aside0.mk H
                            clear H
                            have p10 : 0 ≤ (x5_1 : Int) := of_decide_eq_true (by first | (with_reducible assumption) | assumption)
                            have q10 : x5_1 < (t171.size : Int) := of_decide_eq_true (by first | (with_reducible assumption) | assumption)
                            have hx10 := bt_at t171 x5_1
                            replace p10 := eq_true p10
                            replace q10 := eq_true q10
                            have p12 : 0 ≤ (x5_1 : Int) := of_decide_eq_true (by first | (with_reducible assumption) | assumption)
                            have q12 : x5_1 < (t171.size : Int) := of_decide_eq_true (by first | (with_reducible assumption) | assumption)
                            have hx12 := bt_at t171 x5_1
                            replace p12 := eq_true p12
                            replace q12 := eq_true q12
                            have p21 : 0 ≤ (x5_1 : Int) := of_decide_eq_true (by first | (with_reducible assumption) | assumption)
                            have q21 : x5_1 < (t171.size : Int) := of_decide_eq_true (by first | (with_reducible assumption) | assumption)
                            have hx21 := bt_at t171 x5_1
                            replace p21 := eq_true p21
                            replace q21 := eq_true q21
                            have p23 : 0 ≤ (x5_1 : Int) := of_decide_eq_true (by first | (with_reducible assumption) | assumption)
                            have q23 : x5_1 < (t171.size : Int) := of_decide_eq_true (by first | (with_reducible assumption) | assumption)
                            have hx23 := bt_at t171 x5_1
                            replace p23 := eq_true p23
                            replace q23 := eq_true q23
                            have p24 : 0 ≤ (x5_1 : Int) := of_decide_eq_true (by first | (with_reducible assumption) | assumption)
                            have q24 : x5_1 < (t171.size : Int) := of_decide_eq_true (by first | (with_reducible assumption) | assumption)
                            have hx24 := bt_at t171 x5_1
                            replace p24 := eq_true p24
                            replace q24 := eq_true q24
                            have p30 : 0 ≤ ((ji28) : Int) := of_decide_eq_true (by first | (with_reducible assumption) | assumption)
                            have q30 : (ji28) < (t171.size : Int) := of_decide_eq_true (by first | (with_reducible assumption) | assumption)
                            have hx30 := bt_at t171 (ji28)
                            replace p30 := eq_true p30
                            replace q30 := eq_true q30
                            go_wp2
                            go_roundg k1
                            case measure => have := HK1.out; omega
                            case rel => exact ⟨(ji28), (by first | rfl | (simp; done) | (simp only [← hji28] <;> (first | rfl | simp)) | (simp [*]; done)), H', ⟨by have := HK1.out; omega⟩, ⟨by repeat (first | (with_reducible first | exact HB.out | apply below_alloc | apply pw_below_drewN | apply below_drew1) | exact HB.out)⟩⟩
                          · rw [if_neg c31] at H
                            have c31b0 : decide ((bt t171 x5_1) ≤ 57) = false := decide_eq_false c31
                            clear c31
                            by_cases c32 : (¬ (bt t171 (ji28)) = 32)
                            · rw [if_pos c32] at H
                              have c32b0 : ((bt t171 (ji28)) == 32) = false := beq_eq_false_iff_ne.mpr c32
                              have c32b1 : ((bt t171 (ji28)) != 32) = true := bne_iff_ne.mpr c32
                              clear c32
                              have H' := Aside0.mk H
                              clear H
                              have p10 : 0 ≤ (x5_1 : Int) := of_decide_eq_true (by first | (with_reducible assumption) | assumption)
                              have q10 : x5_1 < (t171.size : Int) := of_decide_eq_true (by first | (with_reducible assumption) | assumption)
                              have hx10 := bt_at t171 x5_1
                              replace p10 := eq_true p10
                              replace q10 := eq_true q10
                              have p12 : 0 ≤ (x5_1 : Int) := of_decide_eq_true (by first | (with_reducible assumption) | assumption)
                              have q12 : x5_1 < (t171.size : Int) := of_decide_eq_true (by first | (with_reducible assumption) | assumption)
                              have hx12 := bt_at t171 x5_1
                              replace p12 := eq_true p12
                              replace q12 := eq_true q12
                              have p21 : 0 ≤ (x5_1 : Int) := of_decide_eq_true (by first | (with_reducible assumption) | assumption)
                              have q21 : x5_1 < (t171.size : Int) := of_decide_eq_true (by first | (with_reducible assumption) | assumption)
                              have hx21 := bt_at t171 x5_1
                              replace p21 := eq_true p21
                              replace q21 := eq_true q21
                              have p23 : 0 ≤ (x5_1 : Int) := of_decide_eq_true (by first | (with_reducible assumption) | assumption)
                              have q23 : x5_1 < (t171.size : Int) := of_decide_eq_true (by first | (with_reducible assumption) | assumption)
                              have hx23 := bt_at t171 x5_1
                              replace p23 := eq_true p23
                              replace q23 := eq_true q23
                              have p24 : 0 ≤ (x5_1 : Int) := of_decide_eq_true (by first | (with_reducible assumption) | assumption)
                              have q24 : x5_1 < (t171.size : Int) := of_decide_eq_true (by first | (with_reducible assumption) | assumption)
                              have hx24 := bt_at t171 x5_1
                              replace p24 := eq_true p24
                              replace q24 := eq_true q24
                              have p30 : 0 ≤ ((ji28) : Int) := of_decide_eq_true (by first | (with_reducible assumption) | assumption)
                              have q30 : (ji28) < (t171.size : Int) := of_decide_eq_true (by first | (with_reducible assumption) | assumption)
                              have hx30 := bt_at t171 (ji28)
                              replace p30 := eq_true p30
                              replace q30 := eq_true q30
                              go_wp2
                              go_roundg k1
                              case measure => have := HK1.out; omega
                              case rel => exact ⟨(ji28), (by first | rfl | (simp; done) | (simp only [← hji28] <;> (first | rfl | simp)) | (simp [*]; done)), H', ⟨by have := HK1.out; omega⟩, ⟨by repeat (first | (with_reducible first | exact HB.out | apply below_alloc | apply pw_below_drewN | apply below_drew1) | exact HB.out)⟩⟩
                            · rw [if_neg c32] at H
                              have c32b0 : ((bt t171 (ji28)) == 32) = true := beq_iff_eq.mpr (Decidable.not_not.mp c32)
                              have c32b1 : ((bt t171 (ji28)) != 32) = false := bne_eq_false_iff_eq.mpr (Decidable.not_not.mp c32)
                              obtain rfl := Option.some.inj H
                              have p10 : 0 ≤ (x5_1 : Int) := of_decide_eq_true (by first | (with_reducible assumption) | assumption)
                              have q10 : x5_1 < (t171.size : Int) := of_decide_eq_true (by first | (with_reducible assumption) | assumption)
                              have hx10 := bt_at t171 x5_1
                              replace p10 := eq_true p10
                              replace q10 := eq_true q10
                              have p12 : 0 ≤ (x5_1 : Int) := of_decide_eq_true (by first | (with_reducible assumption) | assumption)
                              have q12 : x5_1 < (t171.size : Int) := of_decide_eq_true (by first | (with_reducible assumption) | assumption)
                              have hx12 := bt_at t171 x5_1
                              replace p12 := eq_true p12
                              replace q12 := eq_true q12
                              have p21 : 0 ≤ (x5_1 : Int) := of_decide_eq_true (by first | (with_reducible assumption) | assumption)
                              have q21 : x5_1 < (t171.size : Int) := of_decide_eq_true (by first | (with_reducible assumption) | assumption)
                              have hx21 := bt_at t171 x5_1
                              replace p21 := eq_true p21
                              replace q21 := eq_true q21
                              have p23 : 0 ≤ (x5_1 : Int) := of_decide_eq_true (by first | (with_reducible assumption) | assumption)
                              have q23 : x5_1 < (t171.size : Int) := of_decide_eq_true (by first | (with_reducible assumption) | assumption)
                              have hx23 := bt_at t171 x5_1
                              replace p23 := eq_true p23
                              replace q23 := eq_true q23
                              have p24 : 0 ≤ (x5_1 : Int) := of_decide_eq_true (by first | (with_reducible assumption) | assumption)
                              have q24 : x5_1 < (t171.size : Int) := of_decide_eq_true (by first | (with_reducible assumption) | assumption)
                              have hx24 := bt_at t171 x5_1
                              replace p24 := eq_true p24
                              replace q24 := eq_true q24
                              have p30 : 0 ≤ ((ji28) : Int) := of_decide_eq_true (by first | (with_reducible assumption) | assumption)
                              have q30 : (ji28) < (t171.size : Int) := of_decide_eq_true (by first | (with_reducible assumption) | assumption)
                              have hx30 := bt_at t171 (ji28)
                              replace p30 := eq_true p30
                              replace q30 := eq_true q30
                              go_wp2
                              go_ret
                              exact ⟨by first | rfl | (simp [errW_none, errW_some] <;> rfl) | (simp only [← hji28]; first | rfl | (simp [errW_none, errW_some] <;> rfl)) | (simp [*, errW_none, errW_some] <;> rfl), by repeat (first | (with_reducible first | exact HB.out | apply below_alloc | apply pw_below_drewN | apply below_drew1) | exact HB.out)⟩
                        · rw [if_neg c29] at H
                          exact absurd H (by simp)
                      · rw [if_neg c27] at H
                        have c27b0 : decide ((wrap64 (x5_1 + 1)) < (t171.size : Int)) = false := decide_eq_false c27
                        clear c27
                        by_cases c33 : ((bt t171 x5_1) ≤ 57)
                        · rw [if_pos c33] at H
                          have c33b0 : decide ((bt t171 x5_1) ≤ 57) = true := decide_eq_true c33
                          clear c33
                          have H' := Aside0.mk H
                          clear H
                          have p10 : 0 ≤ (x5_1 : Int) := of_decide_eq_true (by first | (with_reducible assumption) | assumption)
                          have q10 : x5_1 < (t171.size : Int) := of_decide_eq_true (by first | (with_reducible assumption) | assumption)
                          have hx10 := bt_at t171 x5_1
                          replace p10 := eq_true p10
                          replace q10 := eq_true q10
                          have p12 : 0 ≤ (x5_1 : Int) := of_decide_eq_true (by first | (with_reducible assumption) | assumption)
                          have q12 : x5_1 < (t171.size : Int) := of_decide_eq_true (by first | (with_reducible assumption) | assumption)
                          have hx12 := bt_at t171 x5_1
                          replace p12 := eq_true p12
                          replace q12 := eq_true q12
                          have p21 : 0 ≤ (x5_1 : Int) := of_decide_eq_true (by first | (with_reducible assumption) | assumption)
                          have q21 : x5_1 < (t171.size : Int) := of_decide_eq_true (by first | (with_reducible assumption) | assumption)
                          have hx21 := bt_at t171 x5_1
                          replace p21 := eq_true p21
                          replace q21 := eq_true q21
                          have p23 : 0 ≤ (x5_1 : Int) := of_decide_eq_true (by first | (with_reducible assumption) | assumption)
                          have q23 : x5_1 < (t171.size : Int) := of_decide_eq_true (by first | (with_reducible assumption) | assumption)
                          have hx23 := bt_at t171 x5_1
                          replace p23 := eq_true p23
                          replace q23 := eq_true q23
                          have p24 : 0 ≤ (x5_1 : Int) := of_decide_eq_true (by first | (with_reducible assumption) | assumption)
                          have q24 : x5_1 < (t171.size : Int) := of_decide_eq_true (by first | (with_reducible assumption) | assumption)
                          have hx24 := bt_at t171 x5_1
                          replace p24 := eq_true p24
                          replace q24 := eq_true q24
                          go_wp2
                          go_roundg k1
                          case measure => have := HK1.out; omega
                          case rel => exact ⟨(wrap64 (x5_1 + 1)), (by first | rfl | (simp; done) | (simp [*]; done)), H', ⟨by have := HK1.out; omega⟩, ⟨by repeat (first | (with_reducible first | exact HB.out | apply below_alloc | apply pw_below_drewN | apply below_drew1) | exact HB.out)⟩⟩
                        · rw [if_neg c33] at H
                          have c33b0 : decide ((bt t171 x5_1) ≤ 57) = false := decide_eq_false c33
                          clear c33
                          obtain rfl := Option.some.inj H
                          have p10 : 0 ≤ (x5_1 : Int) := of_decide_eq_true (by first | (with_reducible assumption) | assumption)
                          have q10 : x5_1 < (t171.size : Int) := of_decide_eq_true (by first | (with_reducible assumption) | assumption)
                          have hx10 := bt_at t171 x5_1
                          replace p10 := eq_true p10
                          replace q10 := eq_true q10
                          have p12 : 0 ≤ (x5_1 : Int) := of_decide_eq_true (by first | (with_reducible assumption) | assumption)
                          have q12 : x5_1 < (t171.size : Int) := of_decide_eq_true (by first | (with_reducible assumption) | assumption)
                          have hx12 := bt_at t171 x5_1
                          replace p12 := eq_true p12
                          replace q12 := eq_true q12
                          have p21 : 0 ≤ (x5_1 : Int) := of_decide_eq_true (by first | (with_reducible assumption) | assumption)
                          have q21 : x5_1 < (t171.size : Int) := of_decide_eq_true (by first | (with_reducible assumption) | assumption)
                          have hx21 := bt_at t171 x5_1
                          replace p21 := eq_true p21
                          replace q21 := eq_true q21
                          have p23 : 0 ≤ (x5_1 : Int) := of_decide_eq_true (by first | (with_reducible assumption) | assumption)
                          have q23 : x5_1 < (t171.size : Int) := of_decide_eq_true (by first | (with_reducible assumption) | assumption)
                          have hx23 := bt_at t171 x5_1
                          replace p23 := eq_true p23
                          replace q23 := eq_true q23
                          have p24 : 0 ≤ (x5_1 : Int) := of_decide_eq_true (by first | (with_reducible assumption) | assumption)
                          have q24 : x5_1 < (t171.size : Int) := of_decide_eq_true (by first | (with_reducible assumption) | assumption)
                          have hx24 := bt_at t171 x5_1
                          replace p24 := eq_true p24
                          replace q24 := eq_true q24
                          go_wp2
                          go_ret
                          exact ⟨by first | rfl | (simp [errW_none, errW_some] <;> rfl) | (simp [*, errW_none, errW_some] <;> rfl), by repeat (first | (with_reducible first | exact HB.out | apply below_alloc | apply pw_below_drewN | apply below_drew1) | exact HB.out)⟩
                    · rw [if_neg c26] at H
                      have c26b0 : decide (0 < x5_1) = false := decide_eq_false c26
                      clear c26
                      by_cases c34 : ((bt t171 x5_1) ≤ 57)
                      · rw [if_pos c34] at H
                        have c34b0 : decide ((bt t171 x5_1) ≤ 57) = true := decide_eq_true c34
                        clear c34
                        have H' := Aside0.mk H
                        clear H
                        have p10 : 0 ≤ (x5_1 : Int) := of_decide_eq_true (by first | (with_reducible assumption) | assumption)
                        have q10 : x5_1 < (t171.size : Int) := of_decide_eq_true (by first | (with_reducible assumption) | assumption)
                        have hx10 := bt_at t171 x5_1
                        replace p10 := eq_true p10
                        replace q10 := eq_true q10
                        have p12 : 0 ≤ (x5_1 : Int) := of_decide_eq_true (by first | (with_reducible assumption) | assumption)
                        have q12 : x5_1 < (t171.size : Int) := of_decide_eq_true (by first | (with_reducible assumption) | assumption)
                        have hx12 := bt_at t171 x5_1
                        replace p12 := eq_true p12
                        replace q12 := eq_true q12
                        have p21 : 0 ≤ (x5_1 : Int) := of_decide_eq_true (by first | (with_reducible assumption) | assumption)
                        have q21 : x5_1 < (t171.size : Int) := of_decide_eq_true (by first | (with_reducible assumption) | assumption)
                        have hx21 := bt_at t171 x5_1
                        replace p21 := eq_true p21
                        replace q21 := eq_true q21
                        have p23 : 0 ≤ (x5_1 : Int) := of_decide_eq_true (by first | (with_reducible assumption) | assumption)
                        have q23 : x5_1 < (t171.size : Int) := of_decide_eq_true (by first | (with_reducible assumption) | assumption)
                        have hx23 := bt_at t171 x5_1
                        replace p23 := eq_true p23
                        replace q23 := eq_true q23
                        have p24 : 0 ≤ (x5_1 : Int) := of_decide_eq_true (by first | (with_reducible assumption) | assumption)
                        have q24 : x5_1 < (t171.size : Int) := of_decide_eq_true (by first | (with_reducible assumption) | assumption)
                        have hx24 := bt_at t171 x5_1
                        replace p24 := eq_true p24
                        replace q24 := eq_true q24
                        go_wp2
                        go_roundg k1
                        case measure => have := HK1.out; omega
                        case rel => exact ⟨(wrap64 (x5_1 + 1)), (by first | rfl | (simp; done) | (simp [*]; done)), H', ⟨by have := HK1.out; omega⟩, ⟨by repeat (first | (with_reducible first | exact HB.out | apply below_alloc | apply pw_below_drewN | apply below_drew1) | exact HB.out)⟩⟩
                      · rw [if_neg c34] at H
                        have c34b0 : decide ((bt t171 x5_1) ≤ 57) = false := decide_eq_false c34
                        clear c34
                        obtain rfl := Option.some.inj H
                        have p10 : 0 ≤ (x5_1 : Int) := of_decide_eq_true (by first | (with_reducible assumption) | assumption)
                        have q10 : x5_1 < (t171.size : Int) := of_decide_eq_true (by first | (with_reducible assumption) | assumption)
                        have hx10 := bt_at t171 x5_1
                        replace p10 := eq_true p10
                        replace q10 := eq_true q10
                        have p12 : 0 ≤ (x5_1 : Int) := of_decide_eq_true (by first | (with_reducible assumption) | assumption)
                        have q12 : x5_1 < (t171.size : Int) := of_decide_eq_true (by first | (with_reducible assumption) | assumption)
                        have hx12 := bt_at t171 x5_1
                        replace p12 := eq_true p12
                        replace q12 := eq_true q12
                        have p21 : 0 ≤ (x5_1 : Int) := of_decide_eq_true (by first | (with_reducible assumption) | assumption)
                        have q21 : x5_1 < (t171.size : Int) := of_decide_eq_true (by first | (with_reducible assumption) | assumption)
                        have hx21 := bt_at t171 x5_1
                        replace p21 := eq_true p21
                        replace q21 := eq_true q21
                        have p23 : 0 ≤ (x5_1 : Int) := of_decide_eq_true (by first | (with_reducible assumption) | assumption)
                        have q23 : x5_1 < (t171.size : Int) := of_decide_eq_true (by first | (with_reducible assumption) | assumption)
                        have hx23 := bt_at t171 x5_1
                        replace p23 := eq_true p23
                        replace q23 := eq_true q23
                        have p24 : 0 ≤ (x5_1 : Int) := of_decide_eq_true (by first | (with_reducible assumption) | assumption)
                        have q24 : x5_1 < (t171.size : Int) := of_decide_eq_true (by first | (with_reducible assumption) | assumption)
                        have hx24 := bt_at t171 x5_1
                        replace p24 := eq_true p24
                        replace q24 := eq_true q24
                        go_wp2
                        go_ret
                        exact ⟨by first | rfl | (simp [errW_none, errW_some] <;> rfl) | (simp [*, errW_none, errW_some] <;> rfl), by repeat (first | (with_reducible first | exact HB.out | apply below_alloc | apply pw_below_drewN | apply below_drew1) | exact HB.out)⟩
                  · rw [if_neg c25] at H
                    have c25b0 : ((bt t171 x5_1) == 32) = false := beq_eq_false_iff_ne.mpr c25
                    have c25b1 : ((bt t171 x5_1) != 32) = true := bne_iff_ne.mpr c25
                    by_cases c35 : ((bt t171 x5_1) ≤ 57)
                    · rw [if_pos c35] at H
                      have c35b0 : decide ((bt t171 x5_1) ≤ 57) = true := decide_eq_true c35
                      clear c35
                      have H' := Aside0.mk H
                      clear H
                      have p10 : 0 ≤ (x5_1 : Int) := of_decide_eq_true (by first | (with_reducible assumption) | assumption)
                      have q10 : x5_1 < (t171.size : Int) := of_decide_eq_true (by first | (with_reducible assumption) | assumption)
                      have hx10 := bt_at t171 x5_1
                      replace p10 := eq_true p10
                      replace q10 := eq_true q10
                      have p12 : 0 ≤ (x5_1 : Int) := of_decide_eq_true (by first | (with_reducible assumption) | assumption)
                      have q12 : x5_1 < (t171.size : Int) := of_decide_eq_true (by first | (with_reducible assumption) | assumption)
                      have hx12 := bt_at t171 x5_1
                      replace p12 := eq_true p12
                      replace q12 := eq_true q12
                      have p21 : 0 ≤ (x5_1 : Int) := of_decide_eq_true (by first | (with_reducible assumption) | assumption)
                      have q21 : x5_1 < (t171.size : Int) := of_decide_eq_true (by first | (with_reducible assumption) | assumption)
                      have hx21 := bt_at t171 x5_1
                      replace p21 := eq_true p21
                      replace q21 := eq_true q21
                      have p23 : 0 ≤ (x5_1 : Int) := of_decide_eq_true (by first | (with_reducible assumption) | assumption)
                      have q23 : x5_1 < (t171.size : Int) := of_decide_eq_true (by first | (with_reducible assumption) | assumption)
                      have hx23 := bt_at t171 x5_1
                      replace p23 := eq_true p23
                      replace q23 := eq_true q23
                      have p24 : 0 ≤ (x5_1 : Int) := of_decide_eq_true (by first | (with_reducible assumption) | assumption)
                      have q24 : x5_1 < (t171.size : Int) := of_decide_eq_true (by first | (with_reducible assumption) | assumption)
                      have hx24 := bt_at t171 x5_1
                      replace p24 := eq_true p24
                      replace q24 := eq_true q24
                      go_wp2
                      go_roundg k1
                      case measure => have := HK1.out; omega
                      case rel => exact ⟨(wrap64 (x5_1 + 1)), (by first | rfl | (simp; done) | (simp [*]; done)), H', ⟨by have := HK1.out; omega⟩, ⟨by repeat (first | (with_reducible first | exact HB.out | apply below_alloc | apply pw_below_drewN | apply below_drew1) | exact HB.out)⟩⟩
                    · rw [if_neg c35] at H
                      have c35b0 : decide ((bt t171 x5_1) ≤ 57) = false := decide_eq_false c35
                      clear c35
                      obtain rfl := Option.some.inj H
                      have p10 : 0 ≤ (x5_1 : Int) := of_decide_eq_true (by first | (with_reducible assumption) | assumption)
                      have q10 : x5_1 < (t171.size : Int) := of_decide_eq_true (by first | (with_reducible assumption) | assumption)
                      have hx10 := bt_at t171 x5_1
                      replace p10 := eq_true p10
                      replace q10 := eq_true q10
                      have p12 : 0 ≤ (x5_1 : Int) := of_decide_eq_true (by first | (with_reducible assumption) | assumption)
                      have q12 : x5_1 < (t171.size : Int) := of_decide_eq_true (by first | (with_reducible assumption) | assumption)
                      have hx12 := bt_at t171 x5_1
                      replace p12 := eq_true p12
                      replace q12 := eq_true q12
                      have p21 : 0 ≤ (x5_1 : Int) := of_decide_eq_true (by first | (with_reducible assumption) | assumption)
                      have q21 : x5_1 < (t171.size : Int) := of_decide_eq_true (by first | (with_reducible assumption) | assumption)
                      have hx21 := bt_at t171 x5_1
                      replace p21 := eq_true p21
                      replace q21 := eq_true q21
                      have p23 : 0 ≤ (x5_1 : Int) := of_decide_eq_true (by first | (with_reducible assumption) | assumption)
                      have q23 : x5_1 < (t171.size : Int) := of_decide_eq_true (by first | (with_reducible assumption) | assumption)
                      have hx23 := bt_at t171 x5_1
                      replace p23 := eq_true p23
                      replace q23 := eq_true q23
                      have p24 : 0 ≤ (x5_1 : Int) := of_decide_eq_true (by first | (with_reducible assumption) | assumption)
                      have q24 : x5_1 < (t171.size : Int) := of_decide_eq_true (by first | (with_reducible assumption) | assumption)
                      have hx24 := bt_at t171 x5_1
                      replace p24 := eq_true p24
                      replace q24 := eq_true q24
                      go_wp2
                      go_ret
                      exact ⟨by first | rfl | (simp [errW_none, errW_some] <;> rfl) | (simp [*, errW_none, errW_some] <;> rfl), by repeat (first | (with_reducible first | exact HB.out | apply below_alloc | apply pw_below_drewN | apply below_drew1) | exact HB.out)⟩
                · rw [if_neg c22] at H
                  have c22b0 : decide (48 ≤ (bt t171 x5_1)) = false := decide_eq_false c22
                  clear c22
                  by_cases c37 : (bt t171 x5_1) = 32
                  · rw [if_pos c37] at H
                    have c37b0 : ((bt t171 x5_1) == 32) = true := beq_iff_eq.mpr c37
                    have c37b1 : ((bt t171 x5_1) != 32) = false := bne_eq_false_iff_eq.mpr c37
                    clear c37
                    by_cases c38 : x5_1 > 0
                    · rw [if_pos c38] at H
                      have c38b0 : decide (0 < x5_1) = true := decide_eq_true c38
                      clear c38
                      by_cases c39 : (wrap64 (x5_1 + 1)) < (t171.size : Int)
                      · rw [if_pos c39] at H
                        have c39b0 : decide ((wrap64 (x5_1 + 1)) < (t171.size : Int)) = true := decide_eq_true c39
                        clear c39
                        obtain ⟨ji40, hji40⟩ : ∃ j_ : Int, (wrap64 (x5_1 + 1)) = j_ := ⟨_, rfl⟩
                        replace H : (if 0 ≤ (ji40) then (if (¬ (bt t171 (ji40)) = 32) then (cleanselaw03_WordsFold.l0 k1 a0 t170 t171 ji40) else (some false)) else (none)) = some r := by first | (rw [hji40] at H; exact H) | (simp only [hji40] at H ⊢; exact H)
                        (try rw [hji40] at c39b0)
                        have hji40w : (IntKind.i64.wrap (x5_1 + 1)) = ji40 := (i64_w _).trans hji40
                        by_cases c41 : 0 ≤ (ji40)
                        · rw [if_pos c41] at H
                          have c41b0 : decide (0 ≤ (ji40)) = true := decide_eq_true c41
                          clear c41
                          by_cases c43 : (¬ (bt t171 (ji40)) = 32)
                          · rw [if_pos c43] at H
                            have c43b0 : ((bt t171 (ji40)) == 32) = false := beq_eq_false_iff_ne.mpr c43
                            have c43b1 : ((bt t171 (ji40)) != 32) = true := bne_iff_ne.mpr c43
                            clear c43
                            have H' := Aside0.mk H
                            clear H
                            have p10 : 0 ≤ (x5_1 : Int) := of_decide_eq_true (by first | (with_reducible assumption) | assumption)
                            have q10 : x5_1 < (t171.size : Int) := of_decide_eq_true (by first | (with_reducible assumption) | assumption)
                            have hx10 := bt_at t171 x5_1
                            replace p10 := eq_true p10
                            replace q10 := eq_true q10
                            have p12 : 0 ≤ (x5_1 : Int) := of_decide_eq_true (by first | (with_reducible assumption) | assumption)
                            have q12 : x5_1 < (t171.size : Int) := of_decide_eq_true (by first | (with_reducible assumption) | assumption)
                            have hx12 := bt_at t171 x5_1
                            replace p12 := eq_true p12
                            replace q12 := eq_true q12
                            have p21 : 0 ≤ (x5_1 : Int) := of_decide_eq_true (by first | (with_reducible assumption) | assumption)
                            have q21 : x5_1 < (t171.size : Int) := of_decide_eq_true (by first | (with_reducible assumption) | assumption)
                            have hx21 := bt_at t171 x5_1
                            replace p21 := eq_true p21
                            replace q21 := eq_true q21
                            have p36 : 0 ≤ (x5_1 : Int) := of_decide_eq_true (by first | (with_reducible assumption) | assumption)
                            have q36 : x5_1 < (t171.size : Int) := of_decide_eq_true (by first | (with_reducible assumption) | assumption)
                            have hx36 := bt_at t171 x5_1
                            replace p36 := eq_true p36
                            replace q36 := eq_true q36
                            have p42 : 0 ≤ ((ji40) : Int) := of_decide_eq_true (by first | (with_reducible assumption) | assumption)
                            have q42 : (ji40) < (t171.size : Int) := of_decide_eq_true (by first | (with_reducible assumption) | assumption)
                            have hx42 := bt_at t171 (ji40)
                            replace p42 := eq_true p42
                            replace q42 := eq_true q42
                            go_wp2
                            go_roundg k1
                            case measure => have := HK1.out; omega
                            case rel => exact ⟨(ji40), (by first | rfl | (simp; done) | (simp only [← hji40] <;> (first | rfl | simp)) | (simp [*]; done)), H', ⟨by have := HK1.out; omega⟩, ⟨by repeat (first | (with_reducible first | exact HB.out | apply below_alloc | apply pw_below_drewN | apply below_drew1) | exact HB.out)⟩⟩
                          · rw [if_neg c43] at H
                            have c43b0 : ((bt t171 (ji40)) == 32) = true := beq_iff_eq.mpr (Decidable.not_not.mp c43)
                            have c43b1 : ((bt t171 (ji40)) != 32) = false := bne_eq_false_iff_eq.mpr (Decidable.not_not.mp c43)
                            obtain rfl := Option.some.inj H
                            have p10 : 0 ≤ (x5_1 : Int) := of_decide_eq_true (by first | (with_reducible assumption) | assumption)
                            have q10 : x5_1 < (t171.size : Int) := of_decide_eq_true (by first | (with_reducible assumption) | assumption)
                            have hx10 := bt_at t171 x5_1
                            replace p10 := eq_true p10
                            replace q10 := eq_true q10
                            have p12 : 0 ≤ (x5_1 : Int) := of_decide_eq_true (by first | (with_reducible assumption) | assumption)
                            have q12 : x5_1 < (t171.size : Int) := of_decide_eq_true (by first | (with_reducible assumption) | assumption)
                            have hx12 := bt_at t171 x5_1
                            replace p12 := eq_true p12
                            replace q12 := eq_true q12
                            have p21 : 0 ≤ (x5_1 : Int) := of_decide_eq_true (by first | (with_reducible assumption) | assumption)
                            have q21 : x5_1 < (t171.size : Int) := of_decide_eq_true (by first | (with_reducible assumption) | assumption)
                            have hx21 := bt_at t171 x5_1
                            replace p21 := eq_true p21
                            replace q21 := eq_true q21
                            have p36 : 0 ≤ (x5_1 : Int) := of_decide_eq_true (by first | (with_reducible assumption) | assumption)
                            have q36 : x5_1 < (t171.size : Int) := of_decide_eq_true (by first | (with_reducible assumption) | assumption)
                            have hx36 := bt_at t171 x5_1
                            replace p36 := eq_true p36
                            replace q36 := eq_true q36
                            have p42 : 0 ≤ ((ji40) : Int) := of_decide_eq_true (by first | (with_reducible assumption) | assumption)
                            have q42 : (ji40) < (t171.size : Int) := of_decide_eq_true (by first | (with_reducible assumption) | assumption)
                            have hx42 := bt_at t171 (ji40)
                            replace p42 := eq_true p42
                            replace q42 := eq_true q42
                            go_wp2
                            go_ret
                            exact ⟨by first | rfl | (simp [errW_none, errW_some] <;> rfl) | (simp only [← hji40]; first | rfl | (simp [errW_none, errW_some] <;> rfl)) | (simp [*, errW_none, errW_some] <;> rfl), by repeat (first | (with_reducible first | exact HB.out | apply below_alloc | apply pw_below_drewN | apply below_drew1) | exact HB.out)⟩
                        · rw [if_neg c41] at H
                          exact absurd H (by simp)
                      · rw [if_neg c39] at H
                        have c39b0 : decide ((wrap64 (x5_1 + 1)) < (t171.size : Int)) = false := decide_eq_false c39
                        clear c39
                        obtain rfl := Option.some.inj H
                        have p10 : 0 ≤ (x5_1 : Int) := of_decide_eq_true (by first | (with_reducible assumption) | assumption)
                        have q10 : x5_1 < (t171.size : Int) := of_decide_eq_true (by first | (with_reducible assumption) | assumption)
                        have hx10 := bt_at t171 x5_1
                        replace p10 := eq_true p10
                        replace q10 := eq_true q10
                        have p12 : 0 ≤ (x5_1 : Int) := of_decide_eq_true (by first | (with_reducible assumption) | assumption)
                        have q12 : x5_1 < (t171.size : Int) := of_decide_eq_true (by first | (with_reducible assumption) | assumption)
                        have hx12 := bt_at t171 x5_1
                        replace p12 := eq_true p12
                        replace q12 := eq_true q12
                        have p21 : 0 ≤ (x5_1 : Int) := of_decide_eq_true (by first | (with_reducible assumption) | assumption)
                        have q21 : x5_1 < (t171.size : Int) := of_decide_eq_true (by first | (with_reducible assumption) | assumption)
                        have hx21 := bt_at t171 x5_1
                        replace p21 := eq_true p21
                        replace q21 := eq_true q21
                        have p36 : 0 ≤ (x5_1 : Int) := of_decide_eq_true (by first | (with_reducible assumption) | assumption)
                        have q36 : x5_1 < (t171.size : Int) := of_decide_eq_true (by first | (with_reducible assumption) | assumption)
                        have hx36 := bt_at t171 x5_1
                        replace p36 := eq_true p36
                        replace q36 := eq_true q36
                        go_wp2
                        go_ret
                        exact ⟨by first | rfl | (simp [errW_none, errW_some] <;> rfl) | (simp [*, errW_none, errW_some] <;> rfl), by repeat (first | (with_reducible first | exact HB.out | apply below_alloc | apply pw_below_drewN | apply below_drew1) | exact HB.out)⟩
                    · rw [if_neg c38] at H
                      have c38b0 : decide (0 < x5_1) = false := decide_eq_false c38
                      clear c38
                      obtain rfl := Option.some.inj H
                      have p10 : 0 ≤ (x5_1 : Int) := of_decide_eq_true (by first | (with_reducible assumption) | assumption)
                      have q10 : x5_1 < (t171.size : Int) := of_decide_eq_true (by first | (with_reducible assumption) | assumption)
                      have hx10 := bt_at t171 x5_1
                      replace p10 := eq_true p10
                      replace q10 := eq_true q10
                      have p12 : 0 ≤ (x5_1 : Int) := of_decide_eq_true (by first | (with_reducible assumption) | assumption)
                      have q12 : x5_1 < (t171.size : Int) := of_decide_eq_true (by first | (with_reducible assumption) | assumption)
                      have hx12 := bt_at t171 x5_1
                      replace p12 := eq_true p12
                      replace q12 := eq_true q12
                      have p21 : 0 ≤ (x5_1 : Int) := of_decide_eq_true (by first | (with_reducible assumption) | assumption)
                      have q21 : x5_1 < (t171.size : Int) := of_decide_eq_true (by first | (with_reducible assumption) | assumption)
                      have hx21 := bt_at t171 x5_1
                      replace p21 := eq_true p21
                      replace q21 := eq_true q21
                      have p36 : 0 ≤ (x5_1 : Int) := of_decide_eq_true (by first | (with_reducible assumption) | assumption)
                      have q36 : x5_1 < (t171.size : Int) := of_decide_eq_true (by first | (with_reducible assumption) | assumption)
                      have hx36 := bt_at t171 x5_1
                      replace p36 := eq_true p36
                      replace q36 := eq_true q36
                      go_wp2
                      go_ret
                      exact ⟨by first | rfl | (simp [errW_none, errW_some] <;> rfl) | (simp [*, errW_none, errW_some] <;> rfl), by repeat (first | (with_reducible first | exact HB.out | apply below_alloc | apply pw_below_drewN | apply below_drew1) | exact HB.out)⟩
                  · rw [if_neg c37] at H
                    have c37b0 : ((bt t171 x5_1) == 32) = false := beq_eq_false_iff_ne.mpr c37
                    have c37b1 : ((bt t171 x5_1) != 32) = true := bne_iff_ne.mpr c37
                    obtain rfl := Option.some.inj H
                    have p10 : 0 ≤ (x5_1 : Int) := of_decide_eq_true (by first | (with_reducible assumption) | assumption)
                    have q10 : x5_1 < (t171.size : Int) := of_decide_eq_true (by first | (with_reducible assumption) | assumption)
                    have hx10 := bt_at t171 x5_1
                    replace p10 := eq_true p10
                    replace q10 := eq_true q10
                    have p12 : 0 ≤ (x5_1 : Int) := of_decide_eq_true (by first | (with_reducible assumption) | assumption)
                    have q12 : x5_1 < (t171.size : Int) := of_decide_eq_true (by first | (with_reducible assumption) | assumption)
                    have hx12 := bt_at t171 x5_1
                    replace p12 := eq_true p12
                    replace q12 := eq_true q12
                    have p21 : 0 ≤ (x5_1 : Int) := of_decide_eq_true (by first | (with_reducible assumption) | assumption)
                    have q21 : x5_1 < (t171.size : Int) := of_decide_eq_true (by first | (with_reducible assumption) | assumption)
                    have hx21 := bt_at t171 x5_1
                    replace p21 := eq_true p21
                    replace q21 := eq_true q21
                    have p36 : 0 ≤ (x5_1 : Int) := of_decide_eq_true (by first | (with_reducible assumption) | assumption)
                    have q36 : x5_1 < (t171.size : Int) := of_decide_eq_true (by first | (with_reducible assumption) | assumption)
                    have hx36 := bt_at t171 x5_1
                    replace p36 := eq_true p36
                    replace q36 := eq_true q36
                    go_wp2
                    go_ret
                    exact ⟨by first | rfl | (simp [errW_none, errW_some] <;> rfl) | (simp [*, errW_none, errW_some] <;> rfl), by repeat (first | (with_reducible first | exact HB.out | apply below_alloc | apply pw_below_drewN | apply below_drew1) | exact HB.out)⟩
            · rw [if_neg c11] at H
              have c11b0 : decide (97 ≤ (bt t171 x5_1)) = false := decide_eq_false c11
              clear c11
              by_cases c45 : (bt t171 x5_1) ≥ 48
              · rw [if_pos c45] at H
                have c45b0 : decide (48 ≤ (bt t171 x5_1)) = true := decide_eq_true c45
                clear c45
                by_cases c48 : (bt t171 x5_1) = 32
                · rw [if_pos c48] at H
                  have c48b0 : ((bt t171 x5_1) == 32) = true := beq_iff_eq.mpr c48
                  have c48b1 : ((bt t171 x5_1) != 32) = false := bne_eq_false_iff_eq.mpr c48
                  clear c48
                  by_cases c49 : x5_1 > 0
                  · rw [if_pos c49] at H
                    have c49b0 : decide (0 < x5_1) = true := decide_eq_true c49
                    clear c49
                    by_cases c50 : (wrap64 (x5_1 + 1)) < (t171.size : Int)
                    · rw [if_pos c50] at H
                      have c50b0 : decide ((wrap64 (x5_1 + 1)) < (t171.size : Int)) = true := decide_eq_true c50
                      clear c50
                      obtain ⟨ji51, hji51⟩ : ∃ j_ : Int, (wrap64 (x5_1 + 1)) = j_ := ⟨_, rfl⟩
                      replace H : (if 0 ≤ (ji51) then (if ((bt t171 x5_1) ≤ 57) then (cleanselaw03_WordsFold.l0 k1 a0 t170 t171 ji51) else (if (¬ (bt t171 (ji51)) = 32) then (cleanselaw03_WordsFold.l0 k1 a0 t170 t171 ji51) else (some false))) else (none)) = some r := by first | (rw [hji51] at H; exact H) | (simp only [hji51] at H ⊢; exact H)
                      (try rw [hji51] at c50b0)
                      have hji51w : (IntKind.i64.wrap (x5_1 + 1)) = ji51 := (i64_w _).trans hji51
                      by_cases c52 : 0 ≤ (ji51)
                      · rw [if_pos c52] at H
                        have c52b0 : decide (0 ≤ (ji51)) = true := decide_eq_true c52
                        clear c52
                        by_cases c54 : ((bt t171 x5_1) ≤ 57)
                        · rw [if_pos c54] at H
                          have c54b0 : decide ((bt t171 x5_1) ≤ 57) = true := decide_eq_true c54
                          clear c54
                          have H' := Aside0.mk H
                          clear H
                          have p10 : 0 ≤ (x5_1 : Int) := of_decide_eq_true (by first | (with_reducible assumption) | assumption)
                          have q10 : x5_1 < (t171.size : Int) := of_decide_eq_true (by first | (with_reducible assumption) | assumption)
                          have hx10 := bt_at t171 x5_1
                          replace p10 := eq_true p10
                          replace q10 := eq_true q10
                          have p44 : 0 ≤ (x5_1 : Int) := of_decide_eq_true (by first | (with_reducible assumption) | assumption)
                          have q44 : x5_1 < (t171.size : Int) := of_decide_eq_true (by first | (with_reducible assumption) | assumption)
                          have hx44 := bt_at t171 x5_1
                          replace p44 := eq_true p44
                          replace q44 := eq_true q44
                          have p46 : 0 ≤ (x5_1 : Int) := of_decide_eq_true (by first | (with_reducible assumption) | assumption)
                          have q46 : x5_1 < (t171.size : Int) := of_decide_eq_true (by first | (with_reducible assumption) | assumption)
                          have hx46 := bt_at t171 x5_1
                          replace p46 := eq_true p46
                          replace q46 := eq_true q46
                          have p47 : 0 ≤ (x5_1 : Int) := of_decide_eq_true (by first | (with_reducible assumption) | assumption)
                          have q47 : x5_1 < (t171.size : Int) := of_decide_eq_true (by first | (with_reducible assumption) | assumption)
                          have hx47 := bt_at t171 x5_1
                          replace p47 := eq_true p47
                          replace q47 := eq_true q47
                          have p53 : 0 ≤ ((ji51) : Int) := of_decide_eq_true (by first | (with_reducible assumption) | assumption)
                          have q53 : (ji51) < (t171.size : Int) := of_decide_eq_true (by first | (with_reducible assumption) | assumption)
                          have hx53 := bt_at t171 (ji51)
                          replace p53 := eq_true p53
                          replace q53 := eq_true q53
                          go_wp2
                          go_roundg k1
                          case measure => have := HK1.out; omega
                          case rel => exact ⟨(ji51), (by first | rfl | (simp; done) | (simp only [← hji51] <;> (first | rfl | simp)) | (simp [*]; done)), H', ⟨by have := HK1.out; omega⟩, ⟨by repeat (first | (with_reducible first | exact HB.out | apply below_alloc | apply pw_below_drewN | apply below_drew1) | exact HB.out)⟩⟩
                        · rw [if_neg c54] at H
                          have c54b0 : decide ((bt t171 x5_1) ≤ 57) = false := decide_eq_false c54
                          clear c54
                          by_cases c55 : (¬ (bt t171 (ji51)) = 32)
                          · rw [if_pos c55] at H
                            have c55b0 : ((bt t171 (ji51)) == 32) = false := beq_eq_false_iff_ne.mpr c55
                            have c55b1 : ((bt t171 (ji51)) != 32) = true := bne_iff_ne.mpr c55
                            clear c55
                            have H' := Aside0.mk H
                            clear H
                            have p10 : 0 ≤ (x5_1 : Int) := of_decide_eq_true (by first | (with_reducible assumption) | assumption)
                            have q10 : x5_1 < (t171.size : Int) := of_decide_eq_true (by first | (with_reducible assumption) | assumption)
                            have hx10 := bt_at t171 x5_1
                            replace p10 := eq_true p10
                            replace q10 := eq_true q10
                            have p44 : 0 ≤ (x5_1 : Int) := of_decide_eq_true (by first | (with_reducible assumption) | assumption)
                            have q44 : x5_1 < (t171.size : Int) := of_decide_eq_true (by first | (with_reducible assumption) | assumption)
                            have hx44 := bt_at t171 x5_1
                            replace p44 := eq_true p44
                            replace q44 := eq_true q44
                            have p46 : 0 ≤ (x5_1 : Int) := of_decide_eq_true (by first | (with_reducible assumption) | assumption)
                            have q46 : x5_1 < (t171.size : Int) := of_decide_eq_true (by first | (with_reducible assumption) | assumption)
                            have hx46 := bt_at t171 x5_1
                            replace p46 := eq_true p46
                            replace q46 := eq_true q46
                            have p47 : 0 ≤ (x5_1 : Int) := of_decide_eq_true (by first | (with_reducible assumption) | assumption)
                            have q47 : x5_1 < (t171.size : Int) := of_decide_eq_true (by first | (with_reducible assumption) | assumption)
                            have hx47 := bt_at t171 x5_1
                            replace p47 := eq_true p47
                            replace q47 := eq_true q47
                            have p53 : 0 ≤ ((ji51) : Int) := of_decide_eq_true (by first | (with_reducible assumption) | assumption)
                            have q53 : (ji51) < (t171.size : Int) := of_decide_eq_true (by first | (with_reducible assumption) | assumption)
                            have hx53 := bt_at t171 (ji51)
                            replace p53 := eq_true p53
                            replace q53 := eq_true q53
                            go_wp2
                            go_roundg k1
                            case measure => have := HK1.out; omega
                            case rel => exact ⟨(ji51), (by first | rfl | (simp; done) | (simp only [← hji51] <;> (first | rfl | simp)) | (simp [*]; done)), H', ⟨by have := HK1.out; omega⟩, ⟨by repeat (first | (with_reducible first | exact HB.out | apply below_alloc | apply pw_below_drewN | apply below_drew1) | exact HB.out)⟩⟩
                          · rw [if_neg c55] at H
                            have c55b0 : ((bt t171 (ji51)) == 32) = true := beq_iff_eq.mpr (Decidable.not_not.mp c55)
                            have c55b1 : ((bt t171 (ji51)) != 32) = false := bne_eq_false_iff_eq.mpr (Decidable.not_not.mp c55)
                            obtain rfl := Option.some.inj H
                            have p10 : 0 ≤ (x5_1 : Int) := of_decide_eq_true (by first | (with_reducible assumption) | assumption)
                            have q10 : x5_1 < (t171.size : Int) := of_decide_eq_true (by first | (with_reducible assumption) | assumption)
                            have hx10 := bt_at t171 x5_1
                            replace p10 := eq_true p10
                            replace q10 := eq_true q10
                            have p44 : 0 ≤ (x5_1 : Int) := of_decide_eq_true (by first | (with_reducible assumption) | assumption)
                            have q44 : x5_1 < (t171.size : Int) := of_decide_eq_true (by first | (with_reducible assumption) | assumption)
                            have hx44 := bt_at t171 x5_1
                            replace p44 := eq_true p44
                            replace q44 := eq_true q44
                            have p46 : 0 ≤ (x5_1 : Int) := of_decide_eq_true (by first | (with_reducible assumption) | assumption)
                            have q46 : x5_1 < (t171.size : Int) := of_decide_eq_true (by first | (with_reducible assumption) | assumption)
                            have hx46 := bt_at t171 x5_1
                            replace p46 := eq_true p46
                            replace q46 := eq_true q46
                            have p47 : 0 ≤ (x5_1 : Int) := of_decide_eq_true (by first | (with_reducible assumption) | assumption)
                            have q47 : x5_1 < (t171.size : Int) := of_decide_eq_true (by first | (with_reducible assumption) | assumption)
                            have hx47 := bt_at t171 x5_1
                            replace p47 := eq_true p47
                            replace q47 := eq_true q47
                            have p53 : 0 ≤ ((ji51) : Int) := of_decide_eq_true (by first | (with_reducible assumption) | assumption)
                            have q53 : (ji51) < (t171.size : Int) := of_decide_eq_true (by first | (with_reducible assumption) | assumption)
                            have hx53 := bt_at t171 (ji51)
                            replace p53 := eq_true p53
                            replace q53 := eq_true q53
                            go_wp2
                            go_ret
                            exact ⟨by first | rfl | (simp [errW_none, errW_some] <;> rfl) | (simp only [← hji51]; first | rfl | (simp [errW_none, errW_some] <;> rfl)) | (simp [*, errW_none, errW_some] <;> rfl), by repeat (first | (with_reducible first | exact HB.out | apply below_alloc | apply pw_below_drewN | apply below_drew1) | exact HB.out)⟩
                      · rw [if_neg c52] at H
                        exact absurd H (by simp)
                    · rw [if_neg c50] at H
                      have c50b0 : decide ((wrap64 (x5_1 + 1)) < (t171.size : Int)) = false := decide_eq_false c50
                      clear c50
                      by_cases c56 : ((bt t171 x5_1) ≤ 57)
                      · rw [if_pos c56] at H
                        have c56b0 : decide ((bt t171 x5_1) ≤ 57) = true := decide_eq_true c56
                        clear c56
                        have H' := Aside0.mk H
                        clear H
                        have p10 : 0 ≤ (x5_1 : Int) := of_decide_eq_true (by first | (with_reducible assumption) | assumption)
                        have q10 : x5_1 < (t171.size : Int) := of_decide_eq_true (by first | (with_reducible assumption) | assumption)
                        have hx10 := bt_at t171 x5_1
                        replace p10 := eq_true p10
                        replace q10 := eq_true q10
                        have p44 : 0 ≤ (x5_1 : Int) := of_decide_eq_true (by first | (with_reducible assumption) | assumption)
                        have q44 : x5_1 < (t171.size : Int) := of_decide_eq_true (by first | (with_reducible assumption) | assumption)
                        have hx44 := bt_at t171 x5_1
                        replace p44 := eq_true p44
                        replace q44 := eq_true q44
                        have p46 : 0 ≤ (x5_1 : Int) := of_decide_eq_true (by first | (with_reducible assumption) | assumption)
                        have q46 : x5_1 < (t171.size : Int) := of_decide_eq_true (by first | (with_reducible assumption) | assumption)
                        have hx46 := bt_at t171 x5_1
                        replace p46 := eq_true p46
                        replace q46 := eq_true q46
                        have p47 : 0 ≤ (x5_1 : Int) := of_decide_eq_true (by first | (with_reducible assumption) | assumption)
                        have q47 : x5_1 < (t171.size : Int) := of_decide_eq_true (by first | (with_reducible assumption) | assumption)
                        have hx47 := bt_at t171 x5_1
                        replace p47 := eq_true p47
                        replace q47 := eq_true q47
                        go_wp2
                        go_roundg k1
                        case measure => have := HK1.out; omega
                        case rel => exact ⟨(wrap64 (x5_1 + 1)), (by first | rfl | (simp; done) | (simp [*]; done)), H', ⟨by have := HK1.out; omega⟩, ⟨by repeat (first | (with_reducible first | exact HB.out | apply below_alloc | apply pw_below_drewN | apply below_drew1) | exact HB.out)⟩⟩
                      · rw [if_neg c56] at H
                        have c56b0 : decide ((bt t171 x5_1) ≤ 57) = false := decide_eq_false c56
                        clear c56
                        obtain rfl := Option.some.inj H
                        have p10 : 0 ≤ (x5_1 : Int) := of_decide_eq_true (by first | (with_reducible assumption) | assumption)
                        have q10 : x5_1 < (t171.size : Int) := of_decide_eq_true (by first | (with_reducible assumption) | assumption)
                        have hx10 := bt_at t171 x5_1
                        replace p10 := eq_true p10
                        replace q10 := eq_true q10
                        have p44 : 0 ≤ (x5_1 : Int) := of_decide_eq_true (by first | (with_reducible assumption) | assumption)
                        have q44 : x5_1 < (t171.size : Int) := of_decide_eq_true (by first | (with_reducible assumption) | assumption)
                        have hx44 := bt_at t171 x5_1
                        replace p44 := eq_true p44
                        replace q44 := eq_true q44
                        have p46 : 0 ≤ (x5_1 : Int) := of_decide_eq_true (by first | (with_reducible assumption) | assumption)
                        have q46 : x5_1 < (t171.size : Int) := of_decide_eq_true (by first | (with_reducible assumption) | assumption)
                        have hx46 := bt_at t171 x5_1
                        replace p46 := eq_true p46
                        replace q46 := eq_true q46
                        have p47 : 0 ≤ (x5_1 : Int) := of_decide_eq_true (by first | (with_reducible assumption) | assumption)
                        have q47 : x5_1 < (t171.size : Int) := of_decide_eq_true (by first | (with_reducible assumption) | assumption)
                        have hx47 := bt_at t171 x5_1
                        replace p47 := eq_true p47
                        replace q47 := eq_true q47
                        go_wp2
                        go_ret
                        exact ⟨by first | rfl | (simp [errW_none, errW_some] <;> rfl) | (simp [*, errW_none, errW_some] <;> rfl), by repeat (first | (with_reducible first | exact HB.out | apply below_alloc | apply pw_below_drewN | apply below_drew1) | exact HB.out)⟩
                  · rw [if_neg c49] at H
                    have c49b0 : decide (0 < x5_1) = false := decide_eq_false c49
                    clear c49
                    by_cases c57 : ((bt t171 x5_1) ≤ 57)
                    · rw [if_pos c57] at H
                      have c57b0 : decide ((bt t171 x5_1) ≤ 57) = true := decide_eq_true c57
                      clear c57
                      have H' := Aside0.mk H
                      clear H
                      have p10 : 0 ≤ (x5_1 : Int) := of_decide_eq_true (by first | (with_reducible assumption) | assumption)
                      have q10 : x5_1 < (t171.size : Int) := of_decide_eq_true (by first | (with_reducible assumption) | assumption)
                      have hx10 := bt_at t171 x5_1
                      replace p10 := eq_true p10
                      replace q10 := eq_true q10
                      have p44 : 0 ≤ (x5_1 : Int) := of_decide_eq_true (by first | (with_reducible assumption) | assumption)
                      have q44 : x5_1 < (t171.size : Int) := of_decide_eq_true (by first | (with_reducible assumption) | assumption)
                      have hx44 := bt_at t171 x5_1
                      replace p44 := eq_true p44
                      replace q44 := eq_true q44
                      have p46 : 0 ≤ (x5_1 : Int) := of_decide_eq_true (by first | (with_reducible assumption) | assumption)
                      have q46 : x5_1 < (t171.size : Int) := of_decide_eq_true (by first | (with_reducible assumption) | assumption)
                      have hx46 := bt_at t171 x5_1
                      replace p46 := eq_true p46
                      replace q46 := eq_true q46
                      have p47 : 0 ≤ (x5_1 : Int) := of_decide_eq_true (by first | (with_reducible assumption) | assumption)
                      have q47 : x5_1 < (t171.size : Int) := of_decide_eq_true (by first | (with_reducible assumption) | assumption)
                      have hx47 := bt_at t171 x5_1
                      replace p47 := eq_true p47
                      replace q47 := eq_true q47
                      go_wp2
                      go_roundg k1
                      case measure => have := HK1.out; omega
                      case rel => exact ⟨(wrap64 (x5_1 + 1)), (by first | rfl | (simp; done) | (simp [*]; done)), H', ⟨by have := HK1.out; omega⟩, ⟨by repeat (first | (with_reducible first | exact HB.out | apply below_alloc | apply pw_below_drewN | apply below_drew1) | exact HB.out)⟩⟩
                    · rw [if_neg c57] at H
                      have c57b0 : decide ((bt t171 x5_1) ≤ 57) = false := decide_eq_false c57
                      clear c57
                      obtain rfl := Option.some.inj H
                      have p10 : 0 ≤ (x5_1 : Int) := of_decide_eq_true (by first | (with_reducible assumption) | assumption)
                      have q10 : x5_1 < (t171.size : Int) := of_decide_eq_true (by first | (with_reducible assumption) | assumption)
                      have hx10 := bt_at t171 x5_1
                      replace p10 := eq_true p10
                      replace q10 := eq_true q10
                      have p44 : 0 ≤ (x5_1 : Int) := of_decide_eq_true (by first | (with_reducible assumption) | assumption)
                      have q44 : x5_1 < (t171.size : Int) := of_decide_eq_true (by first | (with_reducible assumption) | assumption)
                      have hx44 := bt_at t171 x5_1
                      replace p44 := eq_true p44
                      replace q44 := eq_true q44
                      have p46 : 0 ≤ (x5_1 : Int) := of_decide_eq_true (by first | (with_reducible assumption) | assumption)
                      have q46 : x5_1 < (t171.size : Int) := of_decide_eq_true (by first | (with_reducible assumption) | assumption)
                      have hx46 := bt_at t171 x5_1
                      replace p46 := eq_true p46
                      replace q46 := eq_true q46
                      have p47 : 0 ≤ (x5_1 : Int) := of_decide_eq_true (by first | (with_reducible assumption) | assumption)
                      have q47 : x5_1 < (t171.size : Int) := of_decide_eq_true (by first | (with_reducible assumption) | assumption)
                      have hx47 := bt_at t171 x5_1
                      replace p47 := eq_true p47
                      replace q47 := eq_true q47
                      go_wp2
                      go_ret
                      exact ⟨by first | rfl | (simp [errW_none, errW_some] <;> rfl) | (simp [*, errW_none, errW_some] <;> rfl), by repeat (first | (with_reducible first | exact HB.out | apply below_alloc | apply pw_below_drewN | apply below_drew1) | exact HB.out)⟩
                · rw [if_neg c48] at H
                  have c48b0 : ((bt t171 x5_1) == 32) = false := beq_eq_false_iff_ne.mpr c48
                  have c48b1 : ((bt t171 x5_1) != 32) = true := bne_iff_ne.mpr c48
                  by_cases c58 : ((bt t171 x5_1) ≤ 57)
                  · rw [if_pos c58] at H
                    have c58b0 : decide ((bt t171 x5_1) ≤ 57) = true := decide_eq_true c58
                    clear c58
                    have H' := Aside0.mk H
                    clear H
                    have p10 : 0 ≤ (x5_1 : Int) := of_decide_eq_true (by first | (with_reducible assumption) | assumption)
                    have q10 : x5_1 < (t171.size : Int) := of_decide_eq_true (by first | (with_reducible assumption) | assumption)
                    have hx10 := bt_at t171 x5_1
                    replace p10 := eq_true p10
                    replace q10 := eq_true q10
                    have p44 : 0 ≤ (x5_1 : Int) := of_decide_eq_true (by first | (with_reducible assumption) | assumption)
                    have q44 : x5_1 < (t171.size : Int) := of_decide_eq_true (by first | (with_reducible assumption) | assumption)
                    have hx44 := bt_at t171 x5_1
                    replace p44 := eq_true p44
                    replace q44 := eq_true q44
                    have p46 : 0 ≤ (x5_1 : Int) := of_decide_eq_true (by first | (with_reducible assumption) | assumption)
                    have q46 : x5_1 < (t171.size : Int) := of_decide_eq_true (by first | (with_reducible assumption) | assumption)
                    have hx46 := bt_at t171 x5_1
                    replace p46 := eq_true p46
                    replace q46 := eq_true q46
                    have p47 : 0 ≤ (x5_1 : Int) := of_decide_eq_true (by first | (with_reducible assumption) | assumption)
                    have q47 : x5_1 < (t171.size : Int) := of_decide_eq_true (by first | (with_reducible assumption) | assumption)
                    have hx47 := bt_at t171 x5_1
                    replace p47 := eq_true p47
                    replace q47 := eq_true q47
                    go_wp2
                    go_roundg k1
                    case measure => have := HK1.out; omega
                    case rel => exact ⟨(wrap64 (x5_1 + 1)), (by first | rfl | (simp; done) | (simp [*]; done)), H', ⟨by have := HK1.out; omega⟩, ⟨by repeat (first | (with_reducible first | exact HB.out | apply below_alloc | apply pw_below_drewN | apply below_drew1) | exact HB.out)⟩⟩
                  · rw [if_neg c58] at H
                    have c58b0 : decide ((bt t171 x5_1) ≤ 57) = false := decide_eq_false c58
                    clear c58
                    obtain rfl := Option.some.inj H
                    have p10 : 0 ≤ (x5_1 : Int) := of_decide_eq_true (by first | (with_reducible assumption) | assumption)
                    have q10 : x5_1 < (t171.size : Int) := of_decide_eq_true (by first | (with_reducible assumption) | assumption)
                    have hx10 := bt_at t171 x5_1
                    replace p10 := eq_true p10
                    replace q10 := eq_true q10
                    have p44 : 0 ≤ (x5_1 : Int) := of_decide_eq_true (by first | (with_reducible assumption) | assumption)
                    have q44 : x5_1 < (t171.size : Int) := of_decide_eq_true (by first | (with_reducible assumption) | assumption)
                    have hx44 := bt_at t171 x5_1
                    replace p44 := eq_true p44
                    replace q44 := eq_true q44
                    have p46 : 0 ≤ (x5_1 : Int) := of_decide_eq_true (by first | (with_reducible assumption) | assumption)
                    have q46 : x5_1 < (t171.size : Int) := of_decide_eq_true (by first | (with_reducible assumption) | assumption)
                    have hx46 := bt_at t171 x5_1
                    replace p46 := eq_true p46
                    replace q46 := eq_true q46
                    have p47 : 0 ≤ (x5_1 : Int) := of_decide_eq_true (by first | (with_reducible assumption) | assumption)
                    have q47 : x5_1 < (t171.size : Int) := of_decide_eq_true (by first | (with_reducible assumption) | assumption)
                    have hx47 := bt_at t171 x5_1
                    replace p47 := eq_true p47
                    replace q47 := eq_true q47
                    go_wp2
                    go_ret
                    exact ⟨by first | rfl | (simp [errW_none, errW_some] <;> rfl) | (simp [*, errW_none, errW_some] <;> rfl), by repeat (first | (with_reducible first | exact HB.out | apply below_alloc | apply pw_below_drewN | apply below_drew1) | exact HB.out)⟩
              · rw [if_neg c45] at H
                have c45b0 : decide (48 ≤ (bt t171 x5_1)) = false := decide_eq_false c45
                clear c45
                by_cases c60 : (bt t171 x5_1) = 32
                · rw [if_pos c60] at H
                  have c60b0 : ((bt t171 x5_1) == 32) = true := beq_iff_eq.mpr c60
                  have c60b1 : ((bt t171 x5_1) != 32) = false := bne_eq_false_iff_eq.mpr c60
                  clear c60
                  by_cases c61 : x5_1 > 0
                  · rw [if_pos c61] at H
                    have c61b0 : decide (0 < x5_1) = true := decide_eq_true c61
                    clear c61
                    by_cases c62 : (wrap64 (x5_1 + 1)) < (t171.size : Int)
                    · rw [if_pos c62] at H
                      have c62b0 : decide ((wrap64 (x5_1 + 1)) < (t171.size : Int)) = true := decide_eq_true c62
                      clear c62
                      obtain ⟨ji63, hji63⟩ : ∃ j_ : Int, (wrap64 (x5_1 + 1)) = j_ := ⟨_, rfl⟩
                      replace H : (if 0 ≤ (ji63) then (if (¬ (bt t171 (ji63)) = 32) then (cleanselaw03_WordsFold.l0 k1 a0 t170 t171 ji63) else (some false)) else (none)) = some r := by first | (rw [hji63] at H; exact H) | (simp only [hji63] at H ⊢; exact H)
                      (try rw [hji63] at c62b0)
                      have hji63w : (IntKind.i64.wrap (x5_1 + 1)) = ji63 := (i64_w _).trans hji63
                      by_cases c64 : 0 ≤ (ji63)
                      · rw [if_pos c64] at H
                        have c64b0 : decide (0 ≤ (ji63)) = true := decide_eq_true c64
                        clear c64
                        by_cases c66 : (¬ (bt t171 (ji63)) = 32)
                        · rw [if_pos c66] at H
                          have c66b0 : ((bt t171 (ji63)) == 32) = false := beq_eq_false_iff_ne.mpr c66
                          have c66b1 : ((bt t171 (ji63)) != 32) = true := bne_iff_ne.mpr c66
                          clear c66
                          have H' := Aside0.mk H
                          clear H
                          have p10 : 0 ≤ (x5_1 : Int) := of_decide_eq_true (by first | (with_reducible assumption) | assumption)
                          have q10 : x5_1 < (t171.size : Int) := of_decide_eq_true (by first | (with_reducible assumption) | assumption)
                          have hx10 := bt_at t171 x5_1
                          replace p10 := eq_true p10
                          replace q10 := eq_true q10
                          have p44 : 0 ≤ (x5_1 : Int) := of_decide_eq_true (by first | (with_reducible assumption) | assumption)
                          have q44 : x5_1 < (t171.size : Int) := of_decide_eq_true (by first | (with_reducible assumption) | assumption)
                          have hx44 := bt_at t171 x5_1
                          replace p44 := eq_true p44
                          replace q44 := eq_true q44
                          have p59 : 0 ≤ (x5_1 : Int) := of_decide_eq_true (by first | (with_reducible assumption) | assumption)
                          have q59 : x5_1 < (t171.size : Int) := of_decide_eq_true (by first | (with_reducible assumption) | assumption)
                          have hx59 := bt_at t171 x5_1
                          replace p59 := eq_true p59
                          replace q59 := eq_true q59
                          have p65 : 0 ≤ ((ji63) : Int) := of_decide_eq_true (by first | (with_reducible assumption) | assumption)
                          have q65 : (ji63) < (t171.size : Int) := of_decide_eq_true (by first | (with_reducible assumption) | assumption)
                          have hx65 := bt_at t171 (ji63)
                          replace p65 := eq_true p65
                          replace q65 := eq_true q65
                          go_wp2
                          go_roundg k1
                          case measure => have := HK1.out; omega
                          case rel => exact ⟨(ji63), (by first | rfl | (simp; done) | (simp only [← hji63] <;> (first | rfl | simp)) | (simp [*]; done)), H', ⟨by have := HK1.out; omega⟩, ⟨by repeat (first | (with_reducible first | exact HB.out | apply below_alloc | apply pw_below_drewN | apply below_drew1) | exact HB.out)⟩⟩
                        · rw [if_neg c66] at H
                          have c66b0 : ((bt t171 (ji63)) == 32) = true := beq_iff_eq.mpr (Decidable.not_not.mp c66)
                          have c66b1 : ((bt t171 (ji63)) != 32) = false := bne_eq_false_iff_eq.mpr (Decidable.not_not.mp c66)
                          obtain rfl := Option.some.inj H
                          have p10 : 0 ≤ (x5_1 : Int) := of_decide_eq_true (by first | (with_reducible assumption) | assumption)
                          have q10 : x5_1 < (t171.size : Int) := of_decide_eq_true (by first | (with_reducible assumption) | assumption)
                          have hx10 := bt_at t171 x5_1
                          replace p10 := eq_true p10
                          replace q10 := eq_true q10
                          have p44 : 0 ≤ (x5_1 : Int) := of_decide_eq_true (by first | (with_reducible assumption) | assumption)
                          have q44 : x5_1 < (t171.size : Int) := of_decide_eq_true (by first | (with_reducible assumption) | assumption)
                          have hx44 := bt_at t171 x5_1
                          replace p44 := eq_true p44
                          replace q44 := eq_true q44
                          have p59 : 0 ≤ (x5_1 : Int) := of_decide_eq_true (by first | (with_reducible assumption) | assumption)
                          have q59 : x5_1 < (t171.size : Int) := of_decide_eq_true (by first | (with_reducible assumption) | assumption)
                          have hx59 := bt_at t171 x5_1
                          replace p59 := eq_true p59
                          replace q59 := eq_true q59
                          have p65 : 0 ≤ ((ji63) : Int) := of_decide_eq_true (by first | (with_reducible assumption) | assumption)
                          have q65 : (ji63) < (t171.size : Int) := of_decide_eq_true (by first | (with_reducible assumption) | assumption)
                          have hx65 := bt_at t171 (ji63)
                          replace p65 := eq_true p65
                          replace q65 := eq_true q65
                          go_wp2
                          go_ret
                          exact ⟨by first | rfl | (simp [errW_none, errW_some] <;> rfl) | (simp only [← hji63]; first | rfl | (simp [errW_none, errW_some] <;> rfl)) | (simp [*, errW_none, errW_some] <;> rfl), by repeat (first | (with_reducible first | exact HB.out | apply below_alloc | apply pw_below_drewN | apply below_drew1) | exact HB.out)⟩
                      · rw [if_neg c64] at H
                        exact absurd H (by simp)
                    · rw [if_neg c62] at H
                      have c62b0 : decide ((wrap64 (x5_1 + 1)) < (t171.size : Int)) = false := decide_eq_false c62
                      clear c62
                      obtain rfl := Option.some.inj H
                      have p10 : 0 ≤ (x5_1 : Int) := of_decide_eq_true (by first | (with_reducible assumption) | assumption)
                      have q10 : x5_1 < (t171.size : Int) := of_decide_eq_true (by first | (with_reducible assumption) | assumption)
                      have hx10 := bt_at t171 x5_1
                      replace p10 := eq_true p10
                      replace q10 := eq_true q10
                      have p44 : 0 ≤ (x5_1 : Int) := of_decide_eq_true (by first | (with_reducible assumption) | assumption)
                      have q44 : x5_1 < (t171.size : Int) := of_decide_eq_true (by first | (with_reducible assumption) | assumption)
                      have hx44 := bt_at t171 x5_1
                      replace p44 := eq_true p44
                      replace q44 := eq_true q44
                      have p59 : 0 ≤ (x5_1 : Int) := of_decide_eq_true (by first | (with_reducible assumption) | assumption)
                      have q59 : x5_1 < (t171.size : Int) := of_decide_eq_true (by first | (with_reducible assumption) | assumption)
                      have hx59 := bt_at t171 x5_1
                      replace p59 := eq_true p59
                      replace q59 := eq_true q59
                      go_wp2
                      go_ret
                      exact ⟨by first | rfl | (simp [errW_none, errW_some] <;> rfl) | (simp [*, errW_none, errW_some] <;> rfl), by repeat (first | (with_reducible first | exact HB.out | apply below_alloc | apply pw_below_drewN | apply below_drew1) | exact HB.out)⟩
                  · rw [if_neg c61] at H
                    have c61b0 : decide (0 < x5_1) = false := decide_eq_false c61
                    clear c61
                    obtain rfl := Option.some.inj H
                    have p10 : 0 ≤ (x5_1 : Int) := of_decide_eq_true (by first | (with_reducible assumption) | assumption)
                    have q10 : x5_1 < (t171.size : Int) := of_decide_eq_true (by first | (with_reducible assumption) | assumption)
                    have hx10 := bt_at t171 x5_1
                    replace p10 := eq_true p10
                    replace q10 := eq_true q10
                    have p44 : 0 ≤ (x5_1 : Int) := of_decide_eq_true (by first | (with_reducible assumption) | assumption)
                    have q44 : x5_1 < (t171.size : Int) := of_decide_eq_true (by first | (with_reducible assumption) | assumption)
                    have hx44 := bt_at t171 x5_1
                    replace p44 := eq_true p44
                    replace q44 := eq_true q44
                    have p59 : 0 ≤ (x5_1 : Int) := of_decide_eq_true (by first | (with_reducible assumption) | assumption)
                    have q59 : x5_1 < (t171.size : Int) := of_decide_eq_true (by first | (with_reducible assumption) | assumption)
                    have hx59 := bt_at t171 x5_1
                    replace p59 := eq_true p59
                    replace q59 := eq_true q59
                    go_wp2
                    go_ret
                    exact ⟨by first | rfl | (simp [errW_none, errW_some] <;> rfl) | (simp [*, errW_none, errW_some] <;> rfl), by repeat (first | (with_reducible first | exact HB.out | apply below_alloc | apply pw_below_drewN | apply below_drew1) | exact HB.out)⟩
                · rw [if_neg c60] at H
                  have c60b0 : ((bt t171 x5_1) == 32) = false := beq_eq_false_iff_ne.mpr c60
                  have c60b1 : ((bt t171 x5_1) != 32) = true := bne_iff_ne.mpr c60
                  obtain rfl := Option.some.inj H
                  have p10 : 0 ≤ (x5_1 : Int) := of_decide_eq_true (by first | (with_reducible assumption) | assumption)
                  have q10 : x5_1 < (t171.size : Int) := of_decide_eq_true (by first | (with_reducible assumption) | assumption)
                  have hx10 := bt_at t171 x5_1
                  replace p10 := eq_true p10
                  replace q10 := eq_true q10
                  have p44 : 0 ≤ (x5_1 : Int) := of_decide_eq_true (by first | (with_reducible assumption) | assumption)
                  have q44 : x5_1 < (t171.size : Int) := of_decide_eq_true (by first | (with_reducible assumption) | assumption)
                  have hx44 := bt_at t171 x5_1
                  replace p44 := eq_true p44
                  replace q44 := eq_true q44
                  have p59 : 0 ≤ (x5_1 : Int) := of_decide_eq_true (by first | (with_reducible assumption) | assumption)
                  have q59 : x5_1 < (t171.size : Int) := of_decide_eq_true (by first | (with_reducible assumption) | assumption)
                  have hx59 := bt_at t171 x5_1
                  replace p59 := eq_true p59
                  replace q59 := eq_true q59
                  go_wp2
                  go_ret
                  exact ⟨by first | rfl | (simp [errW_none, errW_some] <;> rfl) | (simp [*, errW_none, errW_some] <;> rfl), by repeat (first | (with_reducible first | exact HB.out | apply below_alloc | apply pw_below_drewN | apply below_drew1) | exact HB.out)⟩
          · rw [if_neg c9] at H
            exact absurd H (by simp)
        · rw [if_neg c8] at H
          have c8b0 : decide (x5_1 < (t171.size : Int)) = false := decide_eq_false c8
          clear c8
          by_cases c67 : t170 = true
          · subst c67
            have H1 : ((words_Fold.f t171).bind fun t172 => (if t172.toList = t171.toList then (some (decide ((t171.size : Int) ≤ (a0.size : Int)))) else (some false))) = some r := by rw [if_pos rfl] at H; exact H
            clear H
            have H := H1
            clear H1
            replace H := Option.bind_eq_some_iff.mp H
            obtain ⟨t172, A680, H⟩ := H
            replace H : (if t172.toList = t171.toList then (some (decide ((t171.size : Int) ≤ (a0.size : Int)))) else (some false)) = some r := H
            have A68 := Aside0.mk A680
            clear A680
            by_cases c69 : t172.toList = t171.toList
            · rw [if_pos c69] at H
              have c69b0 : (t172.toList == t171.toList) = true := beq_iff_eq.mpr c69
              have c69b1 : (t172.toList != t171.toList) = false := bne_eq_false_iff_eq.mpr c69
              clear c69
              obtain rfl := Option.some.inj H
              go_wp2_with (first | (go_at_call 11; (with_reducible refine (words_Fold.calls t171 t172 _ A68.out).mono ?_); rintro e w70 ⟨rfl, hb⟩; have n0_ := Aside0.mk (below_step (by repeat (first | (with_reducible first | exact HB.out | apply below_alloc | apply pw_below_drewN | apply below_drew1) | exact HB.out)) hb); clear HB; have HB := n0_; clear n0_; (try clear hb); (try clear hb2); (try clear hk); (try clear hi)))
              go_ret
              exact ⟨by first | rfl | (simp [errW_none, errW_some] <;> rfl) | (simp [*, errW_none, errW_some] <;> rfl), by repeat (first | (with_reducible first | exact HB.out | apply below_alloc | apply pw_below_drewN | apply below_drew1) | exact HB.out)⟩
            · rw [if_neg c69] at H
              have c69b0 : (t172.toList == t171.toList) = false := beq_eq_false_iff_ne.mpr c69
              have c69b1 : (t172.toList != t171.toList) = true := bne_iff_ne.mpr c69
              obtain rfl := Option.some.inj H
              go_wp2_with (first | (go_at_call 11; (with_reducible refine (words_Fold.calls t171 t172 _ A68.out).mono ?_); rintro e w71 ⟨rfl, hb⟩; have n0_ := Aside0.mk (below_step (by repeat (first | (with_reducible first | exact HB.out | apply below_alloc | apply pw_below_drewN | apply below_drew1) | exact HB.out)) hb); clear HB; have HB := n0_; clear n0_; (try clear hb); (try clear hb2); (try clear hk); (try clear hi)))
              go_ret
              exact ⟨by first | rfl | (simp [errW_none, errW_some] <;> rfl) | (simp [*, errW_none, errW_some] <;> rfl), by repeat (first | (with_reducible first | exact HB.out | apply below_alloc | apply pw_below_drewN | apply below_drew1) | exact HB.out)⟩
          · replace c67 := Bool.eq_false_iff.mpr c67
            subst c67
            have H1 : (some false) = some r := by rw [if_neg (show ¬ (false = true) by decide)] at H; exact H
            clear H
            have H := H1
            clear H1
            obtain rfl := Option.some.inj H
            go_wp2
            go_ret
            exact ⟨by first | rfl | (simp [errW_none, errW_some] <;> rfl) | (simp [*, errW_none, errW_some] <;> rfl), by repeat (first | (with_reducible first | exact HB.out | apply below_alloc | apply pw_below_drewN | apply below_drew1) | exact HB.out)⟩

/-- THE ONE PURE STATEMENT of cleanselaw03_WordsFold: yours. -/
def cleanselaw03_WordsFold.Pure : Prop := ∀ (a0 : ByteArray), a0.size ≤ 140737488351232 → ∃ k, cleanselaw03_WordsFold.f k a0 = some true
theorem cleanselaw03_WordsFold.walk (P : cleanselaw03_WordsFold.Pure) (a0 : ByteArray) (w : World) (w0 : a0.size ≤ 140737488351232) :
    Calls Try.prog 4 #[.string a0] w fun e w' => e = .returned (.bool true) ∧ Below w.heap.size w w' := by
  obtain ⟨k, h⟩ := P a0 w0
  refine (cleanselaw03_WordsFold.calls k a0 true w h).mono ?_
  rintro e w' ⟨rfl, hd⟩
  exact ⟨rfl, hd⟩

end Go.Proofs.Ythdhkclhckigmaa.Q

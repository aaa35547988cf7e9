-- Printed by a program of this session out of the translation (wip/tools/qprint.sh); Lean checks it.
import Derived.Test.YthdhkclhckigmaaQ0
import Derived.Test.YthdhkclhckigmaaQ1
namespace Go.Proofs.Ythdhkclhckigmaa.Q
open Go.RowKit Go.Proofs.YthdhkclhckigmaaW.PrintWords Go.Proofs.YthdhkclhckigmaaW.PrintLast Go.Proofs.YthdhkclhckigmaaW.PrintMore
attribute [local go_sem] max2_int min2_int max_two min_two max_three min_three max_four min_four   -- for this text's walks alone
set_option linter.unusedVariables false
set_option linter.unusedSimpArgs false

/-! ### words_Common: function 18 -/
mutual
def words_Common.j0 : Nat → List ByteArray → List ByteArray → Bool → Option (Int)
  | 0, _, _, _ => none
  | k + 1, x0, x1, x13 => if x13 = true then (some 0) else (words_Common.l0 k x0 x1 0)
def words_Common.l0 : Nat → List ByteArray → List ByteArray → Int → Option (Int)
  | 0, _, _, _ => none
  | k + 1, x0, x1, x5 => if (x0.length : Int) > 0 then (words_Common.j2 k x0 x1 x5 (decide ((x1.length : Int) > 0))) else (words_Common.j2 k x0 x1 x5 false)
def words_Common.j2 : Nat → List ByteArray → List ByteArray → Int → Bool → Option (Int)
  | 0, _, _, _, _ => none
  | k + 1, x0, x1, x5, x21 => if x21 = true then (if 0 < (x0.length : Int) then (if 0 < (x1.length : Int) then (if (Op.bytesLess ((rdOf ByteArray.empty x0 0).toList) ((rdOf ByteArray.empty x1 0).toList)) = true then (if 1 ≤ (x0.length : Int) then (words_Common.l0 k (x0.drop 1) x1 x5) else (none)) else (if (Op.bytesLess ((rdOf ByteArray.empty x1 0).toList) ((rdOf ByteArray.empty x0 0).toList)) = true then (if 1 ≤ (x1.length : Int) then (words_Common.l0 k x0 (x1.drop 1) x5) else (none)) else (if 1 ≤ (x0.length : Int) then (if 1 ≤ (x1.length : Int) then (words_Common.l0 k (x0.drop 1) (x1.drop 1) (wrap64 (x5 + 1))) else (none)) else (none)))) else (none)) else (none)) else (some x5)
end
def words_Common.f (k : Nat) (l0 : List ByteArray) (l1 : List ByteArray) : Option (Int) := (words_increasing.f k l0).bind fun t105 => (if t105 = true then ((words_increasing.f k l1).bind fun t106 => (words_Common.j0 k l0 l1 (!t106))) else (words_Common.j0 k l0 l1 true))
theorem words_Common.mono_l : ∀ k, (∀ y0 y1 y2, LeO (words_Common.j0 k y0 y1 y2) (words_Common.j0 (k + 1) y0 y1 y2)) ∧ (∀ y0 y1 y2, LeO (words_Common.l0 k y0 y1 y2) (words_Common.l0 (k + 1) y0 y1 y2)) ∧ (∀ y0 y1 y2 y3, LeO (words_Common.j2 k y0 y1 y2 y3) (words_Common.j2 (k + 1) y0 y1 y2 y3))
  | 0 => ⟨fun _ _ _ r h => by simp [words_Common.j0] at h, fun _ _ _ r h => by simp [words_Common.l0] at h, fun _ _ _ _ r h => by simp [words_Common.j2] at h⟩
  | k + 1 => by
    obtain ⟨ih0, ih1, ih2⟩ := words_Common.mono_l k
    refine ⟨?_, ?_, ?_⟩
    · intro y0 y1 y2
      unfold words_Common.j0
      repeat' first
      | (with_reducible exact ih0 _ _ _)
      | (with_reducible exact ih1 _ _ _)
      | (with_reducible exact ih2 _ _ _ _)
      | (with_reducible exact words_increasing.mono _ _)
      | (with_reducible exact LeO.refl _)
      | (with_reducible exact LeO.none _)
      | (with_reducible refine LeO.ite ?_ ?_)
      | (with_reducible refine LeO.bind ?_ (fun _ => ?_))
      | exact ih0 _ _ _
      | exact ih1 _ _ _
      | exact ih2 _ _ _ _
      | exact words_increasing.mono _ _
      | exact LeO.none _
      | refine LeO.ite ?_ ?_
      | refine LeO.bind ?_ (fun _ => ?_)
    · intro y0 y1 y2
      unfold words_Common.l0
      repeat' first
      | (with_reducible exact ih0 _ _ _)
      | (with_reducible exact ih1 _ _ _)
      | (with_reducible exact ih2 _ _ _ _)
      | (with_reducible exact words_increasing.mono _ _)
      | (with_reducible exact LeO.refl _)
      | (with_reducible exact LeO.none _)
      | (with_reducible refine LeO.ite ?_ ?_)
      | (with_reducible refine LeO.bind ?_ (fun _ => ?_))
      | exact ih0 _ _ _
      | exact ih1 _ _ _
      | exact ih2 _ _ _ _
      | exact words_increasing.mono _ _
      | exact LeO.none _
      | refine LeO.ite ?_ ?_
      | refine LeO.bind ?_ (fun _ => ?_)
    · intro y0 y1 y2 y3
      unfold words_Common.j2
      repeat' first
      | (with_reducible exact ih0 _ _ _)
      | (with_reducible exact ih1 _ _ _)
      | (with_reducible exact ih2 _ _ _ _)
      | (with_reducible exact words_increasing.mono _ _)
      | (with_reducible exact LeO.refl _)
      | (with_reducible exact LeO.none _)
      | (with_reducible refine LeO.ite ?_ ?_)
      | (with_reducible refine LeO.bind ?_ (fun _ => ?_))
      | exact ih0 _ _ _
      | exact ih1 _ _ _
      | exact ih2 _ _ _ _
      | exact words_increasing.mono _ _
      | exact LeO.none _
      | refine LeO.ite ?_ ?_
      | refine LeO.bind ?_ (fun _ => ?_)
theorem words_Common.mono : ∀ a0 a1 k, LeO (words_Common.f k a0 a1) (words_Common.f (k + 1) a0 a1) := by
  intro a0 a1 k
  obtain ⟨ih0, ih1, ih2⟩ := words_Common.mono_l k
  unfold words_Common.f
  repeat' first
      | (with_reducible exact ih0 _ _ _)
      | (with_reducible exact ih1 _ _ _)
      | (with_reducible exact ih2 _ _ _ _)
      | (with_reducible exact words_increasing.mono _ _)
      | (with_reducible exact LeO.refl _)
      | (with_reducible exact LeO.none _)
      | (with_reducible refine LeO.ite ?_ ?_)
      | (with_reducible refine LeO.bind ?_ (fun _ => ?_))
      | exact ih0 _ _ _
      | exact ih1 _ _ _
      | exact ih2 _ _ _ _
      | exact words_increasing.mono _ _
      | exact LeO.none _
      | refine LeO.ite ?_ ?_
      | refine LeO.bind ?_ (fun _ => ?_)
set_option maxHeartbeats 8000000 in
set_option maxRecDepth 100000 in
theorem words_Common.calls (k : Nat) (P0_ : Nat → Prop) (A0 : Option Addr) (c0 : Nat) (l0 : List ByteArray) (P1_ : Nat → Prop) (A1 : Option Addr) (c1 : Nat) (l1 : List ByteArray) (r : Int) (w : World) (hs0 : Kd.V Kd.string 9 w w.heap.size (fun k_ => P0_ k_) (.slice A0 l0.length c0) l0) (hs1 : Kd.V Kd.string 9 w w.heap.size (fun k_ => P1_ k_) (.slice A1 l1.length c1) l1) (h : words_Common.f k l0 l1 = some r) :
    Calls Try.prog 18 #[.slice A0 l0.length c0, .slice A1 l1.length c1] w fun e w' => e = .returned (.int .i64 r) ∧ Below w.heap.size w w' := by
  have HO0 := Aside0.mk (show Kd.V Kd.string 9 w w.heap.size (fun k_ => ((P0_ k_ ∨ P1_ k_) ∨ w.heap.size ≤ k_)) (.slice A0 l0.length c0) l0 from Kd.V_mono hs0 (fun k_ hk => .inl (.inl hk)))
  have HO1 := Aside0.mk (show Kd.V Kd.string 9 w w.heap.size (fun k_ => ((P0_ k_ ∨ P1_ k_) ∨ w.heap.size ≤ k_)) (.slice A1 l1.length c1) l1 from Kd.V_mono hs1 (fun k_ hk => .inl (.inr hk)))
  have HB := Aside0.mk (Below.refl w.heap.size w)
  have H : ((words_increasing.f k l0).bind fun t105 => (if t105 = true then ((words_increasing.f k l1).bind fun t106 => (words_Common.j0 k l0 l1 (!t106))) else (words_Common.j0 k l0 l1 true))) = some r := h
  clear h
  have HC3 := Aside0.mk H
  clear H
  go_enter Try.func18, Try.ntmps18
  go_upto_region 1 with (fail)
  repeat (go_quiet (fail); go_upto_region 1 with (fail))
  go_cut [13] (fun v13 wc => ∃ (kq : Nat) (x13_2 : Bool), v13 = .bool x13_2 ∧ Aside0 (words_Common.j0 kq l0 l1 x13_2 = some r) ∧ Aside0 (kq ≤ k) ∧ Aside0 (Kd.V Kd.string 9 wc w.heap.size (fun k_ => ((P0_ k_ ∨ P1_ k_) ∨ w.heap.size ≤ k_)) (.slice A0 l0.length c0) l0) ∧ Aside0 (Kd.V Kd.string 9 wc w.heap.size (fun k_ => ((P0_ k_ ∨ P1_ k_) ∨ w.heap.size ≤ k_)) (.slice A1 l1.length c1) l1) ∧ Aside0 (Below w.heap.size w wc))
  case first =>
    have H := HC3.out
    clear HC3
    replace H := Option.bind_eq_some_iff.mp H
    obtain ⟨t105, A40, H⟩ := H
    replace H : (if t105 = true then ((words_increasing.f k l1).bind fun t106 => (words_Common.j0 k l0 l1 (!t106))) else (words_Common.j0 k l0 l1 true)) = some r := H
    have A4 := Aside0.mk A40
    clear A40
    by_cases c5 : t105 = true
    · subst c5
      have H1 : ((words_increasing.f k l1).bind fun t106 => (words_Common.j0 k l0 l1 (!t106))) = some r := by rw [if_pos rfl] at H; exact H
      clear H
      have H := H1
      clear H1
      replace H := Option.bind_eq_some_iff.mp H
      obtain ⟨t106, A60, H⟩ := H
      replace H : (words_Common.j0 k l0 l1 (!t106)) = some r := H
      have A6 := Aside0.mk A60
      clear A60
      have H' := Aside0.mk H
      clear H
      go_wp2_with (first | (go_at_call 29; (with_reducible refine (words_increasing.calls k _ _ l0 true _ ?side1 ?side2 A4.out).mono ?_); (case side1 => repeat (first | exact (Kd.V_reads' HO0.out).2.2 | (with_reducible refine Kd.C_alloc ?_ _) | (with_reducible refine Kd.C_drewN ?_ _) | (with_reducible refine Kd.C_drew ?_))); (case side2 => exact (Kd.V_reads' HO0.out).2.1); rintro e w' ⟨rfl, ⟨nd, rfl⟩⟩; (try first | exact ⟨rfl, _, World.drewN_drewN _ _ _⟩ | exact ⟨rfl, _, Eq.trans (World.drewN_drewN _ _ _) (congrArg (World.drewN _) (Nat.add_assoc _ _ _))⟩)) | (go_at_call 29; (with_reducible refine (words_increasing.calls k _ _ l1 t106 _ ?side1 ?side2 A6.out).mono ?_); (case side1 => repeat (first | exact (Kd.V_reads' HO1.out).2.2 | (with_reducible refine Kd.C_alloc ?_ _) | (with_reducible refine Kd.C_drewN ?_ _) | (with_reducible refine Kd.C_drew ?_))); (case side2 => exact (Kd.V_reads' HO1.out).2.1); rintro e w' ⟨rfl, ⟨nd, rfl⟩⟩; (try first | exact ⟨rfl, _, World.drewN_drewN _ _ _⟩ | exact ⟨rfl, _, Eq.trans (World.drewN_drewN _ _ _) (congrArg (World.drewN _) (Nat.add_assoc _ _ _))⟩)))
      repeat (go_quiet (first | (go_at_call 29; (with_reducible refine (words_increasing.calls k _ _ l0 true _ ?side1 ?side2 A4.out).mono ?_); (case side1 => repeat (first | exact (Kd.V_reads' HO0.out).2.2 | (with_reducible refine Kd.C_alloc ?_ _) | (with_reducible refine Kd.C_drewN ?_ _) | (with_reducible refine Kd.C_drew ?_))); (case side2 => exact (Kd.V_reads' HO0.out).2.1); rintro e w' ⟨rfl, ⟨nd, rfl⟩⟩; (try first | exact ⟨rfl, _, World.drewN_drewN _ _ _⟩ | exact ⟨rfl, _, Eq.trans (World.drewN_drewN _ _ _) (congrArg (World.drewN _) (Nat.add_assoc _ _ _))⟩)) | (go_at_call 29; (with_reducible refine (words_increasing.calls k _ _ l1 t106 _ ?side1 ?side2 A6.out).mono ?_); (case side1 => repeat (first | exact (Kd.V_reads' HO1.out).2.2 | (with_reducible refine Kd.C_alloc ?_ _) | (with_reducible refine Kd.C_drewN ?_ _) | (with_reducible refine Kd.C_drew ?_))); (case side2 => exact (Kd.V_reads' HO1.out).2.1); rintro e w' ⟨rfl, ⟨nd, rfl⟩⟩; (try first | exact ⟨rfl, _, World.drewN_drewN _ _ _⟩ | exact ⟨rfl, _, Eq.trans (World.drewN_drewN _ _ _) (congrArg (World.drewN _) (Nat.add_assoc _ _ _))⟩))); try go_wp2_with (first | (go_at_call 29; (with_reducible refine (words_increasing.calls k _ _ l0 true _ ?side1 ?side2 A4.out).mono ?_); (case side1 => repeat (first | exact (Kd.V_reads' HO0.out).2.2 | (with_reducible refine Kd.C_alloc ?_ _) | (with_reducible refine Kd.C_drewN ?_ _) | (with_reducible refine Kd.C_drew ?_))); (case side2 => exact (Kd.V_reads' HO0.out).2.1); rintro e w' ⟨rfl, ⟨nd, rfl⟩⟩; (try first | exact ⟨rfl, _, World.drewN_drewN _ _ _⟩ | exact ⟨rfl, _, Eq.trans (World.drewN_drewN _ _ _) (congrArg (World.drewN _) (Nat.add_assoc _ _ _))⟩)) | (go_at_call 29; (with_reducible refine (words_increasing.calls k _ _ l1 t106 _ ?side1 ?side2 A6.out).mono ?_); (case side1 => repeat (first | exact (Kd.V_reads' HO1.out).2.2 | (with_reducible refine Kd.C_alloc ?_ _) | (with_reducible refine Kd.C_drewN ?_ _) | (with_reducible refine Kd.C_drew ?_))); (case side2 => exact (Kd.V_reads' HO1.out).2.1); rintro e w' ⟨rfl, ⟨nd, rfl⟩⟩; (try first | exact ⟨rfl, _, World.drewN_drewN _ _ _⟩ | exact ⟨rfl, _, Eq.trans (World.drewN_drewN _ _ _) (congrArg (World.drewN _) (Nat.add_assoc _ _ _))⟩))))
      go_meet
      case rel => exact ⟨_, (!t106), (by first | rfl | (simp; done) | (simp [*]; done)), H', ⟨by first | omega | exact Nat.le_refl _⟩, ⟨by (with_reducible repeat (first | apply Kd.V_alloc | apply Kd.V_drewN | apply Kd.V_drew)); exact HO0.out⟩, ⟨by (with_reducible repeat (first | apply Kd.V_alloc | apply Kd.V_drewN | apply Kd.V_drew)); exact HO1.out⟩, ⟨by repeat (first | (with_reducible first | exact HB.out | apply below_alloc | apply pw_below_drewN | apply below_drew1) | exact HB.out)⟩⟩
    · replace c5 := Bool.eq_false_iff.mpr c5
      subst c5
      have H1 : (words_Common.j0 k l0 l1 true) = some r := by rw [if_neg (show ¬ (false = true) by decide)] at H; exact H
      clear H
      have H := H1
      clear H1
      have H' := Aside0.mk H
      clear H
      go_wp2_with (first | (go_at_call 29; (with_reducible refine (words_increasing.calls k _ _ l0 false _ ?side1 ?side2 A4.out).mono ?_); (case side1 => repeat (first | exact (Kd.V_reads' HO0.out).2.2 | (with_reducible refine Kd.C_alloc ?_ _) | (with_reducible refine Kd.C_drewN ?_ _) | (with_reducible refine Kd.C_drew ?_))); (case side2 => exact (Kd.V_reads' HO0.out).2.1); rintro e w' ⟨rfl, ⟨nd, rfl⟩⟩; (try first | exact ⟨rfl, _, World.drewN_drewN _ _ _⟩ | exact ⟨rfl, _, Eq.trans (World.drewN_drewN _ _ _) (congrArg (World.drewN _) (Nat.add_assoc _ _ _))⟩)))
      repeat (go_quiet (first | (go_at_call 29; (with_reducible refine (words_increasing.calls k _ _ l0 false _ ?side1 ?side2 A4.out).mono ?_); (case side1 => repeat (first | exact (Kd.V_reads' HO0.out).2.2 | (with_reducible refine Kd.C_alloc ?_ _) | (with_reducible refine Kd.C_drewN ?_ _) | (with_reducible refine Kd.C_drew ?_))); (case side2 => exact (Kd.V_reads' HO0.out).2.1); rintro e w' ⟨rfl, ⟨nd, rfl⟩⟩; (try first | exact ⟨rfl, _, World.drewN_drewN _ _ _⟩ | exact ⟨rfl, _, Eq.trans (World.drewN_drewN _ _ _) (congrArg (World.drewN _) (Nat.add_assoc _ _ _))⟩))); try go_wp2_with (first | (go_at_call 29; (with_reducible refine (words_increasing.calls k _ _ l0 false _ ?side1 ?side2 A4.out).mono ?_); (case side1 => repeat (first | exact (Kd.V_reads' HO0.out).2.2 | (with_reducible refine Kd.C_alloc ?_ _) | (with_reducible refine Kd.C_drewN ?_ _) | (with_reducible refine Kd.C_drew ?_))); (case side2 => exact (Kd.V_reads' HO0.out).2.1); rintro e w' ⟨rfl, ⟨nd, rfl⟩⟩; (try first | exact ⟨rfl, _, World.drewN_drewN _ _ _⟩ | exact ⟨rfl, _, Eq.trans (World.drewN_drewN _ _ _) (congrArg (World.drewN _) (Nat.add_assoc _ _ _))⟩))))
      go_meet
      case rel => exact ⟨_, (true), (by first | rfl | (simp; done) | (simp [*]; done)), H', ⟨by first | omega | exact Nat.le_refl _⟩, ⟨by (with_reducible repeat (first | apply Kd.V_alloc | apply Kd.V_drewN | apply Kd.V_drew)); exact HO0.out⟩, ⟨by (with_reducible repeat (first | apply Kd.V_alloc | apply Kd.V_drewN | apply Kd.V_drew)); exact HO1.out⟩, ⟨by repeat (first | (with_reducible first | exact HB.out | apply below_alloc | apply pw_below_drewN | apply below_drew1) | exact HB.out)⟩⟩
  case rest =>
    clear HC3
    try clear c1
    try clear p2
    try clear c5
    obtain ⟨kq, x13_2, rfl, HA, HJ2, HO_0, HO_1, HB⟩ := hcut
    cases kq with
    | zero => exact absurd HA.out (by simp [words_Common.j0])
    | succ kj2 =>
      have H := HA.out
      clear HA
      simp only [words_Common.j0] at H
      by_cases c7 : x13_2 = true
      · subst c7
        have H1 : (some 0) = some r := by rw [if_pos rfl] at H; exact H
        clear H
        have H := H1
        clear H1
        obtain rfl := Option.some.inj H
        go_wp2
        repeat (go_quiet (fail); try go_wp2)
        go_ret
        exact ⟨by first | rfl | (simp [errW_none, errW_some] <;> rfl) | (simp [*, errW_none, errW_some] <;> rfl), by repeat (first | (with_reducible first | exact HB.out | apply below_alloc | apply pw_below_drewN | apply below_drew1) | exact HB.out)⟩
      · replace c7 := Bool.eq_false_iff.mpr c7
        subst c7
        have H1 : (words_Common.l0 kj2 l0 l1 0) = some r := by rw [if_neg (show ¬ (false = true) by decide)] at H; exact H
        clear H
        have H := H1
        clear H1
        have H' := Aside0.mk H
        clear H
        go_wp2
        repeat (go_quiet (fail); try go_wp2)
        go_loopg [0, 1, 5] kj2 (fun kq v0 v1 v5 w' => ∃ (x0_2 : List ByteArray) (x1_2 : List ByteArray) (x5_2 : Int), v5 = .int .i64 x5_2 ∧ Aside0 (words_Common.l0 kq x0_2 x1_2 x5_2 = some r) ∧ Aside0 (kq ≤ kj2) ∧ Aside0 (Kd.V Kd.string 9 w' w.heap.size (fun k_ => ((P0_ k_ ∨ P1_ k_) ∨ w.heap.size ≤ k_)) v0 x0_2) ∧ Aside0 (Kd.V Kd.string 9 w' w.heap.size (fun k_ => ((P0_ k_ ∨ P1_ k_) ∨ w.heap.size ≤ k_)) v1 x1_2) ∧ Aside0 (Below w.heap.size w w'))
        case atStart => exact ⟨(l0), (l1), (0), (by first | rfl | (simp; done) | (simp [*]; done)), H', ⟨Nat.le_refl _⟩, ⟨by (with_reducible repeat (first | apply Kd.V_alloc | apply Kd.V_drewN | apply Kd.V_drew)); exact HO_0.out⟩, ⟨by (with_reducible repeat (first | apply Kd.V_alloc | apply Kd.V_drewN | apply Kd.V_drew)); exact HO_1.out⟩, ⟨by repeat (first | (with_reducible first | exact HB.out | apply below_alloc | apply pw_below_drewN | apply below_drew1) | exact HB.out)⟩⟩
        case round =>
          clear H'
          try clear c1
          try clear p2
          try clear c5
          try clear c7
          try clear p2
          obtain ⟨x0_2, x1_2, x5_2, rfl, HA, HK2, HO_0, HO_1, HB⟩ := hrel
          cases gk with
          | zero => exact absurd HA.out (by simp [words_Common.l0])
          | succ k2 =>
            have H := HA.out
            clear HA
            simp only [words_Common.l0] at H
            have HC8 := Aside0.mk H
            clear H
            go_upto_region 4 with (fail)
            repeat (go_quiet (fail); go_upto_region 4 with (fail))
            go_cut [21] (fun v21 wc => ∃ (kq : Nat) (x21_7 : Bool), v21 = .bool x21_7 ∧ Aside0 (words_Common.j2 kq x0_2 x1_2 x5_2 x21_7 = some r) ∧ Aside0 (kq ≤ k2) ∧ Aside0 (Kd.V Kd.string 9 wc w.heap.size (fun k_ => ((P0_ k_ ∨ P1_ k_) ∨ w.heap.size ≤ k_)) u0 x0_2) ∧ Aside0 (Kd.V Kd.string 9 wc w.heap.size (fun k_ => ((P0_ k_ ∨ P1_ k_) ∨ w.heap.size ≤ k_)) u1 x1_2) ∧ Aside0 (Below w.heap.size w wc))
            case first =>
              have H := HC8.out
              clear HC8
              by_cases c9 : (x0_2.length : Int) > 0
              · rw [if_pos c9] at H
                have c9b0 : decide (0 < (x0_2.length : Int)) = true := decide_eq_true c9
                have c9b1 : decide (0 < x0_2.length) = true := decide_eq_true (by omega)
                clear c9
                (first | rw [c9b0] | (simp only [i64_w, i32_w]; rw [c9b0]) | skip)
                have H' := Aside0.mk H
                clear H
                obtain ⟨Ao10, co10, eo10⟩ := Kd.V_slice HO_0.out
                subst eo10
                obtain ⟨Ao11, co11, eo11⟩ := Kd.V_slice HO_1.out
                subst eo11
                go_wp2
                repeat (go_quiet (fail); try go_wp2)
                go_meet
                case rel => exact ⟨_, (decide ((x1_2.length : Int) > 0)), (by first | rfl | (simp; done) | (simp [*]; done)), H', ⟨by have := HJ2.out; have := HK2.out; first | omega | exact Nat.le_refl _⟩, ⟨by (with_reducible repeat (first | apply Kd.V_alloc | apply Kd.V_drewN | apply Kd.V_drew)); exact HO_0.out⟩, ⟨by (with_reducible repeat (first | apply Kd.V_alloc | apply Kd.V_drewN | apply Kd.V_drew)); exact HO_1.out⟩, ⟨by repeat (first | (with_reducible first | exact HB.out | apply below_alloc | apply pw_below_drewN | apply below_drew1) | exact HB.out)⟩⟩
              · rw [if_neg c9] at H
                have c9b0 : decide (0 < (x0_2.length : Int)) = false := decide_eq_false c9
                have c9b1 : decide (0 < x0_2.length) = false := decide_eq_false (by omega)
                clear c9
                (first | rw [c9b0] | (simp only [i64_w, i32_w]; rw [c9b0]) | skip)
                have H' := Aside0.mk H
                clear H
                obtain ⟨Ao12, co12, eo12⟩ := Kd.V_slice HO_0.out
                subst eo12
                go_wp2
                repeat (go_quiet (fail); try go_wp2)
                go_meet
                case rel => exact ⟨_, (false), (by first | rfl | (simp; done) | (simp [*]; done)), H', ⟨by have := HJ2.out; have := HK2.out; first | omega | exact Nat.le_refl _⟩, ⟨by (with_reducible repeat (first | apply Kd.V_alloc | apply Kd.V_drewN | apply Kd.V_drew)); exact HO_0.out⟩, ⟨by (with_reducible repeat (first | apply Kd.V_alloc | apply Kd.V_drewN | apply Kd.V_drew)); exact HO_1.out⟩, ⟨by repeat (first | (with_reducible first | exact HB.out | apply below_alloc | apply pw_below_drewN | apply below_drew1) | exact HB.out)⟩⟩
            case rest =>
              clear HC8
              try clear c1
              try clear p2
              try clear c5
              try clear c7
              try clear c9
              try clear c9b0
              try clear c9b1
              try clear p2
              obtain ⟨kq, x21_7, rfl, HA, HJ7, HO_0, HO_1, HB⟩ := hcut
              cases kq with
              | zero => exact absurd HA.out (by simp [words_Common.j2])
              | succ kj7 =>
                have H := HA.out
                clear HA
                simp only [words_Common.j2] at H
                by_cases c13 : x21_7 = true
                · subst c13
                  have H1 : (if 0 < (x0_2.length : Int) then (if 0 < (x1_2.length : Int) then (if (Op.bytesLess ((rdOf ByteArray.empty x0_2 0).toList) ((rdOf ByteArray.empty x1_2 0).toList)) = true then (if 1 ≤ (x0_2.length : Int) then (words_Common.l0 kj7 (x0_2.drop 1) x1_2 x5_2) else (none)) else (if (Op.bytesLess ((rdOf ByteArray.empty x1_2 0).toList) ((rdOf ByteArray.empty x0_2 0).toList)) = true then (if 1 ≤ (x1_2.length : Int) then (words_Common.l0 kj7 x0_2 (x1_2.drop 1) x5_2) else (none)) else (if 1 ≤ (x0_2.length : Int) then (if 1 ≤ (x1_2.length : Int) then (words_Common.l0 kj7 (x0_2.drop 1) (x1_2.drop 1) (wrap64 (x5_2 + 1))) else (none)) else (none)))) else (none)) else (none)) = some r := by rw [if_pos rfl] at H; exact H
                  clear H
                  have H := H1
                  clear H1
                  by_cases c14 : 0 < (x0_2.length : Int)
                  · rw [if_pos c14] at H
                    have c14b0 : decide (0 < (x0_2.length : Int)) = true := decide_eq_true c14
                    have c14b1 : decide (0 < x0_2.length) = true := decide_eq_true (by omega)
                    clear c14
                    by_cases c15 : 0 < (x1_2.length : Int)
                    · rw [if_pos c15] at H
                      have c15b0 : decide (0 < (x1_2.length : Int)) = true := decide_eq_true c15
                      have c15b1 : decide (0 < x1_2.length) = true := decide_eq_true (by omega)
                      clear c15
                      by_cases c16 : (Op.bytesLess ((rdOf ByteArray.empty x0_2 0).toList) ((rdOf ByteArray.empty x1_2 0).toList)) = true
                      · rw [if_pos c16] at H
                        have c16b0 : (Op.bytesLess ((rdOf ByteArray.empty x0_2 0).toList) ((rdOf ByteArray.empty x1_2 0).toList)) = true := c16
                        clear c16
                        by_cases c17 : 1 ≤ (x0_2.length : Int)
                        · rw [if_pos c17] at H
                          have c17b0 := eq_true c17
                          have c17b1 : decide (1 ≤ (x0_2.length : Int)) = true := decide_eq_true c17
                          clear c17
                          obtain ⟨y109, hy109⟩ : ∃ y_ : List ByteArray, y_ = (x0_2.drop 1) := ⟨_, rfl⟩
                          replace H : (words_Common.l0 kj7 y109 x1_2 x5_2) = some r := by first | (rw [hy109]; with_reducible exact H) | (have H2_ := (Option.bind_some _ _).symm.trans H; rw [hy109]; with_reducible exact H2_) | (have H2_ := (Option.bind_some _ _).symm.trans H; with_reducible exact H2_) | with_reducible exact H | (rw [hy109]; exact H) | exact H
                          have Ny109 := Aside0.mk hy109
                          clear hy109
                          have H' := Aside0.mk H
                          clear H
                          obtain ⟨Ao18, co18, eo18⟩ := Kd.V_slice HO_0.out
                          subst eo18
                          have p107 : 0 ≤ (0 : Int) := (by omega)
                          have q107 : 0 < (x0_2.length : Int) := of_decide_eq_true (by first | (with_reducible assumption) | assumption)
                          obtain ⟨ad107, e107, hx107_0⟩ := Kd.at_string (Kd.V_reads' HO_0.out).2.2 0 p107 q107
                          cases e107
                          have qi107 : (0 < x0_2.length) = True := eq_true (by omega)
                          (try rw [show ((0 : Int)).toNat = 0 from rfl] at hx107_0)
                          (try rw [Addr.add_zero'] at hx107_0)
                          replace p107 := eq_true p107
                          replace q107 := eq_true q107
                          obtain ⟨Ao19, co19, eo19⟩ := Kd.V_slice HO_1.out
                          subst eo19
                          have p108 : 0 ≤ (0 : Int) := (by omega)
                          have q108 : 0 < (x1_2.length : Int) := of_decide_eq_true (by first | (with_reducible assumption) | assumption)
                          obtain ⟨ad108, e108, hx108_0⟩ := Kd.at_string (Kd.V_reads' HO_1.out).2.2 0 p108 q108
                          cases e108
                          have qi108 : (0 < x1_2.length) = True := eq_true (by omega)
                          (try rw [show ((0 : Int)).toNat = 0 from rfl] at hx108_0)
                          (try rw [Addr.add_zero'] at hx108_0)
                          replace p108 := eq_true p108
                          replace q108 := eq_true q108
                          have q20 : (1 : Int) ≤ ((x0_2.length : Int) : Int) := of_decide_eq_true (by first | (with_reducible assumption) | assumption)
                          obtain ⟨i020, hi020, _, hsz20, _⟩ := info_parts info9
                          have hroom20 : x0_2.length ≤ co18 := (Kd.V_reads' HO_0.out).2.1
                          have hC20 : Kd.F Kd.string _ _ (some ad107) x0_2.length x0_2 := (Kd.V_at (base := w.heap.size) HO_0.out).2.2
                          have hcut20 := cut_from (P := Try.prog) 22 9 .i64 Try.underlying22 hi020 1 hsz20 (some ad107) x0_2.length co18 1 (by omega) q20
                          have hr20 := Kd.F_cut (m := (1 : Int).toNat) (c := co18) hC20 (by omega) hroom20
                          obtain ⟨A20, hA20⟩ : ∃ A1, A1 = (if co18 = (1 : Int).toNat then (some ad107) else ((some ad107) : Option Addr).map (·.add ((1 : Int).toNat * 1))) := ⟨_, rfl⟩
                          obtain ⟨c20, hc20⟩ : ∃ c1, c1 = co18 - (1 : Int).toNat := ⟨_, rfl⟩
                          have hy20 : y109.length = x0_2.length - (1 : Int).toNat := (by rw [Ny109.out, List.length_drop] <;> omega)
                          rw [show (x0_2).drop (1 : Int).toNat = y109 from Ny109.out.symm] at hr20
                          replace hr20 : Kd.F Kd.string _ _ A20 y109.length y109 := (by rw [hA20]; exact hr20)
                          rw [← hy20, ← hA20, ← hc20] at hcut20
                          have HO113 := Aside0.mk (show Kd.V Kd.string 9 _ w.heap.size _ (.slice A20 y109.length c20) y109 from Kd.V_mk (by rw [hy20, hc20]; exact Nat.sub_le_sub_right hroom20 _) hr20)
                          have HC113 := Aside0.mk (show y109.length ≤ c20 from by rw [hy20, hc20]; exact Nat.sub_le_sub_right hroom20 _)
                          clear hr20 hC20 hroom20 hi020 hsz20 hc20
                          have KY20 := Aside0.mk hy20
                          have KA20 := Aside0.mk hA20
                          clear hy20 hA20
                          replace q20 := eq_true q20
                          go_wp2
                          repeat (go_quiet (fail); try go_wp2)
                          go_roundg kj7
                          case measure => have := HJ2.out; have := HK2.out; have := HJ7.out; omega
                          case rel => exact ⟨(y109), (x1_2), (x5_2), (by first | rfl | (simp; done) | (simp [*]; done)), H', ⟨by have := HJ2.out; have := HK2.out; have := HJ7.out; omega⟩, ⟨by (with_reducible repeat (first | apply Kd.V_alloc | apply Kd.V_drewN | apply Kd.V_drew)); exact HO113.out⟩, ⟨by (with_reducible repeat (first | apply Kd.V_alloc | apply Kd.V_drewN | apply Kd.V_drew)); exact HO_1.out⟩, ⟨by repeat (first | (with_reducible first | exact HB.out | apply below_alloc | apply pw_below_drewN | apply below_drew1) | exact HB.out)⟩⟩
                        · rw [if_neg c17] at H
                          exact absurd H (by simp)
                      · rw [if_neg c16] at H
                        have c16b0 : (Op.bytesLess ((rdOf ByteArray.empty x0_2 0).toList) ((rdOf ByteArray.empty x1_2 0).toList)) = false := by simpa using c16
                        clear c16
                        by_cases c21 : (Op.bytesLess ((rdOf ByteArray.empty x1_2 0).toList) ((rdOf ByteArray.empty x0_2 0).toList)) = true
                        · rw [if_pos c21] at H
                          have c21b0 : (Op.bytesLess ((rdOf ByteArray.empty x1_2 0).toList) ((rdOf ByteArray.empty x0_2 0).toList)) = true := c21
                          clear c21
                          by_cases c22 : 1 ≤ (x1_2.length : Int)
                          · rw [if_pos c22] at H
                            have c22b0 := eq_true c22
                            have c22b1 : decide (1 ≤ (x1_2.length : Int)) = true := decide_eq_true c22
                            clear c22
                            obtain ⟨y116, hy116⟩ : ∃ y_ : List ByteArray, y_ = (x1_2.drop 1) := ⟨_, rfl⟩
                            replace H : (words_Common.l0 kj7 x0_2 y116 x5_2) = some r := by first | (rw [hy116]; with_reducible exact H) | (have H2_ := (Option.bind_some _ _).symm.trans H; rw [hy116]; with_reducible exact H2_) | (have H2_ := (Option.bind_some _ _).symm.trans H; with_reducible exact H2_) | with_reducible exact H | (rw [hy116]; exact H) | exact H
                            have Ny116 := Aside0.mk hy116
                            clear hy116
                            have H' := Aside0.mk H
                            clear H
                            obtain ⟨Ao23, co23, eo23⟩ := Kd.V_slice HO_0.out
                            subst eo23
                            have p107 : 0 ≤ (0 : Int) := (by omega)
                            have q107 : 0 < (x0_2.length : Int) := of_decide_eq_true (by first | (with_reducible assumption) | assumption)
                            obtain ⟨ad107, e107, hx107_0⟩ := Kd.at_string (Kd.V_reads' HO_0.out).2.2 0 p107 q107
                            cases e107
                            have qi107 : (0 < x0_2.length) = True := eq_true (by omega)
                            (try rw [show ((0 : Int)).toNat = 0 from rfl] at hx107_0)
                            (try rw [Addr.add_zero'] at hx107_0)
                            replace p107 := eq_true p107
                            replace q107 := eq_true q107
                            obtain ⟨Ao24, co24, eo24⟩ := Kd.V_slice HO_1.out
                            subst eo24
                            have p108 : 0 ≤ (0 : Int) := (by omega)
                            have q108 : 0 < (x1_2.length : Int) := of_decide_eq_true (by first | (with_reducible assumption) | assumption)
                            obtain ⟨ad108, e108, hx108_0⟩ := Kd.at_string (Kd.V_reads' HO_1.out).2.2 0 p108 q108
                            cases e108
                            have qi108 : (0 < x1_2.length) = True := eq_true (by omega)
                            (try rw [show ((0 : Int)).toNat = 0 from rfl] at hx108_0)
                            (try rw [Addr.add_zero'] at hx108_0)
                            replace p108 := eq_true p108
                            replace q108 := eq_true q108
                            have p114 : 0 ≤ (0 : Int) := (by omega)
                            have q114 : 0 < (x0_2.length : Int) := of_decide_eq_true (by first | (with_reducible assumption) | assumption)
                            obtain ⟨ad114, e114, hx114_0⟩ := Kd.at_string (Kd.V_reads' HO_0.out).2.2 0 p114 q114
                            obtain rfl : ad107 = ad114 := (by injection e114)
                            have qi114 : (0 < x0_2.length) = True := eq_true (by omega)
                            (try rw [show ((0 : Int)).toNat = 0 from rfl] at hx114_0)
                            (try rw [Addr.add_zero'] at hx114_0)
                            replace p114 := eq_true p114
                            replace q114 := eq_true q114
                            have p115 : 0 ≤ (0 : Int) := (by omega)
                            have q115 : 0 < (x1_2.length : Int) := of_decide_eq_true (by first | (with_reducible assumption) | assumption)
                            obtain ⟨ad115, e115, hx115_0⟩ := Kd.at_string (Kd.V_reads' HO_1.out).2.2 0 p115 q115
                            obtain rfl : ad108 = ad115 := (by injection e115)
                            have qi115 : (0 < x1_2.length) = True := eq_true (by omega)
                            (try rw [show ((0 : Int)).toNat = 0 from rfl] at hx115_0)
                            (try rw [Addr.add_zero'] at hx115_0)
                            replace p115 := eq_true p115
                            replace q115 := eq_true q115
                            have q25 : (1 : Int) ≤ ((x1_2.length : Int) : Int) := of_decide_eq_true (by first | (with_reducible assumption) | assumption)
                            obtain ⟨i025, hi025, _, hsz25, _⟩ := info_parts info9
                            have hroom25 : x1_2.length ≤ co24 := (Kd.V_reads' HO_1.out).2.1
                            have hC25 : Kd.F Kd.string _ _ (some ad108) x1_2.length x1_2 := (Kd.V_at (base := w.heap.size) HO_1.out).2.2
                            have hcut25 := cut_from (P := Try.prog) 22 9 .i64 Try.underlying22 hi025 1 hsz25 (some ad108) x1_2.length co24 1 (by omega) q25
                            have hr25 := Kd.F_cut (m := (1 : Int).toNat) (c := co24) hC25 (by omega) hroom25
                            obtain ⟨A25, hA25⟩ : ∃ A1, A1 = (if co24 = (1 : Int).toNat then (some ad108) else ((some ad108) : Option Addr).map (·.add ((1 : Int).toNat * 1))) := ⟨_, rfl⟩
                            obtain ⟨c25, hc25⟩ : ∃ c1, c1 = co24 - (1 : Int).toNat := ⟨_, rfl⟩
                            have hy25 : y116.length = x1_2.length - (1 : Int).toNat := (by rw [Ny116.out, List.length_drop] <;> omega)
                            rw [show (x1_2).drop (1 : Int).toNat = y116 from Ny116.out.symm] at hr25
                            replace hr25 : Kd.F Kd.string _ _ A25 y116.length y116 := (by rw [hA25]; exact hr25)
                            rw [← hy25, ← hA25, ← hc25] at hcut25
                            have HO120 := Aside0.mk (show Kd.V Kd.string 9 _ w.heap.size _ (.slice A25 y116.length c25) y116 from Kd.V_mk (by rw [hy25, hc25]; exact Nat.sub_le_sub_right hroom25 _) hr25)
                            have HC120 := Aside0.mk (show y116.length ≤ c25 from by rw [hy25, hc25]; exact Nat.sub_le_sub_right hroom25 _)
                            clear hr25 hC25 hroom25 hi025 hsz25 hc25
                            have KY25 := Aside0.mk hy25
                            have KA25 := Aside0.mk hA25
                            clear hy25 hA25
                            replace q25 := eq_true q25
                            go_wp2
                            repeat (go_quiet (fail); try go_wp2)
                            go_roundg kj7
                            case measure => have := HJ2.out; have := HK2.out; have := HJ7.out; omega
                            case rel => exact ⟨(x0_2), (y116), (x5_2), (by first | rfl | (simp; done) | (simp [*]; done)), H', ⟨by have := HJ2.out; have := HK2.out; have := HJ7.out; omega⟩, ⟨by (with_reducible repeat (first | apply Kd.V_alloc | apply Kd.V_drewN | apply Kd.V_drew)); exact HO_0.out⟩, ⟨by (with_reducible repeat (first | apply Kd.V_alloc | apply Kd.V_drewN | apply Kd.V_drew)); exact HO120.out⟩, ⟨by repeat (first | (with_reducible first | exact HB.out | apply below_alloc | apply pw_below_drewN | apply below_drew1) | exact HB.out)⟩⟩
                          · rw [if_neg c22] at H
                            exact absurd H (by simp)
                        · rw [if_neg c21] at H
                          have c21b0 : (Op.bytesLess ((rdOf ByteArray.empty x1_2 0).toList) ((rdOf ByteArray.empty x0_2 0).toList)) = false := by simpa using c21
                          clear c21
                          by_cases c26 : 1 ≤ (x0_2.length : Int)
                          · rw [if_pos c26] at H
                            have c26b0 := eq_true c26
                            have c26b1 : decide (1 ≤ (x0_2.length : Int)) = true := decide_eq_true c26
                            clear c26
                            obtain ⟨y121, hy121⟩ : ∃ y_ : List ByteArray, y_ = (x0_2.drop 1) := ⟨_, rfl⟩
                            replace H : (if 1 ≤ (x1_2.length : Int) then (words_Common.l0 kj7 y121 (x1_2.drop 1) (wrap64 (x5_2 + 1))) else (none)) = some r := by first | (rw [hy121]; with_reducible exact H) | (have H2_ := (Option.bind_some _ _).symm.trans H; rw [hy121]; with_reducible exact H2_) | (have H2_ := (Option.bind_some _ _).symm.trans H; with_reducible exact H2_) | with_reducible exact H | (rw [hy121]; exact H) | exact H
                            have Ny121 := Aside0.mk hy121
                            clear hy121
                            by_cases c27 : 1 ≤ (x1_2.length : Int)
                            · rw [if_pos c27] at H
                              have c27b0 := eq_true c27
                              have c27b1 : decide (1 ≤ (x1_2.length : Int)) = true := decide_eq_true c27
                              clear c27
                              obtain ⟨y126, hy126⟩ : ∃ y_ : List ByteArray, y_ = (x1_2.drop 1) := ⟨_, rfl⟩
                              replace H : (words_Common.l0 kj7 y121 y126 (wrap64 (x5_2 + 1))) = some r := by first | (rw [hy126]; with_reducible exact H) | (have H2_ := (Option.bind_some _ _).symm.trans H; rw [hy126]; with_reducible exact H2_) | (have H2_ := (Option.bind_some _ _).symm.trans H; with_reducible exact H2_) | with_reducible exact H | (rw [hy126]; exact H) | exact H
                              have Ny126 := Aside0.mk hy126
                              clear hy126
                              have H' := Aside0.mk H
                              clear H
                              obtain ⟨Ao28, co28, eo28⟩ := Kd.V_slice HO_0.out
                              subst eo28
                              have p107 : 0 ≤ (0 : Int) := (by omega)
                              have q107 : 0 < (x0_2.length : Int) := of_decide_eq_true (by first | (with_reducible assumption) | assumption)
                              obtain ⟨ad107, e107, hx107_0⟩ := Kd.at_string (Kd.V_reads' HO_0.out).2.2 0 p107 q107
                              cases e107
                              have qi107 : (0 < x0_2.length) = True := eq_true (by omega)
                              (try rw [show ((0 : Int)).toNat = 0 from rfl] at hx107_0)
                              (try rw [Addr.add_zero'] at hx107_0)
                              replace p107 := eq_true p107
                              replace q107 := eq_true q107
                              obtain ⟨Ao29, co29, eo29⟩ := Kd.V_slice HO_1.out
                              subst eo29
                              have p108 : 0 ≤ (0 : Int) := (by omega)
                              have q108 : 0 < (x1_2.length : Int) := of_decide_eq_true (by first | (with_reducible assumption) | assumption)
                              obtain ⟨ad108, e108, hx108_0⟩ := Kd.at_string (Kd.V_reads' HO_1.out).2.2 0 p108 q108
                              cases e108
                              have qi108 : (0 < x1_2.length) = True := eq_true (by omega)
                              (try rw [show ((0 : Int)).toNat = 0 from rfl] at hx108_0)
                              (try rw [Addr.add_zero'] at hx108_0)
                              replace p108 := eq_true p108
                              replace q108 := eq_true q108
                              have p114 : 0 ≤ (0 : Int) := (by omega)
                              have q114 : 0 < (x0_2.length : Int) := of_decide_eq_true (by first | (with_reducible assumption) | assumption)
                              obtain ⟨ad114, e114, hx114_0⟩ := Kd.at_string (Kd.V_reads' HO_0.out).2.2 0 p114 q114
                              obtain rfl : ad107 = ad114 := (by injection e114)
                              have qi114 : (0 < x0_2.length) = True := eq_true (by omega)
                              (try rw [show ((0 : Int)).toNat = 0 from rfl] at hx114_0)
                              (try rw [Addr.add_zero'] at hx114_0)
                              replace p114 := eq_true p114
                              replace q114 := eq_true q114
                              have p115 : 0 ≤ (0 : Int) := (by omega)
                              have q115 : 0 < (x1_2.length : Int) := of_decide_eq_true (by first | (with_reducible assumption) | assumption)
                              obtain ⟨ad115, e115, hx115_0⟩ := Kd.at_string (Kd.V_reads' HO_1.out).2.2 0 p115 q115
                              obtain rfl : ad108 = ad115 := (by injection e115)
                              have qi115 : (0 < x1_2.length) = True := eq_true (by omega)
                              (try rw [show ((0 : Int)).toNat = 0 from rfl] at hx115_0)
                              (try rw [Addr.add_zero'] at hx115_0)
                              replace p115 := eq_true p115
                              replace q115 := eq_true q115
                              have q30 : (1 : Int) ≤ ((x0_2.length : Int) : Int) := of_decide_eq_true (by first | (with_reducible assumption) | assumption)
                              obtain ⟨i030, hi030, _, hsz30, _⟩ := info_parts info9
                              have hroom30 : x0_2.length ≤ co28 := (Kd.V_reads' HO_0.out).2.1
                              have hC30 : Kd.F Kd.string _ _ (some ad107) x0_2.length x0_2 := (Kd.V_at (base := w.heap.size) HO_0.out).2.2
                              have hcut30 := cut_from (P := Try.prog) 22 9 .i64 Try.underlying22 hi030 1 hsz30 (some ad107) x0_2.length co28 1 (by omega) q30
                              have hr30 := Kd.F_cut (m := (1 : Int).toNat) (c := co28) hC30 (by omega) hroom30
                              obtain ⟨A30, hA30⟩ : ∃ A1, A1 = (if co28 = (1 : Int).toNat then (some ad107) else ((some ad107) : Option Addr).map (·.add ((1 : Int).toNat * 1))) := ⟨_, rfl⟩
                              obtain ⟨c30, hc30⟩ : ∃ c1, c1 = co28 - (1 : Int).toNat := ⟨_, rfl⟩
                              have hy30 : y121.length = x0_2.length - (1 : Int).toNat := (by rw [Ny121.out, List.length_drop] <;> omega)
                              rw [show (x0_2).drop (1 : Int).toNat = y121 from Ny121.out.symm] at hr30
                              replace hr30 : Kd.F Kd.string _ _ A30 y121.length y121 := (by rw [hA30]; exact hr30)
                              rw [← hy30, ← hA30, ← hc30] at hcut30
                              have HO125 := Aside0.mk (show Kd.V Kd.string 9 _ w.heap.size _ (.slice A30 y121.length c30) y121 from Kd.V_mk (by rw [hy30, hc30]; exact Nat.sub_le_sub_right hroom30 _) hr30)
                              have HC125 := Aside0.mk (show y121.length ≤ c30 from by rw [hy30, hc30]; exact Nat.sub_le_sub_right hroom30 _)
                              clear hr30 hC30 hroom30 hi030 hsz30 hc30
                              have KY30 := Aside0.mk hy30
                              have KA30 := Aside0.mk hA30
                              clear hy30 hA30
                              replace q30 := eq_true q30
                              have q31 : (1 : Int) ≤ ((x1_2.length : Int) : Int) := of_decide_eq_true (by first | (with_reducible assumption) | assumption)
                              obtain ⟨i031, hi031, _, hsz31, _⟩ := info_parts info9
                              have hroom31 : x1_2.length ≤ co29 := (Kd.V_reads' HO_1.out).2.1
                              have hC31 : Kd.F Kd.string _ _ (some ad108) x1_2.length x1_2 := (Kd.V_at (base := w.heap.size) HO_1.out).2.2
                              have hcut31 := cut_from (P := Try.prog) 22 9 .i64 Try.underlying22 hi031 1 hsz31 (some ad108) x1_2.length co29 1 (by omega) q31
                              have hr31 := Kd.F_cut (m := (1 : Int).toNat) (c := co29) hC31 (by omega) hroom31
                              obtain ⟨A31, hA31⟩ : ∃ A1, A1 = (if co29 = (1 : Int).toNat then (some ad108) else ((some ad108) : Option Addr).map (·.add ((1 : Int).toNat * 1))) := ⟨_, rfl⟩
                              obtain ⟨c31, hc31⟩ : ∃ c1, c1 = co29 - (1 : Int).toNat := ⟨_, rfl⟩
                              have hy31 : y126.length = x1_2.length - (1 : Int).toNat := (by rw [Ny126.out, List.length_drop] <;> omega)
                              rw [show (x1_2).drop (1 : Int).toNat = y126 from Ny126.out.symm] at hr31
                              replace hr31 : Kd.F Kd.string _ _ A31 y126.length y126 := (by rw [hA31]; exact hr31)
                              rw [← hy31, ← hA31, ← hc31] at hcut31
                              have HO130 := Aside0.mk (show Kd.V Kd.string 9 _ w.heap.size _ (.slice A31 y126.length c31) y126 from Kd.V_mk (by rw [hy31, hc31]; exact Nat.sub_le_sub_right hroom31 _) hr31)
                              have HC130 := Aside0.mk (show y126.length ≤ c31 from by rw [hy31, hc31]; exact Nat.sub_le_sub_right hroom31 _)
                              clear hr31 hC31 hroom31 hi031 hsz31 hc31
                              have KY31 := Aside0.mk hy31
                              have KA31 := Aside0.mk hA31
                              clear hy31 hA31
                              replace q31 := eq_true q31
                              go_wp2
                              repeat (go_quiet (fail); try go_wp2)
                              go_roundg kj7
                              case measure => have := HJ2.out; have := HK2.out; have := HJ7.out; omega
                              case rel => exact ⟨(y121), (y126), (wrap64 (x5_2 + 1)), (by first | rfl | (simp; done) | (simp [*]; done)), H', ⟨by have := HJ2.out; have := HK2.out; have := HJ7.out; omega⟩, ⟨by (with_reducible repeat (first | apply Kd.V_alloc | apply Kd.V_drewN | apply Kd.V_drew)); exact HO125.out⟩, ⟨by (with_reducible repeat (first | apply Kd.V_alloc | apply Kd.V_drewN | apply Kd.V_drew)); exact HO130.out⟩, ⟨by repeat (first | (with_reducible first | exact HB.out | apply below_alloc | apply pw_below_drewN | apply below_drew1) | exact HB.out)⟩⟩
                            · rw [if_neg c27] at H
                              exact absurd H (by simp)
                          · rw [if_neg c26] at H
                            exact absurd H (by simp)
                    · rw [if_neg c15] at H
                      exact absurd H (by simp)
                  · rw [if_neg c14] at H
                    exact absurd H (by simp)
                · replace c13 := Bool.eq_false_iff.mpr c13
                  subst c13
                  have H1 : (some x5_2) = some r := by rw [if_neg (show ¬ (false = true) by decide)] at H; exact H
                  clear H
                  have H := H1
                  clear H1
                  obtain rfl := Option.some.inj H
                  go_wp2
                  repeat (go_quiet (fail); try go_wp2)
                  go_ret
                  exact ⟨by first | rfl | (simp [errW_none, errW_some] <;> rfl) | (simp [*, errW_none, errW_some] <;> rfl), by repeat (first | (with_reducible first | exact HB.out | apply below_alloc | apply pw_below_drewN | apply below_drew1) | exact HB.out)⟩

end Go.Proofs.Ythdhkclhckigmaa.Q

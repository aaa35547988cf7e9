-- Printed by a program of this session out of the translation (wip/tools/qprint.sh); Lean checks it.
import Derived.Test.YtgomlpndoolllaaDoorLParts0
import Derived.Test.YtgomlpndoolllaaDoorD5
import Derived.Test.YtgomlpndoolllaaDoorQ10
import Derived.Test.YtgomlpndoolllaaDoorQ3
namespace Go.Proofs.YtgomlpndoolllaaDoor.LParts
open Go.RowKit Go.Proofs.YtgomlpndoolllaaDoor.Q Go.Proofs.YtgomlpndoolllaaDoorW.PrintWords Go.Proofs.YtgomlpndoolllaaDoorW.PrintLast Go.Proofs.YtgomlpndoolllaaDoorW.PrintMore
attribute [local go_sem] max2_int min2_int max_two min_two max_three min_three max_four min_four   -- for this text's walks alone
set_option linter.unusedVariables false
set_option linter.unusedSimpArgs false

/-! ### cleanselaw04_MeasureParts: function 5 -/
def cleanselaw04_MeasureParts.f (k : Nat) (a0 : ByteArray) (a1 : ByteArray) (a2 : ByteArray) (a3 : Int) (a4 : Int) : Option (Bool) := (cleanselaw04_head.f).bind fun t101 => ((cleanseref04_Short.f k 150 (([a0, a1, a2] : List ByteArray))).bind fun t105 => (if t105 = true then ((measure_Edit.f k a0 a1).bind fun t106 => (if (wrap64 ((a0.size : Int) + 1)) = 0 then (none) else (if 0 ≤ (Int.tmod (wrap64 (a3)) (wrap64 ((a0.size : Int) + 1))) then (if (Int.tmod (wrap64 (a3)) (wrap64 ((a0.size : Int) + 1))) ≤ (a0.size : Int) then ((some (([a4] : List Int) : List Int)).bind fun y107 => (if (a0.extract 0 ((Int.tmod (wrap64 (a3)) (wrap64 ((a0.size : Int) + 1))) : Int).toNat).size + (strOfNums y107).size ≤ 9223372036854775807 then (if ((a0.extract 0 ((Int.tmod (wrap64 (a3)) (wrap64 ((a0.size : Int) + 1))) : Int).toNat) ++ (strOfNums y107)).size + (a0.extract ((Int.tmod (wrap64 (a3)) (wrap64 ((a0.size : Int) + 1))) : Int).toNat a0.size).size ≤ 9223372036854775807 then ((measure_Edit.f k (((a0.extract 0 ((Int.tmod (wrap64 (a3)) (wrap64 ((a0.size : Int) + 1))) : Int).toNat) ++ (strOfNums y107)) ++ (a0.extract ((Int.tmod (wrap64 (a3)) (wrap64 ((a0.size : Int) + 1))) : Int).toNat a0.size)) a1).bind fun t110 => (if t101 = true then (if a2.size + a0.size ≤ 9223372036854775807 then (if a2.size + a1.size ≤ 9223372036854775807 then ((measure_Edit.f k (a2 ++ a0) (a2 ++ a1)).bind fun t111 => (if t111 = t106 then (if a0.size + a2.size ≤ 9223372036854775807 then (if a1.size + a2.size ≤ 9223372036854775807 then ((measure_Edit.f k (a0 ++ a2) (a1 ++ a2)).bind fun t112 => (if t112 = t106 then (if t110 ≤ (wrap64 (t106 + 1)) then (some (decide (t110 ≥ (wrap64 (t106 - 1))))) else (some false)) else (some false))) else (none)) else (none)) else (some false))) else (none)) else (none)) else (some false))) else (none)) else (none))) else (none)) else (none)))) else (some t101)))
theorem cleanselaw04_MeasureParts.mono : ∀ a0 a1 a2 a3 a4 k, LeO (cleanselaw04_MeasureParts.f k a0 a1 a2 a3 a4) (cleanselaw04_MeasureParts.f (k + 1) a0 a1 a2 a3 a4) := by
  intro a0 a1 a2 a3 a4 k
  unfold cleanselaw04_MeasureParts.f
  repeat' first
      | (with_reducible exact cleanseref04_Short.mono _ _ _)
      | (with_reducible exact measure_Edit.mono _ _ _)
      | (with_reducible exact LeO.refl _)
      | (with_reducible exact LeO.none _)
      | (with_reducible refine LeO.ite ?_ ?_)
      | (with_reducible refine LeO.bind ?_ (fun _ => ?_))
      | exact cleanseref04_Short.mono _ _ _
      | exact measure_Edit.mono _ _ _
      | exact LeO.none _
      | refine LeO.ite ?_ ?_
      | refine LeO.bind ?_ (fun _ => ?_)
def cleanselaw04_MeasureParts.T6 : Bool × List (List Nat × List Nat) := (true, [([], []), ([], []), ([0, 1], [0, 1]), ([], []), ([3], [3]), ([4], [4]), ([2, 5], [2, 5]), ([], []), ([], []), ([7, 8], [7, 8]), ([6, 9], [6, 9]), ([], []), ([10, 11], [10, 11]), ([12, 12, 0, 1, 2, 3, 4, 5, 6, 7, 8, 9, 10, 11, 12], [12])])
def cleanselaw04_MeasureParts.B6 : List Nat := [0, 0, 3, 0, 8, 24, 63, 0, 0, 384, 1023, 0, 4095, 8191]
theorem cleanselaw04_MeasureParts.tab6 : rtab .any (opsOf Tryd.f5 6) = cleanselaw04_MeasureParts.T6 := by kernel_rfl
theorem cleanselaw04_MeasureParts.bits6 : waitsOk cleanselaw04_MeasureParts.T6.2 cleanselaw04_MeasureParts.B6 = true := by kernel_rfl
set_option maxHeartbeats 8000000 in
set_option maxRecDepth 100000 in
theorem cleanselaw04_MeasureParts.calls (k : Nat) (a0 : ByteArray) (a1 : ByteArray) (a2 : ByteArray) (a3 : Int) (a4 : Int) (r : Bool) (w : World) (hG : Gl w) (hT : r = true) (h : cleanselaw04_MeasureParts.f k a0 a1 a2 a3 a4 = some r) :
    Calls Tryd.prog 5 #[.string a0, .string a1, .string a2, .int .u8 a3, .int .u8 a4] w fun e w' => e = .returned (.bool r) ∧ Below w.heap.size w w' := by
  have HGl := Aside0.mk hG
  clear hG
  have HT := Aside0.mk hT
  clear hT
  have HB := Aside0.mk (Below.refl w.heap.size w)
  have H : ((cleanselaw04_head.f).bind fun t101 => ((cleanseref04_Short.f k 150 (([a0, a1, a2] : List ByteArray))).bind fun t105 => (if t105 = true then ((measure_Edit.f k a0 a1).bind fun t106 => (if (wrap64 ((a0.size : Int) + 1)) = 0 then (none) else (if 0 ≤ (Int.tmod (wrap64 (a3)) (wrap64 ((a0.size : Int) + 1))) then (if (Int.tmod (wrap64 (a3)) (wrap64 ((a0.size : Int) + 1))) ≤ (a0.size : Int) then ((some (([a4] : List Int) : List Int)).bind fun y107 => (if (a0.extract 0 ((Int.tmod (wrap64 (a3)) (wrap64 ((a0.size : Int) + 1))) : Int).toNat).size + (strOfNums y107).size ≤ 9223372036854775807 then (if ((a0.extract 0 ((Int.tmod (wrap64 (a3)) (wrap64 ((a0.size : Int) + 1))) : Int).toNat) ++ (strOfNums y107)).size + (a0.extract ((Int.tmod (wrap64 (a3)) (wrap64 ((a0.size : Int) + 1))) : Int).toNat a0.size).size ≤ 9223372036854775807 then ((measure_Edit.f k (((a0.extract 0 ((Int.tmod (wrap64 (a3)) (wrap64 ((a0.size : Int) + 1))) : Int).toNat) ++ (strOfNums y107)) ++ (a0.extract ((Int.tmod (wrap64 (a3)) (wrap64 ((a0.size : Int) + 1))) : Int).toNat a0.size)) a1).bind fun t110 => (if t101 = true then (if a2.size + a0.size ≤ 9223372036854775807 then (if a2.size + a1.size ≤ 9223372036854775807 then ((measure_Edit.f k (a2 ++ a0) (a2 ++ a1)).bind fun t111 => (if t111 = t106 then (if a0.size + a2.size ≤ 9223372036854775807 then (if a1.size + a2.size ≤ 9223372036854775807 then ((measure_Edit.f k (a0 ++ a2) (a1 ++ a2)).bind fun t112 => (if t112 = t106 then (if t110 ≤ (wrap64 (t106 + 1)) then (some (decide (t110 ≥ (wrap64 (t106 - 1))))) else (some false)) else (some false))) else (none)) else (none)) else (some false))) else (none)) else (none)) else (some false))) else (none)) else (none))) else (none)) else (none)))) else (some t101)))) = some r := h
  clear h
  replace H := Option.bind_eq_some_iff.mp H
  obtain ⟨t101, A60, H⟩ := H
  replace H : ((cleanseref04_Short.f k 150 (([a0, a1, a2] : List ByteArray))).bind fun t105 => (if t105 = true then ((measure_Edit.f k a0 a1).bind fun t106 => (if (wrap64 ((a0.size : Int) + 1)) = 0 then (none) else (if 0 ≤ (Int.tmod (wrap64 (a3)) (wrap64 ((a0.size : Int) + 1))) then (if (Int.tmod (wrap64 (a3)) (wrap64 ((a0.size : Int) + 1))) ≤ (a0.size : Int) then ((some (([a4] : List Int) : List Int)).bind fun y107 => (if (a0.extract 0 ((Int.tmod (wrap64 (a3)) (wrap64 ((a0.size : Int) + 1))) : Int).toNat).size + (strOfNums y107).size ≤ 9223372036854775807 then (if ((a0.extract 0 ((Int.tmod (wrap64 (a3)) (wrap64 ((a0.size : Int) + 1))) : Int).toNat) ++ (strOfNums y107)).size + (a0.extract ((Int.tmod (wrap64 (a3)) (wrap64 ((a0.size : Int) + 1))) : Int).toNat a0.size).size ≤ 9223372036854775807 then ((measure_Edit.f k (((a0.extract 0 ((Int.tmod (wrap64 (a3)) (wrap64 ((a0.size : Int) + 1))) : Int).toNat) ++ (strOfNums y107)) ++ (a0.extract ((Int.tmod (wrap64 (a3)) (wrap64 ((a0.size : Int) + 1))) : Int).toNat a0.size)) a1).bind fun t110 => (if t101 = true then (if a2.size + a0.size ≤ 9223372036854775807 then (if a2.size + a1.size ≤ 9223372036854775807 then ((measure_Edit.f k (a2 ++ a0) (a2 ++ a1)).bind fun t111 => (if t111 = t106 then (if a0.size + a2.size ≤ 9223372036854775807 then (if a1.size + a2.size ≤ 9223372036854775807 then ((measure_Edit.f k (a0 ++ a2) (a1 ++ a2)).bind fun t112 => (if t112 = t106 then (if t110 ≤ (wrap64 (t106 + 1)) then (some (decide (t110 ≥ (wrap64 (t106 - 1))))) else (some false)) else (some false))) else (none)) else (none)) else (some false))) else (none)) else (none)) else (some false))) else (none)) else (none))) else (none)) else (none)))) else (some t101))) = some r := H
  have A6 := Aside0.mk A60
  clear A60
  obtain ⟨y102, hy102⟩ : ∃ y_ : List ByteArray, y_ = (([a0, a1, a2] : List ByteArray)) := ⟨_, rfl⟩
  replace H : ((cleanseref04_Short.f k 150 y102).bind fun t105 => (if t105 = true then ((measure_Edit.f k a0 a1).bind fun t106 => (if (wrap64 ((a0.size : Int) + 1)) = 0 then (none) else (if 0 ≤ (Int.tmod (wrap64 (a3)) (wrap64 ((a0.size : Int) + 1))) then (if (Int.tmod (wrap64 (a3)) (wrap64 ((a0.size : Int) + 1))) ≤ (a0.size : Int) then ((some (([a4] : List Int) : List Int)).bind fun y107 => (if (a0.extract 0 ((Int.tmod (wrap64 (a3)) (wrap64 ((a0.size : Int) + 1))) : Int).toNat).size + (strOfNums y107).size ≤ 9223372036854775807 then (if ((a0.extract 0 ((Int.tmod (wrap64 (a3)) (wrap64 ((a0.size : Int) + 1))) : Int).toNat) ++ (strOfNums y107)).size + (a0.extract ((Int.tmod (wrap64 (a3)) (wrap64 ((a0.size : Int) + 1))) : Int).toNat a0.size).size ≤ 9223372036854775807 then ((measure_Edit.f k (((a0.extract 0 ((Int.tmod (wrap64 (a3)) (wrap64 ((a0.size : Int) + 1))) : Int).toNat) ++ (strOfNums y107)) ++ (a0.extract ((Int.tmod (wrap64 (a3)) (wrap64 ((a0.size : Int) + 1))) : Int).toNat a0.size)) a1).bind fun t110 => (if t101 = true then (if a2.size + a0.size ≤ 9223372036854775807 then (if a2.size + a1.size ≤ 9223372036854775807 then ((measure_Edit.f k (a2 ++ a0) (a2 ++ a1)).bind fun t111 => (if t111 = t106 then (if a0.size + a2.size ≤ 9223372036854775807 then (if a1.size + a2.size ≤ 9223372036854775807 then ((measure_Edit.f k (a0 ++ a2) (a1 ++ a2)).bind fun t112 => (if t112 = t106 then (if t110 ≤ (wrap64 (t106 + 1)) then (some (decide (t110 ≥ (wrap64 (t106 - 1))))) else (some false)) else (some false))) else (none)) else (none)) else (some false))) else (none)) else (none)) else (some false))) else (none)) else (none))) else (none)) else (none)))) else (some t101))) = some r := by first | (rw [hy102]; with_reducible exact H) | (have H2_ := (Option.bind_some _ _).symm.trans H; rw [hy102]; with_reducible exact H2_) | (have H2_ := (Option.bind_some _ _).symm.trans H; with_reducible exact H2_) | with_reducible exact H | (rw [hy102]; exact H) | exact H
  have Ny102 := Aside0.mk hy102
  clear hy102
  replace H := Option.bind_eq_some_iff.mp H
  obtain ⟨t105, A70, H⟩ := H
  replace H : (if t105 = true then ((measure_Edit.f k a0 a1).bind fun t106 => (if (wrap64 ((a0.size : Int) + 1)) = 0 then (none) else (if 0 ≤ (Int.tmod (wrap64 (a3)) (wrap64 ((a0.size : Int) + 1))) then (if (Int.tmod (wrap64 (a3)) (wrap64 ((a0.size : Int) + 1))) ≤ (a0.size : Int) then ((some (([a4] : List Int) : List Int)).bind fun y107 => (if (a0.extract 0 ((Int.tmod (wrap64 (a3)) (wrap64 ((a0.size : Int) + 1))) : Int).toNat).size + (strOfNums y107).size ≤ 9223372036854775807 then (if ((a0.extract 0 ((Int.tmod (wrap64 (a3)) (wrap64 ((a0.size : Int) + 1))) : Int).toNat) ++ (strOfNums y107)).size + (a0.extract ((Int.tmod (wrap64 (a3)) (wrap64 ((a0.size : Int) + 1))) : Int).toNat a0.size).size ≤ 9223372036854775807 then ((measure_Edit.f k (((a0.extract 0 ((Int.tmod (wrap64 (a3)) (wrap64 ((a0.size : Int) + 1))) : Int).toNat) ++ (strOfNums y107)) ++ (a0.extract ((Int.tmod (wrap64 (a3)) (wrap64 ((a0.size : Int) + 1))) : Int).toNat a0.size)) a1).bind fun t110 => (if t101 = true then (if a2.size + a0.size ≤ 9223372036854775807 then (if a2.size + a1.size ≤ 9223372036854775807 then ((measure_Edit.f k (a2 ++ a0) (a2 ++ a1)).bind fun t111 => (if t111 = t106 then (if a0.size + a2.size ≤ 9223372036854775807 then (if a1.size + a2.size ≤ 9223372036854775807 then ((measure_Edit.f k (a0 ++ a2) (a1 ++ a2)).bind fun t112 => (if t112 = t106 then (if t110 ≤ (wrap64 (t106 + 1)) then (some (decide (t110 ≥ (wrap64 (t106 - 1))))) else (some false)) else (some false))) else (none)) else (none)) else (some false))) else (none)) else (none)) else (some false))) else (none)) else (none))) else (none)) else (none)))) else (some t101)) = some r := H
  have A7 := Aside0.mk A70
  clear A70
  by_cases c8 : t105 = true
  · subst c8
    have H1 : ((measure_Edit.f k a0 a1).bind fun t106 => (if (wrap64 ((a0.size : Int) + 1)) = 0 then (none) else (if 0 ≤ (Int.tmod (wrap64 (a3)) (wrap64 ((a0.size : Int) + 1))) then (if (Int.tmod (wrap64 (a3)) (wrap64 ((a0.size : Int) + 1))) ≤ (a0.size : Int) then ((some (([a4] : List Int) : List Int)).bind fun y107 => (if (a0.extract 0 ((Int.tmod (wrap64 (a3)) (wrap64 ((a0.size : Int) + 1))) : Int).toNat).size + (strOfNums y107).size ≤ 9223372036854775807 then (if ((a0.extract 0 ((Int.tmod (wrap64 (a3)) (wrap64 ((a0.size : Int) + 1))) : Int).toNat) ++ (strOfNums y107)).size + (a0.extract ((Int.tmod (wrap64 (a3)) (wrap64 ((a0.size : Int) + 1))) : Int).toNat a0.size).size ≤ 9223372036854775807 then ((measure_Edit.f k (((a0.extract 0 ((Int.tmod (wrap64 (a3)) (wrap64 ((a0.size : Int) + 1))) : Int).toNat) ++ (strOfNums y107)) ++ (a0.extract ((Int.tmod (wrap64 (a3)) (wrap64 ((a0.size : Int) + 1))) : Int).toNat a0.size)) a1).bind fun t110 => (if t101 = true then (if a2.size + a0.size ≤ 9223372036854775807 then (if a2.size + a1.size ≤ 9223372036854775807 then ((measure_Edit.f k (a2 ++ a0) (a2 ++ a1)).bind fun t111 => (if t111 = t106 then (if a0.size + a2.size ≤ 9223372036854775807 then (if a1.size + a2.size ≤ 9223372036854775807 then ((measure_Edit.f k (a0 ++ a2) (a1 ++ a2)).bind fun t112 => (if t112 = t106 then (if t110 ≤ (wrap64 (t106 + 1)) then (some (decide (t110 ≥ (wrap64 (t106 - 1))))) else (some false)) else (some false))) else (none)) else (none)) else (some false))) else (none)) else (none)) else (some false))) else (none)) else (none))) else (none)) else (none)))) = some r := by rw [if_pos rfl] at H; exact H
    clear H
    have H := H1
    clear H1
    replace H := Option.bind_eq_some_iff.mp H
    obtain ⟨t106, A90, H⟩ := H
    replace H : (if (wrap64 ((a0.size : Int) + 1)) = 0 then (none) else (if 0 ≤ (Int.tmod (wrap64 (a3)) (wrap64 ((a0.size : Int) + 1))) then (if (Int.tmod (wrap64 (a3)) (wrap64 ((a0.size : Int) + 1))) ≤ (a0.size : Int) then ((some (([a4] : List Int) : List Int)).bind fun y107 => (if (a0.extract 0 ((Int.tmod (wrap64 (a3)) (wrap64 ((a0.size : Int) + 1))) : Int).toNat).size + (strOfNums y107).size ≤ 9223372036854775807 then (if ((a0.extract 0 ((Int.tmod (wrap64 (a3)) (wrap64 ((a0.size : Int) + 1))) : Int).toNat) ++ (strOfNums y107)).size + (a0.extract ((Int.tmod (wrap64 (a3)) (wrap64 ((a0.size : Int) + 1))) : Int).toNat a0.size).size ≤ 9223372036854775807 then ((measure_Edit.f k (((a0.extract 0 ((Int.tmod (wrap64 (a3)) (wrap64 ((a0.size : Int) + 1))) : Int).toNat) ++ (strOfNums y107)) ++ (a0.extract ((Int.tmod (wrap64 (a3)) (wrap64 ((a0.size : Int) + 1))) : Int).toNat a0.size)) a1).bind fun t110 => (if t101 = true then (if a2.size + a0.size ≤ 9223372036854775807 then (if a2.size + a1.size ≤ 9223372036854775807 then ((measure_Edit.f k (a2 ++ a0) (a2 ++ a1)).bind fun t111 => (if t111 = t106 then (if a0.size + a2.size ≤ 9223372036854775807 then (if a1.size + a2.size ≤ 9223372036854775807 then ((measure_Edit.f k (a0 ++ a2) (a1 ++ a2)).bind fun t112 => (if t112 = t106 then (if t110 ≤ (wrap64 (t106 + 1)) then (some (decide (t110 ≥ (wrap64 (t106 - 1))))) else (some false)) else (some false))) else (none)) else (none)) else (some false))) else (none)) else (none)) else (some false))) else (none)) else (none))) else (none)) else (none))) = some r := H
    have A9 := Aside0.mk A90
    clear A90
    by_cases c10 : (wrap64 ((a0.size : Int) + 1)) = 0
    · rw [if_pos c10] at H
      exact absurd H (by simp)
    · rw [if_neg c10] at H
      have c10b0 : ((wrap64 ((a0.size : Int) + 1)) == 0) = false := beq_eq_false_iff_ne.mpr c10
      have c10b1 : ((wrap64 ((a0.size : Int) + 1)) != 0) = true := bne_iff_ne.mpr c10
      obtain ⟨ji11, hji11⟩ : ∃ j_ : Int, (Int.tmod (wrap64 (a3)) (wrap64 ((a0.size : Int) + 1))) = j_ := ⟨_, rfl⟩
      replace H : (if 0 ≤ (ji11) then (if (ji11) ≤ (a0.size : Int) then ((some (([a4] : List Int) : List Int)).bind fun y107 => (if (a0.extract 0 ((ji11) : Int).toNat).size + (strOfNums y107).size ≤ 9223372036854775807 then (if ((a0.extract 0 ((ji11) : Int).toNat) ++ (strOfNums y107)).size + (a0.extract ((ji11) : Int).toNat a0.size).size ≤ 9223372036854775807 then ((measure_Edit.f k (((a0.extract 0 ((ji11) : Int).toNat) ++ (strOfNums y107)) ++ (a0.extract ((ji11) : Int).toNat a0.size)) a1).bind fun t110 => (if t101 = true then (if a2.size + a0.size ≤ 9223372036854775807 then (if a2.size + a1.size ≤ 9223372036854775807 then ((measure_Edit.f k (a2 ++ a0) (a2 ++ a1)).bind fun t111 => (if t111 = t106 then (if a0.size + a2.size ≤ 9223372036854775807 then (if a1.size + a2.size ≤ 9223372036854775807 then ((measure_Edit.f k (a0 ++ a2) (a1 ++ a2)).bind fun t112 => (if t112 = t106 then (if t110 ≤ (wrap64 (t106 + 1)) then (some (decide (t110 ≥ (wrap64 (t106 - 1))))) else (some false)) else (some false))) else (none)) else (none)) else (some false))) else (none)) else (none)) else (some false))) else (none)) else (none))) else (none)) else (none)) = some r := by first | (rw [hji11] at H; exact H) | (simp only [hji11] at H ⊢; exact H)
      (try rw [hji11] at A6)
      (try rw [hji11] at A7)
      (try rw [hji11] at A9)
      by_cases c12 : 0 ≤ (ji11)
      · rw [if_pos c12] at H
        have c12b0 := eq_true c12
        have c12b1 : decide (0 ≤ (ji11)) = true := decide_eq_true c12
        clear c12
        by_cases c13 : (ji11) ≤ (a0.size : Int)
        · rw [if_pos c13] at H
          have c13b0 := eq_true c13
          have c13b1 : decide ((ji11) ≤ (a0.size : Int)) = true := decide_eq_true c13
          clear c13
          obtain ⟨y107, hy107⟩ : ∃ y_ : List Int, y_ = (([a4] : List Int)) := ⟨_, rfl⟩
          replace H : (if (a0.extract 0 ((ji11) : Int).toNat).size + (strOfNums y107).size ≤ 9223372036854775807 then (if ((a0.extract 0 ((ji11) : Int).toNat) ++ (strOfNums y107)).size + (a0.extract ((ji11) : Int).toNat a0.size).size ≤ 9223372036854775807 then ((measure_Edit.f k (((a0.extract 0 ((ji11) : Int).toNat) ++ (strOfNums y107)) ++ (a0.extract ((ji11) : Int).toNat a0.size)) a1).bind fun t110 => (if t101 = true then (if a2.size + a0.size ≤ 9223372036854775807 then (if a2.size + a1.size ≤ 9223372036854775807 then ((measure_Edit.f k (a2 ++ a0) (a2 ++ a1)).bind fun t111 => (if t111 = t106 then (if a0.size + a2.size ≤ 9223372036854775807 then (if a1.size + a2.size ≤ 9223372036854775807 then ((measure_Edit.f k (a0 ++ a2) (a1 ++ a2)).bind fun t112 => (if t112 = t106 then (if t110 ≤ (wrap64 (t106 + 1)) then (some (decide (t110 ≥ (wrap64 (t106 - 1))))) else (some false)) else (some false))) else (none)) else (none)) else (some false))) else (none)) else (none)) else (some false))) else (none)) else (none)) = some r := by first | (rw [hy107]; with_reducible exact H) | (have H2_ := (Option.bind_some _ _).symm.trans H; rw [hy107]; with_reducible exact H2_) | (have H2_ := (Option.bind_some _ _).symm.trans H; with_reducible exact H2_) | with_reducible exact H | (rw [hy107]; exact H) | exact H
          have Ny107 := Aside0.mk hy107
          clear hy107
          by_cases c14 : (a0.extract 0 ((ji11) : Int).toNat).size + (strOfNums y107).size ≤ 9223372036854775807
          · rw [if_pos c14] at H
            have c14b0 := eq_true c14
            have c14b1 : decide ((a0.extract 0 ((ji11) : Int).toNat).size + (strOfNums y107).size ≤ 9223372036854775807) = true := decide_eq_true c14
            try have c14b2 : (9223372036854775807 < (a0.extract 0 ((ji11) : Int).toNat).size + (strOfNums y107).size) = False := eq_false (Nat.not_lt.2 c14)
            have c15b0 := eq_true (of_decide_eq_true (by first | (with_reducible assumption) | assumption) : 0 ≤ (ji11))
            have c16b0 := eq_true (of_decide_eq_true (by first | (with_reducible assumption) | assumption) : (ji11) ≤ (a0.size : Int))
            by_cases c17 : ((a0.extract 0 ((ji11) : Int).toNat) ++ (strOfNums y107)).size + (a0.extract ((ji11) : Int).toNat a0.size).size ≤ 9223372036854775807
            · rw [if_pos c17] at H
              have c17b0 := eq_true c17
              have c17b1 : decide (((a0.extract 0 ((ji11) : Int).toNat) ++ (strOfNums y107)).size + (a0.extract ((ji11) : Int).toNat a0.size).size ≤ 9223372036854775807) = true := decide_eq_true c17
              try have c17b2 : (9223372036854775807 < ((a0.extract 0 ((ji11) : Int).toNat) ++ (strOfNums y107)).size + (a0.extract ((ji11) : Int).toNat a0.size).size) = False := eq_false (Nat.not_lt.2 c17)
              replace H := Option.bind_eq_some_iff.mp H
              obtain ⟨t110, A180, H⟩ := H
              replace H : (if t101 = true then (if a2.size + a0.size ≤ 9223372036854775807 then (if a2.size + a1.size ≤ 9223372036854775807 then ((measure_Edit.f k (a2 ++ a0) (a2 ++ a1)).bind fun t111 => (if t111 = t106 then (if a0.size + a2.size ≤ 9223372036854775807 then (if a1.size + a2.size ≤ 9223372036854775807 then ((measure_Edit.f k (a0 ++ a2) (a1 ++ a2)).bind fun t112 => (if t112 = t106 then (if t110 ≤ (wrap64 (t106 + 1)) then (some (decide (t110 ≥ (wrap64 (t106 - 1))))) else (some false)) else (some false))) else (none)) else (none)) else (some false))) else (none)) else (none)) else (some false)) = some r := H
              have A18 := Aside0.mk A180
              clear A180
              by_cases c19 : t101 = true
              · subst c19
                have H1 : (if a2.size + a0.size ≤ 9223372036854775807 then (if a2.size + a1.size ≤ 9223372036854775807 then ((measure_Edit.f k (a2 ++ a0) (a2 ++ a1)).bind fun t111 => (if t111 = t106 then (if a0.size + a2.size ≤ 9223372036854775807 then (if a1.size + a2.size ≤ 9223372036854775807 then ((measure_Edit.f k (a0 ++ a2) (a1 ++ a2)).bind fun t112 => (if t112 = t106 then (if t110 ≤ (wrap64 (t106 + 1)) then (some (decide (t110 ≥ (wrap64 (t106 - 1))))) else (some false)) else (some false))) else (none)) else (none)) else (some false))) else (none)) else (none)) = some r := by rw [if_pos rfl] at H; exact H
                clear H
                have H := H1
                clear H1
                by_cases c20 : a2.size + a0.size ≤ 9223372036854775807
                · rw [if_pos c20] at H
                  have c20b0 := eq_true c20
                  have c20b1 : decide (a2.size + a0.size ≤ 9223372036854775807) = true := decide_eq_true c20
                  try have c20b2 : (9223372036854775807 < a2.size + a0.size) = False := eq_false (Nat.not_lt.2 c20)
                  by_cases c21 : a2.size + a1.size ≤ 9223372036854775807
                  · rw [if_pos c21] at H
                    have c21b0 := eq_true c21
                    have c21b1 : decide (a2.size + a1.size ≤ 9223372036854775807) = true := decide_eq_true c21
                    try have c21b2 : (9223372036854775807 < a2.size + a1.size) = False := eq_false (Nat.not_lt.2 c21)
                    replace H := Option.bind_eq_some_iff.mp H
                    obtain ⟨t111, A220, H⟩ := H
                    replace H : (if t111 = t106 then (if a0.size + a2.size ≤ 9223372036854775807 then (if a1.size + a2.size ≤ 9223372036854775807 then ((measure_Edit.f k (a0 ++ a2) (a1 ++ a2)).bind fun t112 => (if t112 = t106 then (if t110 ≤ (wrap64 (t106 + 1)) then (some (decide (t110 ≥ (wrap64 (t106 - 1))))) else (some false)) else (some false))) else (none)) else (none)) else (some false)) = some r := H
                    have A22 := Aside0.mk A220
                    clear A220
                    by_cases c23 : t111 = t106
                    · rw [if_pos c23] at H
                      have c23b0 : (t111 == t106) = true := beq_iff_eq.mpr c23
                      have c23b1 : (t111 != t106) = false := bne_eq_false_iff_eq.mpr c23
                      clear c23
                      by_cases c24 : a0.size + a2.size ≤ 9223372036854775807
                      · rw [if_pos c24] at H
                        have c24b0 := eq_true c24
                        have c24b1 : decide (a0.size + a2.size ≤ 9223372036854775807) = true := decide_eq_true c24
                        try have c24b2 : (9223372036854775807 < a0.size + a2.size) = False := eq_false (Nat.not_lt.2 c24)
                        by_cases c25 : a1.size + a2.size ≤ 9223372036854775807
                        · rw [if_pos c25] at H
                          have c25b0 := eq_true c25
                          have c25b1 : decide (a1.size + a2.size ≤ 9223372036854775807) = true := decide_eq_true c25
                          try have c25b2 : (9223372036854775807 < a1.size + a2.size) = False := eq_false (Nat.not_lt.2 c25)
                          replace H := Option.bind_eq_some_iff.mp H
                          obtain ⟨t112, A260, H⟩ := H
                          replace H : (if t112 = t106 then (if t110 ≤ (wrap64 (t106 + 1)) then (some (decide (t110 ≥ (wrap64 (t106 - 1))))) else (some false)) else (some false)) = some r := H
                          have A26 := Aside0.mk A260
                          clear A260
                          by_cases c27 : t112 = t106
                          · rw [if_pos c27] at H
                            have c27b0 : (t112 == t106) = true := beq_iff_eq.mpr c27
                            have c27b1 : (t112 != t106) = false := bne_eq_false_iff_eq.mpr c27
                            clear c27
                            by_cases c28 : t110 ≤ (wrap64 (t106 + 1))
                            · rw [if_pos c28] at H
                              have c28b0 : decide (t110 ≤ (wrap64 (t106 + 1))) = true := decide_eq_true c28
                              clear c28
                              obtain rfl := Option.some.inj H
                              go_enter Tryd.func5, Tryd.ntmps5
                              try go_wp2_with (first | ((with_reducible refine gate_callee (f := 11) rfl ?_); refine goesL_ (some 15) rfl rfl Tryd.func11 (by kernel_rfl) rfl #[] rfl (by (try simp only [List.map_toArray, List.map_cons, List.map_nil]); first | done | rfl | (simp only [List.length_drop, List.length_take]; rfl) | (simp only [Int.add_zero]; rfl) | (simp; done)) ?_; (with_reducible refine (cleanselaw04_head.calls  true _ ?sGl A6.out).mono ?_); (case sGl => exact Gl.below HGl.out (by repeat (first | (with_reducible first | exact HB.out | apply below_alloc | apply pw_below_drewN | apply below_drew1 | refine below_set ?_ (Aside0.out (by assumption))) | exact HB.out))); rintro e w29 ⟨rfl, hb⟩; refine ⟨_, rfl, ?_⟩; have n0_ := Aside0.mk (below_step (by repeat (first | (with_reducible first | exact HB.out | apply below_alloc | apply pw_below_drewN | apply below_drew1) | exact HB.out)) hb); clear HB; have HB := n0_; clear n0_; (try clear hb); (try clear hb2); (try clear hk); (try clear hi)) | ((with_reducible refine gate_dst (N := 19) rfl ?_); refine Kd.R_lit Kd.string _ 9 ?hg (N := 19) ?hd (xs := ([a0, a1, a2] : List ByteArray)) (inner := [.string a0, .string a1, .string a2]) (ok := fun _ => True) (okp := fun _ => True) ?hr ?hp (fun _ hk => hk) trivial (Below.refl _ _) (Nat.le_refl _) (by simp) ?_; (case hd => rfl); (case hg => rfl); (case hr => first | (go_simp; done) | (go_simp; rfl)); (case hp => exact (Reps.one (show Kd.M Kd.string _ _ _ a0 [.string a0] from rfl) (Reps.one (show Kd.M Kd.string _ _ _ a1 [.string a1] from rfl) (Reps.one (show Kd.M Kd.string _ _ _ a2 [.string a2] from rfl) (Reps.none _ _))))); intro v103 w30 ho31 hb hg_ hnew_; clear hg_ hnew_; (first | rw [← Ny102.out] at ho31 | (simp only [Int.reduceToNat] at ho31; rw [← Ny102.out] at ho31)); have n0_ := Aside0.mk (Kd.R_lower ho31 (below_size (by repeat (first | (with_reducible first | exact HB.out | apply below_alloc | apply pw_below_drewN | apply below_drew1) | exact HB.out)))); have n1_ := Aside0.mk (below_step (by repeat (first | (with_reducible first | exact HB.out | apply below_alloc | apply pw_below_drewN | apply below_drew1) | exact HB.out)) hb); clear HB; have HO104 := n0_; have HB := n1_; clear n0_ n1_; clear hb ho31; obtain ⟨Ao32, co32, eo32⟩ := Kd.R_slice HO104.out; subst eo32) | ((with_reducible refine gate_callee (f := 13) rfl ?_); refine goesL_ (some 20) rfl rfl Tryd.func13 (by kernel_rfl) rfl #[.int .i64 150, .slice Ao32 y102.length co32] rfl (by (try simp only [List.map_toArray, List.map_cons, List.map_nil]); first | done | rfl | (simp only [List.length_drop, List.length_take]; rfl) | (simp only [Int.add_zero]; rfl) | (simp; done)) ?_; (with_reducible refine (cleanseref04_Short.calls k 150 _ _ y102 true _ ?side1 ?side2 A7.out).mono ?_); (case side1 => repeat (first | exact (Kd.R_reads' HO104.out).2.2 | (with_reducible refine Kd.C_alloc ?_ _) | (with_reducible refine Kd.C_drewN ?_ _) | (with_reducible refine Kd.C_drew ?_))); (case side2 => exact (Kd.R_reads' HO104.out).2.1); rintro e w' ⟨rfl, ⟨nd, rfl⟩⟩; refine ⟨_, rfl, ?_⟩) | ((with_reducible refine gate_callee (f := 14) rfl ?_); refine goesL_ (some 25) rfl rfl Tryd.func14 (by kernel_rfl) rfl #[.string a0, .string a1] rfl (by (try simp only [List.map_toArray, List.map_cons, List.map_nil]); first | done | rfl | (simp only [List.length_drop, List.length_take]; rfl) | (simp only [Int.add_zero]; rfl) | (simp; done)) ?_; (with_reducible refine (measure_Edit.calls k a0 a1 t106 _ A9.out).mono ?_); rintro e w33 ⟨rfl, hb⟩; refine ⟨_, rfl, ?_⟩; have n0_ := Aside0.mk (Kd.R_below (by (with_reducible repeat (first | apply Kd.R_alloc | apply Kd.R_drewN | apply Kd.R_drew)); exact HO104.out) hb); have n1_ := Aside0.mk (below_step (by repeat (first | (with_reducible first | exact HB.out | apply below_alloc | apply pw_below_drewN | apply below_drew1) | exact HB.out)) hb); clear HO104; clear HB; have HO104 := n0_; have HB := n1_; clear n0_ n1_; (try clear hb); (try clear hb2); (try clear hk); (try clear hi)))
                              have n0_ := Aside0.mk (Kd.R_drew HO104.out)
                              have n1_ := Aside0.mk (below_drew1 HB.out)
                              clear HO104
                              clear HB
                              have HO104 := n0_
                              have HB := n1_
                              clear n0_ n1_
                              refine start_ (n := 14) (S := fun w' => True) (ds := []) #[false, false, false, false, false, false, false, false, false, false, false, false, false, false] (by kernel_rfl) rfl rfl trivial (fun hHeld => ?_); refine with_tabW cleanselaw04_MeasureParts.tab6 cleanselaw04_MeasureParts.bits6 (fun HT_ HW_ => ?_)
                              generalize w33.drew = w34 at HO104 HB hHeld ⊢
                              refine pure_ (i := 0) (N := some 32) (v := ?_) (a' := ?_) #[true, false, false, false, false, false, false, false, false, false, false, false, false, false] rfl rfl (any_of HT_.out (by kernel_rfl)) (fun _ _ _ h => h) (Or.inl ⟨by rfl, ?_⟩) ?_ ?_
                              rotate_left
                              · intro w'
                                go_simp
                                with_reducible rfl
                              rotate_left
                              · simp only [Act.put, List.setIfInBounds_toArray, List.set_cons_zero, List.set_cons_succ, i64_w, i32_w]
                                rfl
                              refine pure_ (i := 1) (N := some 33) (v := ?_) (a' := ?_) #[true, true, false, false, false, false, false, false, false, false, false, false, false, false] rfl rfl (any_of HT_.out (by kernel_rfl)) (fun _ _ _ h => h) (Or.inl ⟨by rfl, ?_⟩) ?_ ?_
                              rotate_left
                              · intro w'
                                go_simp
                                with_reducible rfl
                              rotate_left
                              · simp only [Act.put, List.setIfInBounds_toArray, List.set_cons_zero, List.set_cons_succ, i64_w, i32_w]
                                rfl
                              refine pure_ (i := 2) (N := some 34) (v := ?_) (a' := ?_) #[true, true, true, false, false, false, false, false, false, false, false, false, false, false] rfl rfl (any_of HT_.out (by kernel_rfl)) (fun _ _ _ h => h) (Or.inl ⟨by rfl, ?_⟩) ?_ ?_
                              rotate_left
                              · intro w'
                                go_simp
                                with_reducible rfl
                              rotate_left
                              · simp only [Act.put, List.setIfInBounds_toArray, List.set_cons_zero, List.set_cons_succ, i64_w, i32_w]
                                rfl
                              refine pure_ (i := 3) (N := some 35) (v := ?_) (a' := ?_) #[true, true, true, true, false, false, false, false, false, false, false, false, false, false] rfl rfl (any_of HT_.out (by kernel_rfl)) (fun _ _ _ h => h) (Or.inl ⟨by rfl, ?_⟩) ?_ ?_
                              rotate_left
                              · intro w'
                                go_simp
                                with_reducible rfl
                              rotate_left
                              · simp only [Act.put, List.setIfInBounds_toArray, List.set_cons_zero, List.set_cons_succ, i64_w, i32_w]
                                rfl
                              refine pure_ (i := 7) (N := some 39) (v := ?_) (a' := ?_) #[true, true, true, true, false, false, false, true, false, false, false, false, false, false] rfl rfl (any_of HT_.out (by kernel_rfl)) (fun _ _ _ h => h) (Or.inl ⟨by rfl, ?_⟩) ?_ ?_
                              rotate_left
                              · intro w'
                                go_simp
                                with_reducible rfl
                              rotate_left
                              · simp only [Act.put, List.setIfInBounds_toArray, List.set_cons_zero, List.set_cons_succ, i64_w, i32_w]
                                rfl
                              refine pure_ (i := 8) (N := some 40) (v := ?_) (a' := ?_) #[true, true, true, true, false, false, false, true, true, false, false, false, false, false] rfl rfl (any_of HT_.out (by kernel_rfl)) (fun _ _ _ h => h) (Or.inl ⟨by rfl, ?_⟩) ?_ ?_
                              rotate_left
                              · intro w'
                                go_simp
                                with_reducible rfl
                              rotate_left
                              · simp only [Act.put, List.setIfInBounds_toArray, List.set_cons_zero, List.set_cons_succ, i64_w, i32_w]
                                rfl
                              refine pure_ (i := 9) (N := some 41) (v := ?_) (a' := ?_) #[true, true, true, true, false, false, false, true, true, true, false, false, false, false] rfl rfl (any_of HT_.out (by kernel_rfl)) (fun _ _ _ h => h) (Or.inl ⟨by rfl, ?_⟩) ?_ ?_
                              rotate_left
                              · intro w'
                                go_simp
                                with_reducible rfl
                              rotate_left
                              · simp only [Act.put, List.setIfInBounds_toArray, List.set_cons_zero, List.set_cons_succ, i64_w, i32_w]
                                rfl
                              refine pure_ (i := 11) (N := some 43) (v := ?_) (a' := ?_) #[true, true, true, true, false, false, false, true, true, true, false, true, false, false] rfl rfl (any_of HT_.out (by kernel_rfl)) (fun _ _ _ h => h) (Or.inl ⟨by rfl, ?_⟩) ?_ ?_
                              rotate_left
                              · intro w'
                                go_simp
                                with_reducible rfl
                              rotate_left
                              · simp only [Act.put, List.setIfInBounds_toArray, List.set_cons_zero, List.set_cons_succ, i64_w, i32_w]
                                rfl
                              refine one_ (i := 4) (N := some 36) #[true, true, true, true, true, false, false, true, true, true, false, true, false, false] rfl rfl (one_of HT_.out (by kernel_rfl)) (by decide) (fun K hK => ?_)
                              refine Kd.R_lit_step (Kd.int .u8) _ 5 ?hg (N := 36) ?hd (xs := ([a4] : List Int)) (inner := [.int .u8 a4]) (ok := fun _ => True) (okp := fun _ => True) ?hr ?hp (fun _ hk => hk) trivial (Below.refl _ _) (Nat.le_refl _) (by simp) ?_; (case hd => rfl); (case hg => rfl); (case hr => first | (go_simp; done) | (go_simp; rfl)); (case hp => exact (Reps.one (show Kd.M (Kd.int .u8) _ _ _ a4 [.int .u8 a4] from rfl) (Reps.none _ _)))
                              intro v108 w35 ho36 hb hg_ hnew_
                              clear hg_ hnew_
                              (first | rw [← Ny107.out] at ho36 | (simp only [Int.reduceToNat] at ho36; rw [← Ny107.out] at ho36))
                              have n0_ := Aside0.mk (Kd.R_below (by (with_reducible repeat (first | apply Kd.R_alloc | apply Kd.R_drewN | apply Kd.R_drew)); exact HO104.out) hb)
                              have n1_ := Aside0.mk (Kd.R_lower ho36 (below_size (by repeat (first | (with_reducible first | exact HB.out | apply below_alloc | apply pw_below_drewN | apply below_drew1) | exact HB.out))))
                              have n2_ := Aside0.mk (below_step (by repeat (first | (with_reducible first | exact HB.out | apply below_alloc | apply pw_below_drewN | apply below_drew1) | exact HB.out)) hb)
                              clear HO104
                              clear HB
                              have HO104 := n0_
                              have HO109 := n1_
                              have HB := n2_
                              clear n0_ n1_ n2_
                              clear hb ho36
                              refine hK.out _ _ trivial (fun hHeld => ?_)
                              clear hK K
                              refine norm_ (a' := ?_) ?_ ?_
                              rotate_left
                              · show Act.put _ (some 36) _ = _
                                simp only [Act.put, List.setIfInBounds_toArray, List.set_cons_zero, List.set_cons_succ, i64_w, i32_w]
                                rfl
                              refine one_ (i := 5) (N := some 37) #[true, true, true, true, true, true, false, true, true, true, false, true, false, false] rfl rfl (one_of HT_.out (by kernel_rfl)) (by decide) (fun K hK => ?_)
                              have hcv37 := own_string (P := Tryd.prog) Tryd.underlying41 Tryd.underlying5 Tryd.underlying9 (Kd.own_of_R HO109.out)
                              refine value_ (w1 := ?_) (v := ?_) (by rfl) rfl ?_ ?_
                              rotate_left 2
                              · go_simp
                                constructor
                                · rfl
                                · rfl
                              clear hcv37
                              refine hK.out _ _ trivial (fun hHeld => ?_)
                              clear hK K
                              refine norm_ (a' := ?_) ?_ ?_
                              rotate_left
                              · show Act.put _ (some 37) _ = _
                                simp only [Act.put, List.setIfInBounds_toArray, List.set_cons_zero, List.set_cons_succ, i64_w, i32_w]
                                rfl
                              refine pure_ (i := 6) (N := some 38) (v := ?_) (a' := ?_) #[true, true, true, true, true, true, true, true, true, true, false, true, false, false] rfl rfl (any_of HT_.out (by kernel_rfl)) (fun _ _ _ h => h) (Or.inl ⟨by rfl, ?_⟩) ?_ ?_
                              rotate_left
                              · intro w'
                                go_simp
                                first | with_reducible rfl | (rw [if_neg (by first | (have hz_ := c14; simp only [ByteArray.size_append, ByteArray.size_extract] at hz_; have h1_ := of_eq_true c13b0; have h2_ := of_eq_true c12b0; omega) | (have hz_ := c17; simp only [ByteArray.size_append, ByteArray.size_extract] at hz_; have h1_ := of_eq_true c13b0; have h2_ := of_eq_true c12b0; omega))])
                              rotate_left
                              · simp only [Act.put, List.setIfInBounds_toArray, List.set_cons_zero, List.set_cons_succ, i64_w, i32_w]
                                rfl
                              refine pure_ (i := 10) (N := some 42) (v := ?_) (a' := ?_) #[true, true, true, true, true, true, true, true, true, true, true, true, false, false] rfl rfl (any_of HT_.out (by kernel_rfl)) (fun _ _ _ h => h) (Or.inl ⟨by rfl, ?_⟩) ?_ ?_
                              rotate_left
                              · intro w'
                                go_simp
                                first | with_reducible rfl | (rw [if_neg (by first | (have hz_ := c14; simp only [ByteArray.size_append, ByteArray.size_extract] at hz_; have h1_ := of_eq_true c13b0; have h2_ := of_eq_true c12b0; omega) | (have hz_ := c17; simp only [ByteArray.size_append, ByteArray.size_extract] at hz_; have h1_ := of_eq_true c13b0; have h2_ := of_eq_true c12b0; omega))])
                              rotate_left
                              · simp only [Act.put, List.setIfInBounds_toArray, List.set_cons_zero, List.set_cons_succ, i64_w, i32_w]
                                rfl
                              refine one_ (i := 12) (N := some 44) #[true, true, true, true, true, true, true, true, true, true, true, true, true, false] rfl rfl (one_of HT_.out (by kernel_rfl)) (by decide) (fun K hK => ?_)
                              refine goes_ Tryd.func14 (by kernel_rfl) rfl #[.string (((a0.extract 0 ((ji11) : Int).toNat) ++ (strOfNums y107)) ++ (a0.extract ((ji11) : Int).toNat a0.size)), .string a1] (by rfl) rfl rfl (by (try simp only [List.map_toArray, List.map_cons, List.map_nil]); first | done | (simp only [hji11]; rfl) | rfl | (simp only [List.length_drop, List.length_take]; rfl) | (simp only [Int.add_zero]; rfl) | (simp; done)) ?_
                              with_reducible refine (measure_Edit.calls k (((a0.extract 0 ((ji11) : Int).toNat) ++ (strOfNums y107)) ++ (a0.extract ((ji11) : Int).toNat a0.size)) a1 t110 _ A18.out).mono ?_
                              rintro e w38 ⟨rfl, hb⟩
                              refine ⟨_, rfl, ?_⟩
                              have n0_ := Aside0.mk (Kd.R_below (by (with_reducible repeat (first | apply Kd.R_alloc | apply Kd.R_drewN | apply Kd.R_drew)); exact HO104.out) hb)
                              have n1_ := Aside0.mk (Kd.R_below (by (with_reducible repeat (first | apply Kd.R_alloc | apply Kd.R_drewN | apply Kd.R_drew)); exact HO109.out) hb)
                              have n2_ := Aside0.mk (below_step (by repeat (first | (with_reducible first | exact HB.out | apply below_alloc | apply pw_below_drewN | apply below_drew1) | exact HB.out)) hb)
                              clear HO104
                              clear HO109
                              clear HB
                              have HO104 := n0_
                              have HO109 := n1_
                              have HB := n2_
                              clear n0_ n1_ n2_
                              (try clear hb)
                              (try clear hb2)
                              (try clear hk)
                              (try clear hi)
                              refine hK.out _ _ trivial (fun hHeld => ?_)
                              clear hK K
                              refine norm_ (a' := ?_) ?_ ?_
                              rotate_left
                              · show Act.put _ (some 44) _ = _
                                simp only [Act.put, List.setIfInBounds_toArray, List.set_cons_zero, List.set_cons_succ, i64_w, i32_w]
                                rfl
                              refine pure_ (i := 13) (N := some 14) (v := ?_) (a' := ?_) #[true, true, true, true, true, true, true, true, true, true, true, true, true, true] rfl rfl (any_of HT_.out (by kernel_rfl)) (fun _ _ _ h => h) (Or.inl ⟨by rfl, ?_⟩) ?_ ?_
                              rotate_left
                              · intro w'
                                go_simp
                                with_reducible rfl
                              rotate_left
                              · simp only [Act.put, List.setIfInBounds_toArray, List.set_cons_zero, List.set_cons_succ, i64_w, i32_w]
                                rfl
                              refine done_ (done_of HT_.out (by kernel_rfl)) ?_
                              try go_wp2_with (first | (go_at_call 14; (with_reducible refine (measure_Edit.calls k (a2 ++ a0) (a2 ++ a1) t111 _ A22.out).mono ?_); rintro e w39 ⟨rfl, hb⟩; have n0_ := Aside0.mk (Kd.R_below (by (with_reducible repeat (first | apply Kd.R_alloc | apply Kd.R_drewN | apply Kd.R_drew)); exact HO104.out) hb); have n1_ := Aside0.mk (Kd.R_below (by (with_reducible repeat (first | apply Kd.R_alloc | apply Kd.R_drewN | apply Kd.R_drew)); exact HO109.out) hb); have n2_ := Aside0.mk (below_step (by repeat (first | (with_reducible first | exact HB.out | apply below_alloc | apply pw_below_drewN | apply below_drew1) | exact HB.out)) hb); clear HO104; clear HO109; clear HB; have HO104 := n0_; have HO109 := n1_; have HB := n2_; clear n0_ n1_ n2_; (try clear hb); (try clear hb2); (try clear hk); (try clear hi)) | (go_at_call 14; (with_reducible refine (measure_Edit.calls k (a0 ++ a2) (a1 ++ a2) t112 _ A26.out).mono ?_); rintro e w40 ⟨rfl, hb⟩; have n0_ := Aside0.mk (Kd.R_below (by (with_reducible repeat (first | apply Kd.R_alloc | apply Kd.R_drewN | apply Kd.R_drew)); exact HO104.out) hb); have n1_ := Aside0.mk (Kd.R_below (by (with_reducible repeat (first | apply Kd.R_alloc | apply Kd.R_drewN | apply Kd.R_drew)); exact HO109.out) hb); have n2_ := Aside0.mk (below_step (by repeat (first | (with_reducible first | exact HB.out | apply below_alloc | apply pw_below_drewN | apply below_drew1) | exact HB.out)) hb); clear HO104; clear HO109; clear HB; have HO104 := n0_; have HO109 := n1_; have HB := n2_; clear n0_ n1_ n2_; (try clear hb); (try clear hb2); (try clear hk); (try clear hi)))
                              go_ret
                              exact ⟨by first | rfl | (simp [errW_none, errW_some] <;> rfl) | (simp only [← hji11]; first | rfl | (simp [errW_none, errW_some] <;> rfl)) | (simp [*, errW_none, errW_some] <;> rfl), by repeat (first | (with_reducible first | exact HB.out | apply below_alloc | apply pw_below_drewN | apply below_drew1) | exact HB.out)⟩
                            · rw [if_neg c28] at H
                              have c28b0 : decide (t110 ≤ (wrap64 (t106 + 1))) = false := decide_eq_false c28
                              clear c28
                              exact absurd ((Option.some.inj H).trans HT.out) (by decide)
                          · rw [if_neg c27] at H
                            have c27b0 : (t112 == t106) = false := beq_eq_false_iff_ne.mpr c27
                            have c27b1 : (t112 != t106) = true := bne_iff_ne.mpr c27
                            exact absurd ((Option.some.inj H).trans HT.out) (by decide)
                        · rw [if_neg c25] at H
                          exact absurd H (by simp)
                      · rw [if_neg c24] at H
                        exact absurd H (by simp)
                    · rw [if_neg c23] at H
                      have c23b0 : (t111 == t106) = false := beq_eq_false_iff_ne.mpr c23
                      have c23b1 : (t111 != t106) = true := bne_iff_ne.mpr c23
                      exact absurd ((Option.some.inj H).trans HT.out) (by decide)
                  · rw [if_neg c21] at H
                    exact absurd H (by simp)
                · rw [if_neg c20] at H
                  exact absurd H (by simp)
              · replace c19 := Bool.eq_false_iff.mpr c19
                subst c19
                have H1 : (some false) = some r := by rw [if_neg (show ¬ (false = true) by decide)] at H; exact H
                clear H
                have H := H1
                clear H1
                exact absurd ((Option.some.inj H).trans HT.out) (by decide)
            · rw [if_neg c17] at H
              exact absurd H (by simp)
          · rw [if_neg c14] at H
            exact absurd H (by simp)
        · rw [if_neg c13] at H
          exact absurd H (by simp)
      · rw [if_neg c12] at H
        exact absurd H (by simp)
  · replace c8 := Bool.eq_false_iff.mpr c8
    subst c8
    have H1 : (some t101) = some r := by rw [if_neg (show ¬ (false = true) by decide)] at H; exact H
    clear H
    have H := H1
    clear H1
    obtain rfl := Option.some.inj H
    go_enter Tryd.func5, Tryd.ntmps5
    go_wp2_with (first | ((with_reducible refine gate_callee (f := 11) rfl ?_); refine goesL_ (some 15) rfl rfl Tryd.func11 (by kernel_rfl) rfl #[] rfl (by (try simp only [List.map_toArray, List.map_cons, List.map_nil]); first | done | rfl | (simp only [List.length_drop, List.length_take]; rfl) | (simp only [Int.add_zero]; rfl) | (simp; done)) ?_; (with_reducible refine (cleanselaw04_head.calls  t101 _ ?sGl A6.out).mono ?_); (case sGl => exact Gl.below HGl.out (by repeat (first | (with_reducible first | exact HB.out | apply below_alloc | apply pw_below_drewN | apply below_drew1 | refine below_set ?_ (Aside0.out (by assumption))) | exact HB.out))); rintro e w41 ⟨rfl, hb⟩; refine ⟨_, rfl, ?_⟩; have n0_ := Aside0.mk (below_step (by repeat (first | (with_reducible first | exact HB.out | apply below_alloc | apply pw_below_drewN | apply below_drew1) | exact HB.out)) hb); clear HB; have HB := n0_; clear n0_; (try clear hb); (try clear hb2); (try clear hk); (try clear hi)) | ((with_reducible refine gate_dst (N := 19) rfl ?_); refine Kd.R_lit Kd.string _ 9 ?hg (N := 19) ?hd (xs := ([a0, a1, a2] : List ByteArray)) (inner := [.string a0, .string a1, .string a2]) (ok := fun _ => True) (okp := fun _ => True) ?hr ?hp (fun _ hk => hk) trivial (Below.refl _ _) (Nat.le_refl _) (by simp) ?_; (case hd => rfl); (case hg => rfl); (case hr => first | (go_simp; done) | (go_simp; rfl)); (case hp => exact (Reps.one (show Kd.M Kd.string _ _ _ a0 [.string a0] from rfl) (Reps.one (show Kd.M Kd.string _ _ _ a1 [.string a1] from rfl) (Reps.one (show Kd.M Kd.string _ _ _ a2 [.string a2] from rfl) (Reps.none _ _))))); intro v103 w42 ho43 hb hg_ hnew_; clear hg_ hnew_; (first | rw [← Ny102.out] at ho43 | (simp only [Int.reduceToNat] at ho43; rw [← Ny102.out] at ho43)); have n0_ := Aside0.mk (Kd.R_lower ho43 (below_size (by repeat (first | (with_reducible first | exact HB.out | apply below_alloc | apply pw_below_drewN | apply below_drew1) | exact HB.out)))); have n1_ := Aside0.mk (below_step (by repeat (first | (with_reducible first | exact HB.out | apply below_alloc | apply pw_below_drewN | apply below_drew1) | exact HB.out)) hb); clear HB; have HO104 := n0_; have HB := n1_; clear n0_ n1_; clear hb ho43; obtain ⟨Ao44, co44, eo44⟩ := Kd.R_slice HO104.out; subst eo44) | ((with_reducible refine gate_callee (f := 13) rfl ?_); refine goesL_ (some 20) rfl rfl Tryd.func13 (by kernel_rfl) rfl #[.int .i64 150, .slice Ao44 y102.length co44] rfl (by (try simp only [List.map_toArray, List.map_cons, List.map_nil]); first | done | rfl | (simp only [List.length_drop, List.length_take]; rfl) | (simp only [Int.add_zero]; rfl) | (simp; done)) ?_; (with_reducible refine (cleanseref04_Short.calls k 150 _ _ y102 false _ ?side1 ?side2 A7.out).mono ?_); (case side1 => repeat (first | exact (Kd.R_reads' HO104.out).2.2 | (with_reducible refine Kd.C_alloc ?_ _) | (with_reducible refine Kd.C_drewN ?_ _) | (with_reducible refine Kd.C_drew ?_))); (case side2 => exact (Kd.R_reads' HO104.out).2.1); rintro e w' ⟨rfl, ⟨nd, rfl⟩⟩; refine ⟨_, rfl, ?_⟩))
    go_ret
    exact ⟨by first | rfl | (simp [errW_none, errW_some] <;> rfl) | (simp [*, errW_none, errW_some] <;> rfl), by repeat (first | (with_reducible first | exact HB.out | apply below_alloc | apply pw_below_drewN | apply below_drew1) | exact HB.out)⟩

/-- THE ONE PURE STATEMENT of cleanselaw04_MeasureParts: yours. -/
def cleanselaw04_MeasureParts.Pure : Prop := ∀ (a0 : ByteArray) (a1 : ByteArray) (a2 : ByteArray) (a3 : Int) (a4 : Int), a0.size ≤ 140737488351232 → a1.size ≤ 140737488351232 → a2.size ≤ 140737488351232 → (Lit.int .u8 a3).wf = true → (Lit.int .u8 a4).wf = true → ∃ k, cleanselaw04_MeasureParts.f k a0 a1 a2 a3 a4 = some true
theorem cleanselaw04_MeasureParts.walk (P : cleanselaw04_MeasureParts.Pure) (a0 : ByteArray) (a1 : ByteArray) (a2 : ByteArray) (a3 : Int) (a4 : Int) (w : World) (hG : Gl w) (w0 : a0.size ≤ 140737488351232) (w1 : a1.size ≤ 140737488351232) (w2 : a2.size ≤ 140737488351232) (w3 : (Lit.int .u8 a3).wf = true) (w4 : (Lit.int .u8 a4).wf = true) :
    Calls Tryd.prog 5 #[.string a0, .string a1, .string a2, .int .u8 a3, .int .u8 a4] w fun e w' => e = .returned (.bool true) ∧ Below w.heap.size w w' := by
  obtain ⟨k, h⟩ := P a0 a1 a2 a3 a4 w0 w1 w2 w3 w4
  refine (cleanselaw04_MeasureParts.calls k a0 a1 a2 a3 a4 true w hG rfl h).mono ?_
  rintro e w' ⟨rfl, hd⟩
  exact ⟨rfl, hd⟩

end Go.Proofs.YtgomlpndoolllaaDoor.LParts

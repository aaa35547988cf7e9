/- Parts of the proof of Nears: words, contracts and plain laws. -/
import Derived.Test.YtgomlpndoolllaaDoorNears11
import Derived.Test.YtgomlpndoolllaaDoorNears12
import Derived.Test.YtgomlpndoolllaaDoorNears13
import Derived.Test.YtgomlpndoolllaaDoorNears22
section
namespace Go.Proofs.YtgomlpndoolllaaDoor.LNears
open Go.RowKit Go.Proofs.YtgomlpndoolllaaDoor.Q Go.Proofs.YtgomlpndoolllaaDoorW.PrintWords Go.Proofs.YtgomlpndoolllaaDoorW.PrintLast Go.Proofs.YtgomlpndoolllaaDoorW.PrintMore
attribute [local go_sem] max2_int min2_int max_two min_two max_three min_three max_four min_four   -- for this text's walks alone
set_option linter.unusedVariables false
set_option linter.unusedSimpArgs false

attribute [local go_sem high] eqA32
/-! ### cleanselaw04_MeasureNears: function 9 -/
def cleanselaw04_MeasureNears.f (k : Nat) (a0 : Int) (a1 : Int) (a2 : Int) (a3 : Int) (a4 : Int) : Option (Bool) := (cleanselaw04_head.f).bind fun t101 => (if (wrap64 (1000000000 - (Int.tmod (wrap64 (a3)) 1000000000))) = 0 then (none) else ((measure_Near.f k (Int.tmod (wrap64 (a0)) 1000000001) (Int.tmod (wrap64 (a1)) 1000000001) (Int.tmod (wrap64 (a3)) 1000000000)).bind fun bt102 => (if (wrap64 ((mx (Int.tmod (wrap64 (a0)) 1000000001) (Int.tmod (wrap64 (a1)) 1000000001)) - (mn (Int.tmod (wrap64 (a0)) 1000000001) (Int.tmod (wrap64 (a1)) 1000000001)))) ≤ (wrap64 ((mx (Int.tmod (wrap64 (a0)) 1000000001) (Int.tmod (wrap64 (a2)) 1000000001)) - (mn (Int.tmod (wrap64 (a0)) 1000000001) (Int.tmod (wrap64 (a2)) 1000000001)))) then ((measure_Near.f k (Int.tmod (wrap64 (a0)) 1000000001) (Int.tmod (wrap64 (a2)) 1000000001) (Int.tmod (wrap64 (a3)) 1000000000)).bind fun bt105 => ((ratio_Cmp.f k bt102.1 bt102.2 bt105.1 bt105.2).bind fun t107 => (if t107 < 0 then (some false) else ((measure_Near.f k (Int.tmod (wrap64 (a0)) 1000000001) (Int.tmod (wrap64 (a1)) 1000000001) (wrap64 ((Int.tmod (wrap64 (a3)) 1000000000) + (Int.tmod (wrap64 (a4)) (wrap64 (1000000000 - (Int.tmod (wrap64 (a3)) 1000000000))))))).bind fun bt108 => ((ratio_Cmp.f k bt108.1 bt108.2 bt102.1 bt102.2).bind fun t110 => (if t110 < 0 then (some false) else (if t101 = true then ((cleanselaw04_of.f 0 1).bind fun bt111 => (some ((!(bt102.1 == bt111.1) || (!(bt102.2 == bt111.2))) == (decide ((wrap64 ((mx (Int.tmod (wrap64 (a0)) 1000000001) (Int.tmod (wrap64 (a1)) 1000000001)) - (mn (Int.tmod (wrap64 (a0)) 1000000001) (Int.tmod (wrap64 (a1)) 1000000001)))) ≤ (Int.tmod (wrap64 (a3)) 1000000000)))))) else (some false)))))))) else ((measure_Near.f k (Int.tmod (wrap64 (a0)) 1000000001) (Int.tmod (wrap64 (a1)) 1000000001) (wrap64 ((Int.tmod (wrap64 (a3)) 1000000000) + (Int.tmod (wrap64 (a4)) (wrap64 (1000000000 - (Int.tmod (wrap64 (a3)) 1000000000))))))).bind fun bt113 => ((ratio_Cmp.f k bt113.1 bt113.2 bt102.1 bt102.2).bind fun t115 => (if t115 < 0 then (some false) else (if t101 = true then ((cleanselaw04_of.f 0 1).bind fun bt116 => (some ((!(bt102.1 == bt116.1) || (!(bt102.2 == bt116.2))) == (decide ((wrap64 ((mx (Int.tmod (wrap64 (a0)) 1000000001) (Int.tmod (wrap64 (a1)) 1000000001)) - (mn (Int.tmod (wrap64 (a0)) 1000000001) (Int.tmod (wrap64 (a1)) 1000000001)))) ≤ (Int.tmod (wrap64 (a3)) 1000000000)))))) else (some false))))))))
def cleanselaw04_MeasureNears.T10 : Bool × List (List Nat × List Nat) := (true, [([], []), ([], []), ([0, 1], [0, 1]), ([2], [2]), ([3], [3]), ([3], [3]), ([3], [3]), ([3], [3]), ([5, 6, 7, 3, 3], [3, 5, 6, 7]), ([4, 8, 8, 3], [3, 4, 8]), ([9, 3], [3, 9]), ([3, 10], [3, 10]), ([11, 9], [11]), ([12], [12]), ([12], [12]), ([12], [12]), ([13, 14, 15, 12, 12], [12, 13, 14, 15]), ([12], [12]), ([16, 17, 16, 12], [12, 16, 17]), ([18, 12], [12, 18]), ([12, 19], [12, 19])])
def cleanselaw04_MeasureNears.B10 : List Nat := [0, 0, 3, 7, 15, 15, 15, 15, 239, 511, 1023, 2047, 4095, 8191, 8191, 8191, 65535, 8191, 262143, 524287, 1048575]
theorem cleanselaw04_MeasureNears.tab10 : rtab .any (opsOf Tryd.f9 10) = cleanselaw04_MeasureNears.T10 := by kernel_rfl
theorem cleanselaw04_MeasureNears.bits10 : waitsOk cleanselaw04_MeasureNears.T10.2 cleanselaw04_MeasureNears.B10 = true := by kernel_rfl
def cleanselaw04_MeasureNears.T12 : Bool × List (List Nat × List Nat) := (true, [([], []), ([0], [0]), ([1], [1]), ([1, 1], [1]), ([2, 3, 1], [1, 2, 3]), ([1], [1]), ([1], [1]), ([5, 6, 1], [1, 5, 6]), ([4, 7, 1], [1, 4, 7]), ([1, 8], [1, 8]), ([9, 3, 0, 1, 2, 3, 4, 5, 6, 7, 8, 9], [9])])
def cleanselaw04_MeasureNears.B12 : List Nat := [0, 1, 3, 3, 15, 3, 3, 99, 255, 511, 1023]
theorem cleanselaw04_MeasureNears.tab12 : rtab .any (opsOf Tryd.f9 12) = cleanselaw04_MeasureNears.T12 := by kernel_rfl
theorem cleanselaw04_MeasureNears.bits12 : waitsOk cleanselaw04_MeasureNears.T12.2 cleanselaw04_MeasureNears.B12 = true := by kernel_rfl
set_option maxHeartbeats 8000000 in
set_option maxRecDepth 100000 in
theorem cleanselaw04_MeasureNears.calls (k : Nat) (a0 : Int) (a1 : Int) (a2 : Int) (a3 : Int) (a4 : Int) (r : Bool) (w : World) (hG : Gl w) (hT : r = true) (h : cleanselaw04_MeasureNears.f k a0 a1 a2 a3 a4 = some r) :
  Calls Tryd.prog 9 #[.int .i32 a0, .int .i32 a1, .int .i32 a2, .int .u32 a3, .int .u32 a4] w fun e w' => e = .returned (.bool r) ∧ Below w.heap.size w w' := by
 have HGl := Aside0.mk hG
 clear hG
 have HT := Aside0.mk hT
 clear hT
 have hu32 := Tryd.underlying32
 have HB := Aside0.mk (Below.refl w.heap.size w)
 have H : ((cleanselaw04_head.f).bind fun t101 => (if (wrap64 (1000000000 - (Int.tmod (wrap64 (a3)) 1000000000))) = 0 then (none) else ((measure_Near.f k (Int.tmod (wrap64 (a0)) 1000000001) (Int.tmod (wrap64 (a1)) 1000000001) (Int.tmod (wrap64 (a3)) 1000000000)).bind fun bt102 => (if (wrap64 ((mx (Int.tmod (wrap64 (a0)) 1000000001) (Int.tmod (wrap64 (a1)) 1000000001)) - (mn (Int.tmod (wrap64 (a0)) 1000000001) (Int.tmod (wrap64 (a1)) 1000000001)))) ≤ (wrap64 ((mx (Int.tmod (wrap64 (a0)) 1000000001) (Int.tmod (wrap64 (a2)) 1000000001)) - (mn (Int.tmod (wrap64 (a0)) 1000000001) (Int.tmod (wrap64 (a2)) 1000000001)))) then ((measure_Near.f k (Int.tmod (wrap64 (a0)) 1000000001) (Int.tmod (wrap64 (a2)) 1000000001) (Int.tmod (wrap64 (a3)) 1000000000)).bind fun bt105 => ((ratio_Cmp.f k bt102.1 bt102.2 bt105.1 bt105.2).bind fun t107 => (if t107 < 0 then (some false) else ((measure_Near.f k (Int.tmod (wrap64 (a0)) 1000000001) (Int.tmod (wrap64 (a1)) 1000000001) (wrap64 ((Int.tmod (wrap64 (a3)) 1000000000) + (Int.tmod (wrap64 (a4)) (wrap64 (1000000000 - (Int.tmod (wrap64 (a3)) 1000000000))))))).bind fun bt108 => ((ratio_Cmp.f k bt108.1 bt108.2 bt102.1 bt102.2).bind fun t110 => (if t110 < 0 then (some false) else (if t101 = true then ((cleanselaw04_of.f 0 1).bind fun bt111 => (some ((!(bt102.1 == bt111.1) || (!(bt102.2 == bt111.2))) == (decide ((wrap64 ((mx (Int.tmod (wrap64 (a0)) 1000000001) (Int.tmod (wrap64 (a1)) 1000000001)) - (mn (Int.tmod (wrap64 (a0)) 1000000001) (Int.tmod (wrap64 (a1)) 1000000001)))) ≤ (Int.tmod (wrap64 (a3)) 1000000000)))))) else (some false)))))))) else ((measure_Near.f k (Int.tmod (wrap64 (a0)) 1000000001) (Int.tmod (wrap64 (a1)) 1000000001) (wrap64 ((Int.tmod (wrap64 (a3)) 1000000000) + (Int.tmod (wrap64 (a4)) (wrap64 (1000000000 - (Int.tmod (wrap64 (a3)) 1000000000))))))).bind fun bt113 => ((ratio_Cmp.f k bt113.1 bt113.2 bt102.1 bt102.2).bind fun t115 => (if t115 < 0 then (some false) else (if t101 = true then ((cleanselaw04_of.f 0 1).bind fun bt116 => (some ((!(bt102.1 == bt116.1) || (!(bt102.2 == bt116.2))) == (decide ((wrap64 ((mx (Int.tmod (wrap64 (a0)) 1000000001) (Int.tmod (wrap64 (a1)) 1000000001)) - (mn (Int.tmod (wrap64 (a0)) 1000000001) (Int.tmod (wrap64 (a1)) 1000000001)))) ≤ (Int.tmod (wrap64 (a3)) 1000000000)))))) else (some false))))))))) = some r := h
 clear h
 replace H := Option.bind_eq_some_iff.mp H
 obtain ⟨t101, A60, H⟩ := H
 replace H : (if (wrap64 (1000000000 - (Int.tmod (wrap64 (a3)) 1000000000))) = 0 then (none) else ((measure_Near.f k (Int.tmod (wrap64 (a0)) 1000000001) (Int.tmod (wrap64 (a1)) 1000000001) (Int.tmod (wrap64 (a3)) 1000000000)).bind fun bt102 => (if (wrap64 ((mx (Int.tmod (wrap64 (a0)) 1000000001) (Int.tmod (wrap64 (a1)) 1000000001)) - (mn (Int.tmod (wrap64 (a0)) 1000000001) (Int.tmod (wrap64 (a1)) 1000000001)))) ≤ (wrap64 ((mx (Int.tmod (wrap64 (a0)) 1000000001) (Int.tmod (wrap64 (a2)) 1000000001)) - (mn (Int.tmod (wrap64 (a0)) 1000000001) (Int.tmod (wrap64 (a2)) 1000000001)))) then ((measure_Near.f k (Int.tmod (wrap64 (a0)) 1000000001) (Int.tmod (wrap64 (a2)) 1000000001) (Int.tmod (wrap64 (a3)) 1000000000)).bind fun bt105 => ((ratio_Cmp.f k bt102.1 bt102.2 bt105.1 bt105.2).bind fun t107 => (if t107 < 0 then (some false) else ((measure_Near.f k (Int.tmod (wrap64 (a0)) 1000000001) (Int.tmod (wrap64 (a1)) 1000000001) (wrap64 ((Int.tmod (wrap64 (a3)) 1000000000) + (Int.tmod (wrap64 (a4)) (wrap64 (1000000000 - (Int.tmod (wrap64 (a3)) 1000000000))))))).bind fun bt108 => ((ratio_Cmp.f k bt108.1 bt108.2 bt102.1 bt102.2).bind fun t110 => (if t110 < 0 then (some false) else (if t101 = true then ((cleanselaw04_of.f 0 1).bind fun bt111 => (some ((!(bt102.1 == bt111.1) || (!(bt102.2 == bt111.2))) == (decide ((wrap64 ((mx (Int.tmod (wrap64 (a0)) 1000000001) (Int.tmod (wrap64 (a1)) 1000000001)) - (mn (Int.tmod (wrap64 (a0)) 1000000001) (Int.tmod (wrap64 (a1)) 1000000001)))) ≤ (Int.tmod (wrap64 (a3)) 1000000000)))))) else (some false)))))))) else ((measure_Near.f k (Int.tmod (wrap64 (a0)) 1000000001) (Int.tmod (wrap64 (a1)) 1000000001) (wrap64 ((Int.tmod (wrap64 (a3)) 1000000000) + (Int.tmod (wrap64 (a4)) (wrap64 (1000000000 - (Int.tmod (wrap64 (a3)) 1000000000))))))).bind fun bt113 => ((ratio_Cmp.f k bt113.1 bt113.2 bt102.1 bt102.2).bind fun t115 => (if t115 < 0 then (some false) else (if t101 = true then ((cleanselaw04_of.f 0 1).bind fun bt116 => (some ((!(bt102.1 == bt116.1) || (!(bt102.2 == bt116.2))) == (decide ((wrap64 ((mx (Int.tmod (wrap64 (a0)) 1000000001) (Int.tmod (wrap64 (a1)) 1000000001)) - (mn (Int.tmod (wrap64 (a0)) 1000000001) (Int.tmod (wrap64 (a1)) 1000000001)))) ≤ (Int.tmod (wrap64 (a3)) 1000000000)))))) else (some false)))))))) = some r := H
 have A6 := Aside0.mk A60
 clear A60
 by_cases c7 : (wrap64 (1000000000 - (Int.tmod (wrap64 (a3)) 1000000000))) = 0
 ·rw [if_pos c7] at H
  exact absurd H (by simp)
 ·rw [if_neg c7] at H
  have c7b0 : ((wrap64 (1000000000 - (Int.tmod (wrap64 (a3)) 1000000000))) == 0) = false := beq_eq_false_iff_ne.mpr c7
  have c7b1 : ((wrap64 (1000000000 - (Int.tmod (wrap64 (a3)) 1000000000))) != 0) = true := bne_iff_ne.mpr c7
  obtain ⟨ji8, hji8⟩ : ∃ j_ : Int, (mx (Int.tmod (wrap64 (a0)) 1000000001) (Int.tmod (wrap64 (a1)) 1000000001)) = j_ := ⟨_, rfl⟩
  replace H : ((measure_Near.f k (Int.tmod (wrap64 (a0)) 1000000001) (Int.tmod (wrap64 (a1)) 1000000001) (Int.tmod (wrap64 (a3)) 1000000000)).bind fun bt102 => (if (wrap64 ((ji8) - (mn (Int.tmod (wrap64 (a0)) 1000000001) (Int.tmod (wrap64 (a1)) 1000000001)))) ≤ (wrap64 ((mx (Int.tmod (wrap64 (a0)) 1000000001) (Int.tmod (wrap64 (a2)) 1000000001)) - (mn (Int.tmod (wrap64 (a0)) 1000000001) (Int.tmod (wrap64 (a2)) 1000000001)))) then ((measure_Near.f k (Int.tmod (wrap64 (a0)) 1000000001) (Int.tmod (wrap64 (a2)) 1000000001) (Int.tmod (wrap64 (a3)) 1000000000)).bind fun bt105 => ((ratio_Cmp.f k bt102.1 bt102.2 bt105.1 bt105.2).bind fun t107 => (if t107 < 0 then (some false) else ((measure_Near.f k (Int.tmod (wrap64 (a0)) 1000000001) (Int.tmod (wrap64 (a1)) 1000000001) (wrap64 ((Int.tmod (wrap64 (a3)) 1000000000) + (Int.tmod (wrap64 (a4)) (wrap64 (1000000000 - (Int.tmod (wrap64 (a3)) 1000000000))))))).bind fun bt108 => ((ratio_Cmp.f k bt108.1 bt108.2 bt102.1 bt102.2).bind fun t110 => (if t110 < 0 then (some false) else (if t101 = true then ((cleanselaw04_of.f 0 1).bind fun bt111 => (some ((!(bt102.1 == bt111.1) || (!(bt102.2 == bt111.2))) == (decide ((wrap64 ((ji8) - (mn (Int.tmod (wrap64 (a0)) 1000000001) (Int.tmod (wrap64 (a1)) 1000000001)))) ≤ (Int.tmod (wrap64 (a3)) 1000000000)))))) else (some false)))))))) else ((measure_Near.f k (Int.tmod (wrap64 (a0)) 1000000001) (Int.tmod (wrap64 (a1)) 1000000001) (wrap64 ((Int.tmod (wrap64 (a3)) 1000000000) + (Int.tmod (wrap64 (a4)) (wrap64 (1000000000 - (Int.tmod (wrap64 (a3)) 1000000000))))))).bind fun bt113 => ((ratio_Cmp.f k bt113.1 bt113.2 bt102.1 bt102.2).bind fun t115 => (if t115 < 0 then (some false) else (if t101 = true then ((cleanselaw04_of.f 0 1).bind fun bt116 => (some ((!(bt102.1 == bt116.1) || (!(bt102.2 == bt116.2))) == (decide ((wrap64 ((ji8) - (mn (Int.tmod (wrap64 (a0)) 1000000001) (Int.tmod (wrap64 (a1)) 1000000001)))) ≤ (Int.tmod (wrap64 (a3)) 1000000000)))))) else (some false))))))) = some r := by (rw [hji8] at H; exact H)
  have hji8_ : (if (Int.tmod (wrap64 (a0)) 1000000001) < (Int.tmod (wrap64 (a1)) 1000000001) then (Int.tmod (wrap64 (a1)) 1000000001) else (Int.tmod (wrap64 (a0)) 1000000001)) = ji8 := hji8
  obtain ⟨ji9, hji9⟩ : ∃ j_ : Int, (mn (Int.tmod (wrap64 (a0)) 1000000001) (Int.tmod (wrap64 (a1)) 1000000001)) = j_ := ⟨_, rfl⟩
  replace H : ((measure_Near.f k (Int.tmod (wrap64 (a0)) 1000000001) (Int.tmod (wrap64 (a1)) 1000000001) (Int.tmod (wrap64 (a3)) 1000000000)).bind fun bt102 => (if (wrap64 ((ji8) - (ji9))) ≤ (wrap64 ((mx (Int.tmod (wrap64 (a0)) 1000000001) (Int.tmod (wrap64 (a2)) 1000000001)) - (mn (Int.tmod (wrap64 (a0)) 1000000001) (Int.tmod (wrap64 (a2)) 1000000001)))) then ((measure_Near.f k (Int.tmod (wrap64 (a0)) 1000000001) (Int.tmod (wrap64 (a2)) 1000000001) (Int.tmod (wrap64 (a3)) 1000000000)).bind fun bt105 => ((ratio_Cmp.f k bt102.1 bt102.2 bt105.1 bt105.2).bind fun t107 => (if t107 < 0 then (some false) else ((measure_Near.f k (Int.tmod (wrap64 (a0)) 1000000001) (Int.tmod (wrap64 (a1)) 1000000001) (wrap64 ((Int.tmod (wrap64 (a3)) 1000000000) + (Int.tmod (wrap64 (a4)) (wrap64 (1000000000 - (Int.tmod (wrap64 (a3)) 1000000000))))))).bind fun bt108 => ((ratio_Cmp.f k bt108.1 bt108.2 bt102.1 bt102.2).bind fun t110 => (if t110 < 0 then (some false) else (if t101 = true then ((cleanselaw04_of.f 0 1).bind fun bt111 => (some ((!(bt102.1 == bt111.1) || (!(bt102.2 == bt111.2))) == (decide ((wrap64 ((ji8) - (ji9))) ≤ (Int.tmod (wrap64 (a3)) 1000000000)))))) else (some false)))))))) else ((measure_Near.f k (Int.tmod (wrap64 (a0)) 1000000001) (Int.tmod (wrap64 (a1)) 1000000001) (wrap64 ((Int.tmod (wrap64 (a3)) 1000000000) + (Int.tmod (wrap64 (a4)) (wrap64 (1000000000 - (Int.tmod (wrap64 (a3)) 1000000000))))))).bind fun bt113 => ((ratio_Cmp.f k bt113.1 bt113.2 bt102.1 bt102.2).bind fun t115 => (if t115 < 0 then (some false) else (if t101 = true then ((cleanselaw04_of.f 0 1).bind fun bt116 => (some ((!(bt102.1 == bt116.1) || (!(bt102.2 == bt116.2))) == (decide ((wrap64 ((ji8) - (ji9))) ≤ (Int.tmod (wrap64 (a3)) 1000000000)))))) else (some false))))))) = some r := by (rw [hji9] at H; exact H)
  have hji9_ : (if (Int.tmod (wrap64 (a1)) 1000000001) < (Int.tmod (wrap64 (a0)) 1000000001) then (Int.tmod (wrap64 (a1)) 1000000001) else (Int.tmod (wrap64 (a0)) 1000000001)) = ji9 := hji9
  obtain ⟨ji10, hji10⟩ : ∃ j_ : Int, (mx (Int.tmod (wrap64 (a0)) 1000000001) (Int.tmod (wrap64 (a2)) 1000000001)) = j_ := ⟨_, rfl⟩
  replace H : ((measure_Near.f k (Int.tmod (wrap64 (a0)) 1000000001) (Int.tmod (wrap64 (a1)) 1000000001) (Int.tmod (wrap64 (a3)) 1000000000)).bind fun bt102 => (if (wrap64 ((ji8) - (ji9))) ≤ (wrap64 ((ji10) - (mn (Int.tmod (wrap64 (a0)) 1000000001) (Int.tmod (wrap64 (a2)) 1000000001)))) then ((measure_Near.f k (Int.tmod (wrap64 (a0)) 1000000001) (Int.tmod (wrap64 (a2)) 1000000001) (Int.tmod (wrap64 (a3)) 1000000000)).bind fun bt105 => ((ratio_Cmp.f k bt102.1 bt102.2 bt105.1 bt105.2).bind fun t107 => (if t107 < 0 then (some false) else ((measure_Near.f k (Int.tmod (wrap64 (a0)) 1000000001) (Int.tmod (wrap64 (a1)) 1000000001) (wrap64 ((Int.tmod (wrap64 (a3)) 1000000000) + (Int.tmod (wrap64 (a4)) (wrap64 (1000000000 - (Int.tmod (wrap64 (a3)) 1000000000))))))).bind fun bt108 => ((ratio_Cmp.f k bt108.1 bt108.2 bt102.1 bt102.2).bind fun t110 => (if t110 < 0 then (some false) else (if t101 = true then ((cleanselaw04_of.f 0 1).bind fun bt111 => (some ((!(bt102.1 == bt111.1) || (!(bt102.2 == bt111.2))) == (decide ((wrap64 ((ji8) - (ji9))) ≤ (Int.tmod (wrap64 (a3)) 1000000000)))))) else (some false)))))))) else ((measure_Near.f k (Int.tmod (wrap64 (a0)) 1000000001) (Int.tmod (wrap64 (a1)) 1000000001) (wrap64 ((Int.tmod (wrap64 (a3)) 1000000000) + (Int.tmod (wrap64 (a4)) (wrap64 (1000000000 - (Int.tmod (wrap64 (a3)) 1000000000))))))).bind fun bt113 => ((ratio_Cmp.f k bt113.1 bt113.2 bt102.1 bt102.2).bind fun t115 => (if t115 < 0 then (some false) else (if t101 = true then ((cleanselaw04_of.f 0 1).bind fun bt116 => (some ((!(bt102.1 == bt116.1) || (!(bt102.2 == bt116.2))) == (decide ((wrap64 ((ji8) - (ji9))) ≤ (Int.tmod (wrap64 (a3)) 1000000000)))))) else (some false))))))) = some r := by (rw [hji10] at H; exact H)
  have hji10_ : (if (Int.tmod (wrap64 (a0)) 1000000001) < (Int.tmod (wrap64 (a2)) 1000000001) then (Int.tmod (wrap64 (a2)) 1000000001) else (Int.tmod (wrap64 (a0)) 1000000001)) = ji10 := hji10
  obtain ⟨ji11, hji11⟩ : ∃ j_ : Int, (mn (Int.tmod (wrap64 (a0)) 1000000001) (Int.tmod (wrap64 (a2)) 1000000001)) = j_ := ⟨_, rfl⟩
  replace H : ((measure_Near.f k (Int.tmod (wrap64 (a0)) 1000000001) (Int.tmod (wrap64 (a1)) 1000000001) (Int.tmod (wrap64 (a3)) 1000000000)).bind fun bt102 => (if (wrap64 ((ji8) - (ji9))) ≤ (wrap64 ((ji10) - (ji11))) then ((measure_Near.f k (Int.tmod (wrap64 (a0)) 1000000001) (Int.tmod (wrap64 (a2)) 1000000001) (Int.tmod (wrap64 (a3)) 1000000000)).bind fun bt105 => ((ratio_Cmp.f k bt102.1 bt102.2 bt105.1 bt105.2).bind fun t107 => (if t107 < 0 then (some false) else ((measure_Near.f k (Int.tmod (wrap64 (a0)) 1000000001) (Int.tmod (wrap64 (a1)) 1000000001) (wrap64 ((Int.tmod (wrap64 (a3)) 1000000000) + (Int.tmod (wrap64 (a4)) (wrap64 (1000000000 - (Int.tmod (wrap64 (a3)) 1000000000))))))).bind fun bt108 => ((ratio_Cmp.f k bt108.1 bt108.2 bt102.1 bt102.2).bind fun t110 => (if t110 < 0 then (some false) else (if t101 = true then ((cleanselaw04_of.f 0 1).bind fun bt111 => (some ((!(bt102.1 == bt111.1) || (!(bt102.2 == bt111.2))) == (decide ((wrap64 ((ji8) - (ji9))) ≤ (Int.tmod (wrap64 (a3)) 1000000000)))))) else (some false)))))))) else ((measure_Near.f k (Int.tmod (wrap64 (a0)) 1000000001) (Int.tmod (wrap64 (a1)) 1000000001) (wrap64 ((Int.tmod (wrap64 (a3)) 1000000000) + (Int.tmod (wrap64 (a4)) (wrap64 (1000000000 - (Int.tmod (wrap64 (a3)) 1000000000))))))).bind fun bt113 => ((ratio_Cmp.f k bt113.1 bt113.2 bt102.1 bt102.2).bind fun t115 => (if t115 < 0 then (some false) else (if t101 = true then ((cleanselaw04_of.f 0 1).bind fun bt116 => (some ((!(bt102.1 == bt116.1) || (!(bt102.2 == bt116.2))) == (decide ((wrap64 ((ji8) - (ji9))) ≤ (Int.tmod (wrap64 (a3)) 1000000000)))))) else (some false))))))) = some r := by (rw [hji11] at H; exact H)
  have hji11_ : (if (Int.tmod (wrap64 (a2)) 1000000001) < (Int.tmod (wrap64 (a0)) 1000000001) then (Int.tmod (wrap64 (a2)) 1000000001) else (Int.tmod (wrap64 (a0)) 1000000001)) = ji11 := hji11
  replace H := Option.bind_eq_some_iff.mp H
  obtain ⟨⟨t102, t103⟩, A120, H⟩ := H
  replace H : (if (wrap64 ((ji8) - (ji9))) ≤ (wrap64 ((ji10) - (ji11))) then ((measure_Near.f k (Int.tmod (wrap64 (a0)) 1000000001) (Int.tmod (wrap64 (a2)) 1000000001) (Int.tmod (wrap64 (a3)) 1000000000)).bind fun bt105 => ((ratio_Cmp.f k t102 t103 bt105.1 bt105.2).bind fun t107 => (if t107 < 0 then (some false) else ((measure_Near.f k (Int.tmod (wrap64 (a0)) 1000000001) (Int.tmod (wrap64 (a1)) 1000000001) (wrap64 ((Int.tmod (wrap64 (a3)) 1000000000) + (Int.tmod (wrap64 (a4)) (wrap64 (1000000000 - (Int.tmod (wrap64 (a3)) 1000000000))))))).bind fun bt108 => ((ratio_Cmp.f k bt108.1 bt108.2 t102 t103).bind fun t110 => (if t110 < 0 then (some false) else (if t101 = true then ((cleanselaw04_of.f 0 1).bind fun bt111 => (some ((!(t102 == bt111.1) || (!(t103 == bt111.2))) == (decide ((wrap64 ((ji8) - (ji9))) ≤ (Int.tmod (wrap64 (a3)) 1000000000)))))) else (some false)))))))) else ((measure_Near.f k (Int.tmod (wrap64 (a0)) 1000000001) (Int.tmod (wrap64 (a1)) 1000000001) (wrap64 ((Int.tmod (wrap64 (a3)) 1000000000) + (Int.tmod (wrap64 (a4)) (wrap64 (1000000000 - (Int.tmod (wrap64 (a3)) 1000000000))))))).bind fun bt113 => ((ratio_Cmp.f k bt113.1 bt113.2 t102 t103).bind fun t115 => (if t115 < 0 then (some false) else (if t101 = true then ((cleanselaw04_of.f 0 1).bind fun bt116 => (some ((!(t102 == bt116.1) || (!(t103 == bt116.2))) == (decide ((wrap64 ((ji8) - (ji9))) ≤ (Int.tmod (wrap64 (a3)) 1000000000)))))) else (some false)))))) = some r := H
  have A12 := Aside0.mk A120
  clear A120
  by_cases c13 : (wrap64 ((ji8) - (ji9))) ≤ (wrap64 ((ji10) - (ji11)))
  ·rw [if_pos c13] at H
   have c13b0 : decide ((wrap64 ((ji8) - (ji9))) ≤ (wrap64 ((ji10) - (ji11)))) = true := decide_eq_true c13
   clear c13
   replace H := Option.bind_eq_some_iff.mp H
   obtain ⟨⟨t105, t106⟩, A140, H⟩ := H
   replace H : ((ratio_Cmp.f k t102 t103 t105 t106).bind fun t107 => (if t107 < 0 then (some false) else ((measure_Near.f k (Int.tmod (wrap64 (a0)) 1000000001) (Int.tmod (wrap64 (a1)) 1000000001) (wrap64 ((Int.tmod (wrap64 (a3)) 1000000000) + (Int.tmod (wrap64 (a4)) (wrap64 (1000000000 - (Int.tmod (wrap64 (a3)) 1000000000))))))).bind fun bt108 => ((ratio_Cmp.f k bt108.1 bt108.2 t102 t103).bind fun t110 => (if t110 < 0 then (some false) else (if t101 = true then ((cleanselaw04_of.f 0 1).bind fun bt111 => (some ((!(t102 == bt111.1) || (!(t103 == bt111.2))) == (decide ((wrap64 ((ji8) - (ji9))) ≤ (Int.tmod (wrap64 (a3)) 1000000000)))))) else (some false))))))) = some r := H
   have A14 := Aside0.mk A140
   clear A140
   replace H := Option.bind_eq_some_iff.mp H
   obtain ⟨t107, A150, H⟩ := H
   replace H : (if t107 < 0 then (some false) else ((measure_Near.f k (Int.tmod (wrap64 (a0)) 1000000001) (Int.tmod (wrap64 (a1)) 1000000001) (wrap64 ((Int.tmod (wrap64 (a3)) 1000000000) + (Int.tmod (wrap64 (a4)) (wrap64 (1000000000 - (Int.tmod (wrap64 (a3)) 1000000000))))))).bind fun bt108 => ((ratio_Cmp.f k bt108.1 bt108.2 t102 t103).bind fun t110 => (if t110 < 0 then (some false) else (if t101 = true then ((cleanselaw04_of.f 0 1).bind fun bt111 => (some ((!(t102 == bt111.1) || (!(t103 == bt111.2))) == (decide ((wrap64 ((ji8) - (ji9))) ≤ (Int.tmod (wrap64 (a3)) 1000000000)))))) else (some false)))))) = some r := H
   have A15 := Aside0.mk A150
   clear A150
   by_cases c16 : t107 < 0
   ·rw [if_pos c16] at H
    have c16b0 : decide (t107 < 0) = true := decide_eq_true c16
    clear c16
    exact absurd ((Option.some.inj H).trans HT.out) (by decide)
   ·rw [if_neg c16] at H
    have c16b0 : decide (t107 < 0) = false := decide_eq_false c16
    clear c16
    replace H := Option.bind_eq_some_iff.mp H
    obtain ⟨⟨t108, t109⟩, A170, H⟩ := H
    replace H : ((ratio_Cmp.f k t108 t109 t102 t103).bind fun t110 => (if t110 < 0 then (some false) else (if t101 = true then ((cleanselaw04_of.f 0 1).bind fun bt111 => (some ((!(t102 == bt111.1) || (!(t103 == bt111.2))) == (decide ((wrap64 ((ji8) - (ji9))) ≤ (Int.tmod (wrap64 (a3)) 1000000000)))))) else (some false)))) = some r := H
    have A17 := Aside0.mk A170
    clear A170
    replace H := Option.bind_eq_some_iff.mp H
    obtain ⟨t110, A180, H⟩ := H
    replace H : (if t110 < 0 then (some false) else (if t101 = true then ((cleanselaw04_of.f 0 1).bind fun bt111 => (some ((!(t102 == bt111.1) || (!(t103 == bt111.2))) == (decide ((wrap64 ((ji8) - (ji9))) ≤ (Int.tmod (wrap64 (a3)) 1000000000)))))) else (some false))) = some r := H
    have A18 := Aside0.mk A180
    clear A180
    by_cases c19 : t110 < 0
    ·rw [if_pos c19] at H
     have c19b0 : decide (t110 < 0) = true := decide_eq_true c19
     clear c19
     exact absurd ((Option.some.inj H).trans HT.out) (by decide)
    ·rw [if_neg c19] at H
     have c19b0 : decide (t110 < 0) = false := decide_eq_false c19
     clear c19
     by_cases c20 : t101 = true
     ·subst c20
      have H1 : ((cleanselaw04_of.f 0 1).bind fun bt111 => (some ((!(t102 == bt111.1) || (!(t103 == bt111.2))) == (decide ((wrap64 ((ji8) - (ji9))) ≤ (Int.tmod (wrap64 (a3)) 1000000000)))))) = some r := by rw [if_pos rfl] at H; exact H
      clear H
      have H := H1
      clear H1
      replace H := Option.bind_eq_some_iff.mp H
      obtain ⟨⟨t111, t112⟩, A210, H⟩ := H
      replace H : (some ((!(t102 == t111) || (!(t103 == t112))) == (decide ((wrap64 ((ji8) - (ji9))) ≤ (Int.tmod (wrap64 (a3)) 1000000000))))) = some r := H
      have A21 := Aside0.mk A210
      clear A210
      obtain rfl := Option.some.inj H
      go_enter Tryd.func9, Tryd.ntmps9
      try go_wp2_with (first | ((with_reducible refine gate_callee (f := 11) rfl ?_); refine goesL_ (some 20) rfl rfl Tryd.func11 (by kernel_rfl) rfl #[] rfl (by (try simp only [List.map_toArray, List.map_cons, List.map_nil]); done) ?_; (with_reducible refine (cleanselaw04_head.calls  true _ ?sGl A6.out).mono ?_); (case sGl => exact Gl.below HGl.out (by repeat ((with_reducible (exact HB.out))))); rintro e w22 ⟨rfl, hb⟩; refine ⟨_, rfl, ?_⟩; have n0_ := Aside0.mk (below_step (by repeat ((with_reducible (exact HB.out)))) hb); clear HB; have HB := n0_; clear n0_; (try clear hb)) | ((with_reducible refine gate_callee (f := 24) rfl ?_); refine goesL_ (some 57) rfl rfl Tryd.func24 (by kernel_rfl) rfl #[.int .i64 (Int.tmod (wrap64 (a0)) 1000000001), .int .i64 (Int.tmod (wrap64 (a1)) 1000000001), .int .i64 (Int.tmod (wrap64 (a3)) 1000000000)] rfl (by (try simp only [List.map_toArray, List.map_cons, List.map_nil]); rfl) ?_; (with_reducible refine (measure_Near.calls k (Int.tmod (wrap64 (a0)) 1000000001) (Int.tmod (wrap64 (a1)) 1000000001) (Int.tmod (wrap64 (a3)) 1000000000) t102 t103 _ ?sGl A12.out).mono ?_); (case sGl => exact Gl.below HGl.out (by repeat ((with_reducible (exact HB.out))))); rintro e w23 ⟨rfl, hb⟩; refine ⟨_, rfl, ?_⟩; have n0_ := Aside0.mk (below_step (by repeat ((with_reducible (exact HB.out)))) hb); clear HB; have HB := n0_; clear n0_; (try clear hb)) | ((with_reducible refine gate_dst (N := 19) rfl ?_); refine box_event ?hg (N := 19) ?hd (cs := #[.int .i64 0, .int .i64 0]) (t := 32) ?hr ?_; (case hd => rfl); (case hg => rfl); (case hr => (go_simp; done)); intro gb104 hg w24 hbox hb; have n0_ := Aside0.mk (below_step (by repeat ((with_reducible (exact HB.out)))) hb); have n1_ := Aside0.mk (hbox); have n2_ := Aside0.mk ((by rw [hg]; exact (below_size (by repeat ((with_reducible (exact HB.out))))) : w.heap.size ≤ gb104)); have n3_ := Aside0.mk ((by rw [hg]; exact (below_size (by repeat ((with_reducible (exact HB.out))))) : w.heap.size ≤ gb104)); clear HB; have HB := n0_; have BK104 := n1_; have GW104 := n2_; have GE104 := n3_; clear n0_ n1_ n2_ n3_; clear hb hbox hg; have hcz25_0 : w24.cell? ⟨gb104, 0, none⟩ = some (.int .i64 0) := (blk_cell BK104.out 0).trans rfl; have hcz25_1 : w24.cell? ⟨gb104, 1, none⟩ = some (.int .i64 0) := (blk_cell BK104.out 1).trans rfl; have hfz25_0 := blk_frozen BK104.out 0; have hfz25_1 := blk_frozen BK104.out 1))
      have n0_ : Aside0 (((w24.setCell ⟨gb104, 0, none⟩ (.int .i64 t102)).setCell ⟨gb104, 1, none⟩ (.int .i64 t103)).heap[gb104]? = some (.cells #[.int .i64 t102, .int .i64 t103] 32 (0, 0))) := ⟨by (with_reducible skip); refine blk_put (cs := #[.int .i64 t102, .int .i64 0]) ?_ 1 _ rfl; (with_reducible skip); refine blk_put (cs := #[.int .i64 0, .int .i64 0]) ?_ 0 _ rfl; (with_reducible skip); exact BK104.out⟩
      have n1_ : Aside0 (Below w.heap.size w ((w24.setCell ⟨gb104, 0, none⟩ (.int .i64 t102)).setCell ⟨gb104, 1, none⟩ (.int .i64 t103))) := ⟨by repeat ((with_reducible first | exact HB.out | refine below_set ?_ GE104.out))⟩
      (try clear BK104)
      (try clear HB)
      generalize ((w24.setCell ⟨gb104, 0, none⟩ (.int .i64 t102)).setCell ⟨gb104, 1, none⟩ (.int .i64 t103)) = w26 at n0_ n1_ ⊢
      have BK104 := n0_
      have HB := n1_
      clear n0_ n1_
      have n0_ := Aside0.mk (blk_drew BK104.out)
      have n1_ := Aside0.mk (below_drew1 HB.out)
      clear BK104
      clear HB
      have BK104 := n0_
      have HB := n1_
      clear n0_ n1_
      refine start_ (n := 21) (S := fun w' => w'.cell? ⟨gb104, 0, none⟩ = some (.int .i64 t102) ∧ w'.cell? ⟨gb104, 1, none⟩ = some (.int .i64 t103)) (ds := []) #[false, false, false, false, false, false, false, false, false, false, false, false, false, false, false, false, false, false, false, false, false] (by kernel_rfl) rfl rfl ⟨(blk_cell BK104.out 0).trans rfl, (blk_cell BK104.out 1).trans rfl⟩ (fun hHeld => ?_); refine with_tabW cleanselaw04_MeasureNears.tab10 cleanselaw04_MeasureNears.bits10 (fun HT_ HW_ => ?_)
      generalize w26.drew = w27 at BK104 HB hHeld ⊢
      refine pure_ (i := 0) (N := some 58) (v := ?_) (a' := ?_) #[true, false, false, false, false, false, false, false, false, false, false, false, false, false, false, false, false, false, false, false, false] rfl rfl (any_of HT_.out (by kernel_rfl)) (fun _ _ _ h => h) (Or.inl ⟨by rfl, ?_⟩) ?_ ?_
      rotate_left
      ·intro w'
       go_simp
       with_reducible rfl
      rotate_left
      ·simp only [Act.put, List.setIfInBounds_toArray, List.set_cons_zero, List.set_cons_succ, i64_w, i32_w]
       rfl
      refine pure_ (i := 1) (N := some 59) (v := ?_) (a' := ?_) #[true, true, false, false, false, false, false, false, false, false, false, false, false, false, false, false, false, false, false, false, false] rfl rfl (any_of HT_.out (by kernel_rfl)) (fun _ _ _ h => h) (Or.inl ⟨by rfl, ?_⟩) ?_ ?_
      rotate_left
      ·intro w'
       go_simp
       with_reducible rfl
      rotate_left
      ·simp only [Act.put, List.setIfInBounds_toArray, List.set_cons_zero, List.set_cons_succ, i64_w, i32_w]
       rfl
      refine pure_ (i := 2) (N := some 60) (v := ?_) (a' := ?_) #[true, true, true, false, false, false, false, false, false, false, false, false, false, false, false, false, false, false, false, false, false] rfl rfl (any_of HT_.out (by kernel_rfl)) (fun _ _ _ h => h) (Or.inl ⟨by rfl, ?_⟩) ?_ ?_
      rotate_left
      ·intro w'
       go_simp
       with_reducible rfl
      rotate_left
      ·simp only [Act.put, List.setIfInBounds_toArray, List.set_cons_zero, List.set_cons_succ, i64_w, i32_w]
       rfl
      refine pure_ (i := 3) (N := some 61) (v := ?_) (a' := ?_) #[true, true, true, true, false, false, false, false, false, false, false, false, false, false, false, false, false, false, false, false, false] rfl rfl (any_of HT_.out (by kernel_rfl)) (fun _ _ _ h => h) (Or.inl ⟨by rfl, ?_⟩) ?_ ?_
      rotate_left
      ·intro w'
       go_simp
       with_reducible rfl
      rotate_left
      ·simp only [Act.put, List.setIfInBounds_toArray, List.set_cons_zero, List.set_cons_succ, i64_w, i32_w]
       rfl
      refine pure_ (i := 5) (N := some 63) (v := ?_) (a' := ?_) #[true, true, true, true, false, true, false, false, false, false, false, false, false, false, false, false, false, false, false, false, false] rfl rfl (any_of HT_.out (by kernel_rfl)) (fun _ _ _ h => h) (Or.inl ⟨by rfl, ?_⟩) ?_ ?_
      rotate_left
      ·intro w'
       go_simp
       with_reducible rfl
      rotate_left
      ·simp only [Act.put, List.setIfInBounds_toArray, List.set_cons_zero, List.set_cons_succ, i64_w, i32_w]
       rfl
      refine pure_ (i := 6) (N := some 64) (v := ?_) (a' := ?_) #[true, true, true, true, false, true, true, false, false, false, false, false, false, false, false, false, false, false, false, false, false] rfl rfl (any_of HT_.out (by kernel_rfl)) (fun _ _ _ h => h) (Or.inl ⟨by rfl, ?_⟩) ?_ ?_
      rotate_left
      ·intro w'
       go_simp
       with_reducible rfl
      rotate_left
      ·simp only [Act.put, List.setIfInBounds_toArray, List.set_cons_zero, List.set_cons_succ, i64_w, i32_w]
       rfl
      refine pure_ (i := 7) (N := some 65) (v := ?_) (a' := ?_) #[true, true, true, true, false, true, true, true, false, false, false, false, false, false, false, false, false, false, false, false, false] rfl rfl (any_of HT_.out (by kernel_rfl)) (fun _ _ _ h => h) (Or.inl ⟨by rfl, ?_⟩) ?_ ?_
      rotate_left
      ·intro w'
       go_simp
       with_reducible rfl
      rotate_left
      ·simp only [Act.put, List.setIfInBounds_toArray, List.set_cons_zero, List.set_cons_succ, i64_w, i32_w]
       rfl
      refine take_ (i := 4) (N := some 62) (v := ?_) (a' := ?_) #[true, true, true, true, true, true, true, true, false, false, false, false, false, false, false, false, false, false, false, false, false] rfl rfl (take_ofW HT_.out HW_.out (by kernel_rfl)) (fun _ _ _ h => h) (Or.inl ⟨by rfl, ?_⟩) hHeld ?_ ?_
      rotate_left
      ·rintro w' ⟨s0, s1⟩
       go_simp
       with_reducible rfl
      rotate_left
      ·simp only [Act.put, List.setIfInBounds_toArray, List.set_cons_zero, List.set_cons_succ, i64_w, i32_w]
       rfl
      refine one_ (i := 8) (N := some 66) #[true, true, true, true, true, true, true, true, true, false, false, false, false, false, false, false, false, false, false, false, false] rfl rfl (one_of HT_.out (by kernel_rfl)) (by decide) (fun K hK => ?_)
      refine goes_ Tryd.func24 (by kernel_rfl) rfl #[.int .i64 (Int.tmod (wrap64 (a0)) 1000000001), .int .i64 (Int.tmod (wrap64 (a2)) 1000000001), .int .i64 (Int.tmod (wrap64 (a3)) 1000000000)] (by rfl) rfl rfl (by (try simp only [List.map_toArray, List.map_cons, List.map_nil]); rfl) ?_
      with_reducible refine (measure_Near.calls k (Int.tmod (wrap64 (a0)) 1000000001) (Int.tmod (wrap64 (a2)) 1000000001) (Int.tmod (wrap64 (a3)) 1000000000) t105 t106 _ ?sGl A14.out).mono ?_
      case sGl => exact Gl.below HGl.out (by repeat ((with_reducible (exact HB.out))))
      rintro e w28 ⟨rfl, hb⟩
      refine ⟨_, rfl, ?_⟩
      have n0_ := Aside0.mk (blk_below (g := gb104) (o := .cells #[.int .i64 t102, .int .i64 t103] 32 (0, 0)) (by (with_reducible skip); exact BK104.out) hb)
      have n1_ := Aside0.mk (below_step (by repeat ((with_reducible (exact HB.out)))) hb)
      clear BK104
      clear HB
      have BK104 := n0_
      have HB := n1_
      clear n0_ n1_
      (try clear hb)
      refine hK.out _ _ ⟨(blk_cell BK104.out 0).trans rfl, (blk_cell BK104.out 1).trans rfl⟩ (fun hHeld => ?_)
      clear hK K
      refine norm_ (a' := ?_) ?_ ?_
      rotate_left
      ·show Act.put _ (some 66) _ = _
       simp only [Act.put, List.setIfInBounds_toArray, List.set_cons_zero, List.set_cons_succ, i64_w, i32_w]
       rfl
      refine one_ (i := 9) (N := some 67) #[true, true, true, true, true, true, true, true, true, true, false, false, false, false, false, false, false, false, false, false, false] rfl rfl (one_of HT_.out (by kernel_rfl)) (by decide) (fun K hK => ?_)
      refine goes_ Tryd.func28 (by kernel_rfl) rfl #[.agg #[.int .i64 t102, .int .i64 t103], .agg #[.int .i64 t105, .int .i64 t106]] (by rfl) rfl rfl (by (try simp only [List.map_toArray, List.map_cons, List.map_nil]); rfl) ?_
      with_reducible refine (ratio_Cmp.calls k t102 t103 t105 t106 t107 _ A15.out).mono ?_
      rintro e w29 ⟨rfl, hb⟩
      refine ⟨_, rfl, ?_⟩
      have n0_ := Aside0.mk (blk_below (g := gb104) (o := .cells #[.int .i64 t102, .int .i64 t103] 32 (0, 0)) (by (with_reducible skip); exact BK104.out) hb)
      have n1_ := Aside0.mk (below_step (by repeat ((with_reducible (exact HB.out)))) hb)
      clear BK104
      clear HB
      have BK104 := n0_
      have HB := n1_
      clear n0_ n1_
      (try clear hb)
      refine hK.out _ _ ⟨(blk_cell BK104.out 0).trans rfl, (blk_cell BK104.out 1).trans rfl⟩ (fun hHeld => ?_)
      clear hK K
      refine norm_ (a' := ?_) ?_ ?_
      rotate_left
      ·show Act.put _ (some 67) _ = _
       simp only [Act.put, List.setIfInBounds_toArray, List.set_cons_zero, List.set_cons_succ, i64_w, i32_w]
       rfl
      refine pure_ (i := 10) (N := some 68) (v := ?_) (a' := ?_) #[true, true, true, true, true, true, true, true, true, true, true, false, false, false, false, false, false, false, false, false, false] rfl rfl (any_of HT_.out (by kernel_rfl)) (fun _ _ _ h => h) (Or.inl ⟨by rfl, ?_⟩) ?_ ?_
      rotate_left
      ·intro w'
       go_simp
       with_reducible rfl
      rotate_left
      ·simp only [Act.put, List.setIfInBounds_toArray, List.set_cons_zero, List.set_cons_succ, i64_w, i32_w]
       rfl
      refine pure_ (i := 11) (N := some 69) (v := ?_) (a' := ?_) #[true, true, true, true, true, true, true, true, true, true, true, true, false, false, false, false, false, false, false, false, false] rfl rfl (any_of HT_.out (by kernel_rfl)) (fun _ _ _ h => h) (Or.inl ⟨by rfl, ?_⟩) ?_ ?_
      rotate_left
      ·intro w'
       go_simp
       with_reducible rfl
      rotate_left
      ·simp only [Act.put, List.setIfInBounds_toArray, List.set_cons_zero, List.set_cons_succ, i64_w, i32_w]
       rfl
      refine pure_ (i := 12) (N := some 70) (v := ?_) (a' := ?_) #[true, true, true, true, true, true, true, true, true, true, true, true, true, false, false, false, false, false, false, false, false] rfl rfl (any_of HT_.out (by kernel_rfl)) (fun _ _ _ h => h) (Or.inl ⟨by rfl, ?_⟩) ?_ ?_
      rotate_left
      ·intro w'
       go_simp
       with_reducible rfl
      rotate_left
      ·simp only [Act.put, List.setIfInBounds_toArray, List.set_cons_zero, List.set_cons_succ, i64_w, i32_w]
       rfl
      refine pure_ (i := 13) (N := some 71) (v := ?_) (a' := ?_) #[true, true, true, true, true, true, true, true, true, true, true, true, true, true, false, false, false, false, false, false, false] rfl rfl (any_of HT_.out (by kernel_rfl)) (fun _ _ _ h => h) (Or.inl ⟨by rfl, ?_⟩) ?_ ?_
      rotate_left
      ·intro w'
       go_simp
       with_reducible rfl
      rotate_left
      ·simp only [Act.put, List.setIfInBounds_toArray, List.set_cons_zero, List.set_cons_succ, i64_w, i32_w]
       rfl
      refine pure_ (i := 14) (N := some 72) (v := ?_) (a' := ?_) #[true, true, true, true, true, true, true, true, true, true, true, true, true, true, true, false, false, false, false, false, false] rfl rfl (any_of HT_.out (by kernel_rfl)) (fun _ _ _ h => h) (Or.inl ⟨by rfl, ?_⟩) ?_ ?_
      rotate_left
      ·intro w'
       go_simp
       with_reducible rfl
      rotate_left
      ·simp only [Act.put, List.setIfInBounds_toArray, List.set_cons_zero, List.set_cons_succ, i64_w, i32_w]
       rfl
      refine pure_ (i := 15) (N := some 73) (v := ?_) (a' := ?_) #[true, true, true, true, true, true, true, true, true, true, true, true, true, true, true, true, false, false, false, false, false] rfl rfl (any_of HT_.out (by kernel_rfl)) (fun _ _ _ h => h) (Or.inl ⟨by rfl, ?_⟩) ?_ ?_
      rotate_left
      ·intro w'
       go_simp
       with_reducible rfl
      rotate_left
      ·simp only [Act.put, List.setIfInBounds_toArray, List.set_cons_zero, List.set_cons_succ, i64_w, i32_w]
       rfl
      refine take_ (i := 17) (N := some 75) (v := ?_) (a' := ?_) #[true, true, true, true, true, true, true, true, true, true, true, true, true, true, true, true, false, true, false, false, false] rfl rfl (take_ofW HT_.out HW_.out (by kernel_rfl)) (fun _ _ _ h => h) (Or.inl ⟨by rfl, ?_⟩) hHeld ?_ ?_
      rotate_left
      ·rintro w' ⟨s0, s1⟩
       go_simp
       with_reducible rfl
      rotate_left
      ·simp only [Act.put, List.setIfInBounds_toArray, List.set_cons_zero, List.set_cons_succ, i64_w, i32_w]
       rfl
      refine one_ (i := 16) (N := some 74) #[true, true, true, true, true, true, true, true, true, true, true, true, true, true, true, true, true, true, false, false, false] rfl rfl (one_of HT_.out (by kernel_rfl)) (by decide) (fun K hK => ?_)
      refine goes_ Tryd.func24 (by kernel_rfl) rfl #[.int .i64 (Int.tmod (wrap64 (a0)) 1000000001), .int .i64 (Int.tmod (wrap64 (a1)) 1000000001), .int .i64 (wrap64 ((Int.tmod (wrap64 (a3)) 1000000000) + (Int.tmod (wrap64 (a4)) (wrap64 (1000000000 - (Int.tmod (wrap64 (a3)) 1000000000))))))] (by rfl) rfl rfl (by (try simp only [List.map_toArray, List.map_cons, List.map_nil]); rfl) ?_
      with_reducible refine (measure_Near.calls k (Int.tmod (wrap64 (a0)) 1000000001) (Int.tmod (wrap64 (a1)) 1000000001) (wrap64 ((Int.tmod (wrap64 (a3)) 1000000000) + (Int.tmod (wrap64 (a4)) (wrap64 (1000000000 - (Int.tmod (wrap64 (a3)) 1000000000)))))) t108 t109 _ ?sGl A17.out).mono ?_
      case sGl => exact Gl.below HGl.out (by repeat ((with_reducible (exact HB.out))))
      rintro e w30 ⟨rfl, hb⟩
      refine ⟨_, rfl, ?_⟩
      have n0_ := Aside0.mk (blk_below (g := gb104) (o := .cells #[.int .i64 t102, .int .i64 t103] 32 (0, 0)) (by (with_reducible skip); exact BK104.out) hb)
      have n1_ := Aside0.mk (below_step (by repeat ((with_reducible (exact HB.out)))) hb)
      clear BK104
      clear HB
      have BK104 := n0_
      have HB := n1_
      clear n0_ n1_
      (try clear hb)
      refine hK.out _ _ ⟨(blk_cell BK104.out 0).trans rfl, (blk_cell BK104.out 1).trans rfl⟩ (fun hHeld => ?_)
      clear hK K
      refine norm_ (a' := ?_) ?_ ?_
      rotate_left
      ·show Act.put _ (some 74) _ = _
       simp only [Act.put, List.setIfInBounds_toArray, List.set_cons_zero, List.set_cons_succ, i64_w, i32_w]
       rfl
      refine one_ (i := 18) (N := some 76) #[true, true, true, true, true, true, true, true, true, true, true, true, true, true, true, true, true, true, true, false, false] rfl rfl (one_of HT_.out (by kernel_rfl)) (by decide) (fun K hK => ?_)
      refine goes_ Tryd.func28 (by kernel_rfl) rfl #[.agg #[.int .i64 t108, .int .i64 t109], .agg #[.int .i64 t102, .int .i64 t103]] (by rfl) rfl rfl (by (try simp only [List.map_toArray, List.map_cons, List.map_nil]); rfl) ?_
      with_reducible refine (ratio_Cmp.calls k t108 t109 t102 t103 t110 _ A18.out).mono ?_
      rintro e w31 ⟨rfl, hb⟩
      refine ⟨_, rfl, ?_⟩
      have n0_ := Aside0.mk (blk_below (g := gb104) (o := .cells #[.int .i64 t102, .int .i64 t103] 32 (0, 0)) (by (with_reducible skip); exact BK104.out) hb)
      have n1_ := Aside0.mk (below_step (by repeat ((with_reducible (exact HB.out)))) hb)
      clear BK104
      clear HB
      have BK104 := n0_
      have HB := n1_
      clear n0_ n1_
      (try clear hb)
      refine hK.out _ _ ⟨(blk_cell BK104.out 0).trans rfl, (blk_cell BK104.out 1).trans rfl⟩ (fun hHeld => ?_)
      clear hK K
      refine norm_ (a' := ?_) ?_ ?_
      rotate_left
      ·show Act.put _ (some 76) _ = _
       simp only [Act.put, List.setIfInBounds_toArray, List.set_cons_zero, List.set_cons_succ, i64_w, i32_w]
       rfl
      refine pure_ (i := 19) (N := some 77) (v := ?_) (a' := ?_) #[true, true, true, true, true, true, true, true, true, true, true, true, true, true, true, true, true, true, true, true, false] rfl rfl (any_of HT_.out (by kernel_rfl)) (fun _ _ _ h => h) (Or.inl ⟨by rfl, ?_⟩) ?_ ?_
      rotate_left
      ·intro w'
       go_simp
       with_reducible rfl
      rotate_left
      ·simp only [Act.put, List.setIfInBounds_toArray, List.set_cons_zero, List.set_cons_succ, i64_w, i32_w]
       rfl
      refine pure_ (i := 20) (N := some 78) (v := ?_) (a' := ?_) #[true, true, true, true, true, true, true, true, true, true, true, true, true, true, true, true, true, true, true, true, true] rfl rfl (any_of HT_.out (by kernel_rfl)) (fun _ _ _ h => h) (Or.inl ⟨by rfl, ?_⟩) ?_ ?_
      rotate_left
      ·intro w'
       go_simp
       with_reducible rfl
      rotate_left
      ·simp only [Act.put, List.setIfInBounds_toArray, List.set_cons_zero, List.set_cons_succ, i64_w, i32_w]
       rfl
      refine done_ (done_of HT_.out (by kernel_rfl)) ?_
      try go_wp2
      have n0_ := Aside0.mk (blk_drew BK104.out)
      have n1_ := Aside0.mk (below_drew1 HB.out)
      clear BK104
      clear HB
      have BK104 := n0_
      have HB := n1_
      clear n0_ n1_
      refine start_ (n := 11) (S := fun w' => w'.cell? ⟨gb104, 0, none⟩ = some (.int .i64 t102) ∧ w'.cell? ⟨gb104, 1, none⟩ = some (.int .i64 t103)) (ds := []) #[false, false, false, false, false, false, false, false, false, false, false] (by kernel_rfl) rfl rfl ⟨(blk_cell BK104.out 0).trans rfl, (blk_cell BK104.out 1).trans rfl⟩ (fun hHeld => ?_); refine with_tabW cleanselaw04_MeasureNears.tab12 cleanselaw04_MeasureNears.bits12 (fun HT_ HW_ => ?_)
      generalize w31.drew = w32 at BK104 HB hHeld ⊢
      refine pure_ (i := 0) (N := some 79) (v := ?_) (a' := ?_) #[true, false, false, false, false, false, false, false, false, false, false] rfl rfl (any_of HT_.out (by kernel_rfl)) (fun _ _ _ h => h) (Or.inl ⟨by rfl, ?_⟩) ?_ ?_
      rotate_left
      ·intro w'
       go_simp
       with_reducible rfl
      rotate_left
      ·simp only [Act.put, List.setIfInBounds_toArray, List.set_cons_zero, List.set_cons_succ, i64_w, i32_w]
       rfl
      refine pure_ (i := 1) (N := some 80) (v := ?_) (a' := ?_) #[true, true, false, false, false, false, false, false, false, false, false] rfl rfl (any_of HT_.out (by kernel_rfl)) (fun _ _ _ h => h) (Or.inl ⟨by rfl, ?_⟩) ?_ ?_
      rotate_left
      ·intro w'
       go_simp
       with_reducible rfl
      rotate_left
      ·simp only [Act.put, List.setIfInBounds_toArray, List.set_cons_zero, List.set_cons_succ, i64_w, i32_w]
       rfl
      refine pure_ (i := 5) (N := some 84) (v := ?_) (a' := ?_) #[true, true, false, false, false, true, false, false, false, false, false] rfl rfl (any_of HT_.out (by kernel_rfl)) (fun _ _ _ h => h) (Or.inl ⟨by rfl, ?_⟩) ?_ ?_
      rotate_left
      ·intro w'
       go_simp
       with_reducible rfl
      rotate_left
      ·simp only [Act.put, List.setIfInBounds_toArray, List.set_cons_zero, List.set_cons_succ, i64_w, i32_w]
       rfl
      refine pure_ (i := 6) (N := some 85) (v := ?_) (a' := ?_) #[true, true, false, false, false, true, true, false, false, false, false] rfl rfl (any_of HT_.out (by kernel_rfl)) (fun _ _ _ h => h) (Or.inl ⟨by rfl, ?_⟩) ?_ ?_
      rotate_left
      ·intro w'
       go_simp
       with_reducible rfl
      rotate_left
      ·simp only [Act.put, List.setIfInBounds_toArray, List.set_cons_zero, List.set_cons_succ, i64_w, i32_w]
       rfl
      refine pure_ (i := 7) (N := some 86) (v := ?_) (a' := ?_) #[true, true, false, false, false, true, true, true, false, false, false] rfl rfl (any_of HT_.out (by kernel_rfl)) (fun _ _ _ h => h) (Or.inl ⟨by rfl, ?_⟩) ?_ ?_
      rotate_left
      ·intro w'
       go_simp
       with_reducible rfl
      rotate_left
      ·simp only [Act.put, List.setIfInBounds_toArray, List.set_cons_zero, List.set_cons_succ, i64_w, i32_w]
       rfl
      refine take_ (i := 2) (N := some 81) (v := ?_) (a' := ?_) #[true, true, true, false, false, true, true, true, false, false, false] rfl rfl (take_ofW HT_.out HW_.out (by kernel_rfl)) (fun _ _ _ h => h) (Or.inl ⟨by rfl, ?_⟩) hHeld ?_ ?_
      rotate_left
      ·rintro w' ⟨s0, s1⟩
       go_simp
       with_reducible rfl
      rotate_left
      ·simp only [Act.put, List.setIfInBounds_toArray, List.set_cons_zero, List.set_cons_succ, i64_w, i32_w]
       rfl
      refine one_ (i := 3) (N := some 82) #[true, true, true, true, false, true, true, true, false, false, false] rfl rfl (one_of HT_.out (by kernel_rfl)) (by decide) (fun K hK => ?_)
      refine goes_ Tryd.func27 (by kernel_rfl) rfl #[.int .i64 0, .int .i64 1] (by rfl) rfl rfl (by (try simp only [List.map_toArray, List.map_cons, List.map_nil]); rfl) ?_
      with_reducible refine (cleanselaw04_of.calls 0 1 t111 t112 _ A21.out).mono ?_
      rintro e w33 ⟨rfl, hb⟩
      refine ⟨_, rfl, ?_⟩
      have n0_ := Aside0.mk (blk_below (g := gb104) (o := .cells #[.int .i64 t102, .int .i64 t103] 32 (0, 0)) (by (with_reducible skip); exact BK104.out) hb)
      have n1_ := Aside0.mk (below_step (by repeat ((with_reducible (exact HB.out)))) hb)
      clear BK104
      clear HB
      have BK104 := n0_
      have HB := n1_
      clear n0_ n1_
      (try clear hb)
      refine hK.out _ _ ⟨(blk_cell BK104.out 0).trans rfl, (blk_cell BK104.out 1).trans rfl⟩ (fun hHeld => ?_)
      clear hK K
      refine norm_ (a' := ?_) ?_ ?_
      rotate_left
      ·show Act.put _ (some 82) _ = _
       simp only [Act.put, List.setIfInBounds_toArray, List.set_cons_zero, List.set_cons_succ, i64_w, i32_w]
       rfl
      refine pure_ (i := 4) (N := some 83) (v := ?_) (a' := ?_) #[true, true, true, true, true, true, true, true, false, false, false] rfl rfl (any_of HT_.out (by kernel_rfl)) (fun _ _ _ h => h) (Or.inl ⟨by rfl, ?_⟩) ?_ ?_
      rotate_left
      ·intro w'
       go_simp
       with_reducible rfl
      rotate_left
      ·simp only [Act.put, List.setIfInBounds_toArray, List.set_cons_zero, List.set_cons_succ, i64_w, i32_w]
       rfl
      refine pure_ (i := 8) (N := some 87) (v := ?_) (a' := ?_) #[true, true, true, true, true, true, true, true, true, false, false] rfl rfl (any_of HT_.out (by kernel_rfl)) (fun _ _ _ h => h) (Or.inl ⟨by rfl, ?_⟩) ?_ ?_
      rotate_left
      ·intro w'
       go_simp
       with_reducible rfl
      rotate_left
      ·simp only [Act.put, List.setIfInBounds_toArray, List.set_cons_zero, List.set_cons_succ, i64_w, i32_w]
       rfl
      refine pure_ (i := 9) (N := some 88) (v := ?_) (a' := ?_) #[true, true, true, true, true, true, true, true, true, true, false] rfl rfl (any_of HT_.out (by kernel_rfl)) (fun _ _ _ h => h) (Or.inl ⟨by rfl, ?_⟩) ?_ ?_
      rotate_left
      ·intro w'
       go_simp
       with_reducible rfl
      rotate_left
      ·simp only [Act.put, List.setIfInBounds_toArray, List.set_cons_zero, List.set_cons_succ, i64_w, i32_w]
       rfl
      refine pure_ (i := 10) (N := some 10) (v := ?_) (a' := ?_) #[true, true, true, true, true, true, true, true, true, true, true] rfl rfl (any_of HT_.out (by kernel_rfl)) (fun _ _ _ h => h) (Or.inl ⟨by rfl, ?_⟩) ?_ ?_
      rotate_left
      ·intro w'
       go_simp
       with_reducible rfl
      rotate_left
      ·simp only [Act.put, List.setIfInBounds_toArray, List.set_cons_zero, List.set_cons_succ, i64_w, i32_w]
       rfl
      refine done_ (done_of HT_.out (by kernel_rfl)) ?_
      try go_wp2
      go_ret
      exact ⟨by rfl, by repeat ((with_reducible (exact HB.out)))⟩
     ·replace c20 := Bool.eq_false_iff.mpr c20
      subst c20
      have H1 : (some false) = some r := by rw [if_neg (show ¬ (false = true) by decide)] at H; exact H
      clear H
      have H := H1
      clear H1
      exact absurd ((Option.some.inj H).trans HT.out) (by decide)
  ·rw [if_neg c13] at H
   have c13b0 : decide ((wrap64 ((ji8) - (ji9))) ≤ (wrap64 ((ji10) - (ji11)))) = false := decide_eq_false c13
   clear c13
   replace H := Option.bind_eq_some_iff.mp H
   obtain ⟨⟨t113, t114⟩, A340, H⟩ := H
   replace H : ((ratio_Cmp.f k t113 t114 t102 t103).bind fun t115 => (if t115 < 0 then (some false) else (if t101 = true then ((cleanselaw04_of.f 0 1).bind fun bt116 => (some ((!(t102 == bt116.1) || (!(t103 == bt116.2))) == (decide ((wrap64 ((ji8) - (ji9))) ≤ (Int.tmod (wrap64 (a3)) 1000000000)))))) else (some false)))) = some r := H
   have A34 := Aside0.mk A340
   clear A340
   replace H := Option.bind_eq_some_iff.mp H
   obtain ⟨t115, A350, H⟩ := H
   replace H : (if t115 < 0 then (some false) else (if t101 = true then ((cleanselaw04_of.f 0 1).bind fun bt116 => (some ((!(t102 == bt116.1) || (!(t103 == bt116.2))) == (decide ((wrap64 ((ji8) - (ji9))) ≤ (Int.tmod (wrap64 (a3)) 1000000000)))))) else (some false))) = some r := H
   have A35 := Aside0.mk A350
   clear A350
   by_cases c36 : t115 < 0
   ·rw [if_pos c36] at H
    have c36b0 : decide (t115 < 0) = true := decide_eq_true c36
    clear c36
    exact absurd ((Option.some.inj H).trans HT.out) (by decide)
   ·rw [if_neg c36] at H
    have c36b0 : decide (t115 < 0) = false := decide_eq_false c36
    clear c36
    by_cases c37 : t101 = true
    ·subst c37
     have H1 : ((cleanselaw04_of.f 0 1).bind fun bt116 => (some ((!(t102 == bt116.1) || (!(t103 == bt116.2))) == (decide ((wrap64 ((ji8) - (ji9))) ≤ (Int.tmod (wrap64 (a3)) 1000000000)))))) = some r := by rw [if_pos rfl] at H; exact H
     clear H
     have H := H1
     clear H1
     replace H := Option.bind_eq_some_iff.mp H
     obtain ⟨⟨t116, t117⟩, A380, H⟩ := H
     replace H : (some ((!(t102 == t116) || (!(t103 == t117))) == (decide ((wrap64 ((ji8) - (ji9))) ≤ (Int.tmod (wrap64 (a3)) 1000000000))))) = some r := H
     have A38 := Aside0.mk A380
     clear A380
     obtain rfl := Option.some.inj H
     go_enter Tryd.func9, Tryd.ntmps9
     try go_wp2_with (first | ((with_reducible refine gate_callee (f := 11) rfl ?_); refine goesL_ (some 20) rfl rfl Tryd.func11 (by kernel_rfl) rfl #[] rfl (by (try simp only [List.map_toArray, List.map_cons, List.map_nil]); done) ?_; (with_reducible refine (cleanselaw04_head.calls  true _ ?sGl A6.out).mono ?_); (case sGl => exact Gl.below HGl.out (by repeat ((with_reducible (exact HB.out))))); rintro e w39 ⟨rfl, hb⟩; refine ⟨_, rfl, ?_⟩; have n0_ := Aside0.mk (below_step (by repeat ((with_reducible (exact HB.out)))) hb); clear HB; have HB := n0_; clear n0_; (try clear hb)) | ((with_reducible refine gate_callee (f := 24) rfl ?_); refine goesL_ (some 57) rfl rfl Tryd.func24 (by kernel_rfl) rfl #[.int .i64 (Int.tmod (wrap64 (a0)) 1000000001), .int .i64 (Int.tmod (wrap64 (a1)) 1000000001), .int .i64 (Int.tmod (wrap64 (a3)) 1000000000)] rfl (by (try simp only [List.map_toArray, List.map_cons, List.map_nil]); rfl) ?_; (with_reducible refine (measure_Near.calls k (Int.tmod (wrap64 (a0)) 1000000001) (Int.tmod (wrap64 (a1)) 1000000001) (Int.tmod (wrap64 (a3)) 1000000000) t102 t103 _ ?sGl A12.out).mono ?_); (case sGl => exact Gl.below HGl.out (by repeat ((with_reducible (exact HB.out))))); rintro e w40 ⟨rfl, hb⟩; refine ⟨_, rfl, ?_⟩; have n0_ := Aside0.mk (below_step (by repeat ((with_reducible (exact HB.out)))) hb); clear HB; have HB := n0_; clear n0_; (try clear hb)) | ((with_reducible refine gate_dst (N := 19) rfl ?_); refine box_event ?hg (N := 19) ?hd (cs := #[.int .i64 0, .int .i64 0]) (t := 32) ?hr ?_; (case hd => rfl); (case hg => rfl); (case hr => (go_simp; done)); intro gb104 hg w41 hbox hb; have n0_ := Aside0.mk (below_step (by repeat ((with_reducible (exact HB.out)))) hb); have n1_ := Aside0.mk (hbox); have n2_ := Aside0.mk ((by rw [hg]; exact (below_size (by repeat ((with_reducible (exact HB.out))))) : w.heap.size ≤ gb104)); have n3_ := Aside0.mk ((by rw [hg]; exact (below_size (by repeat ((with_reducible (exact HB.out))))) : w.heap.size ≤ gb104)); clear HB; have HB := n0_; have BK104 := n1_; have GW104 := n2_; have GE104 := n3_; clear n0_ n1_ n2_ n3_; clear hb hbox hg; have hcz42_0 : w41.cell? ⟨gb104, 0, none⟩ = some (.int .i64 0) := (blk_cell BK104.out 0).trans rfl; have hcz42_1 : w41.cell? ⟨gb104, 1, none⟩ = some (.int .i64 0) := (blk_cell BK104.out 1).trans rfl; have hfz42_0 := blk_frozen BK104.out 0; have hfz42_1 := blk_frozen BK104.out 1))
     have n0_ : Aside0 (((w41.setCell ⟨gb104, 0, none⟩ (.int .i64 t102)).setCell ⟨gb104, 1, none⟩ (.int .i64 t103)).heap[gb104]? = some (.cells #[.int .i64 t102, .int .i64 t103] 32 (0, 0))) := ⟨by (with_reducible skip); refine blk_put (cs := #[.int .i64 t102, .int .i64 0]) ?_ 1 _ rfl; (with_reducible skip); refine blk_put (cs := #[.int .i64 0, .int .i64 0]) ?_ 0 _ rfl; (with_reducible skip); exact BK104.out⟩
     have n1_ : Aside0 (Below w.heap.size w ((w41.setCell ⟨gb104, 0, none⟩ (.int .i64 t102)).setCell ⟨gb104, 1, none⟩ (.int .i64 t103))) := ⟨by repeat ((with_reducible first | exact HB.out | refine below_set ?_ GE104.out))⟩
     (try clear BK104)
     (try clear HB)
     generalize ((w41.setCell ⟨gb104, 0, none⟩ (.int .i64 t102)).setCell ⟨gb104, 1, none⟩ (.int .i64 t103)) = w43 at n0_ n1_ ⊢
     have BK104 := n0_
     have HB := n1_
     clear n0_ n1_
     have n0_ := Aside0.mk (blk_drew BK104.out)
     have n1_ := Aside0.mk (below_drew1 HB.out)
     clear BK104
     clear HB
     have BK104 := n0_
     have HB := n1_
     clear n0_ n1_
     refine start_ (n := 21) (S := fun w' => w'.cell? ⟨gb104, 0, none⟩ = some (.int .i64 t102) ∧ w'.cell? ⟨gb104, 1, none⟩ = some (.int .i64 t103)) (ds := []) #[false, false, false, false, false, false, false, false, false, false, false, false, false, false, false, false, false, false, false, false, false] (by kernel_rfl) rfl rfl ⟨(blk_cell BK104.out 0).trans rfl, (blk_cell BK104.out 1).trans rfl⟩ (fun hHeld => ?_); refine with_tabW cleanselaw04_MeasureNears.tab10 cleanselaw04_MeasureNears.bits10 (fun HT_ HW_ => ?_)
     generalize w43.drew = w44 at BK104 HB hHeld ⊢
     refine pure_ (i := 0) (N := some 58) (v := ?_) (a' := ?_) #[true, false, false, false, false, false, false, false, false, false, false, false, false, false, false, false, false, false, false, false, false] rfl rfl (any_of HT_.out (by kernel_rfl)) (fun _ _ _ h => h) (Or.inl ⟨by rfl, ?_⟩) ?_ ?_
     rotate_left
     ·intro w'
      go_simp
      with_reducible rfl
     rotate_left
     ·simp only [Act.put, List.setIfInBounds_toArray, List.set_cons_zero, List.set_cons_succ, i64_w, i32_w]
      rfl
     refine pure_ (i := 1) (N := some 59) (v := ?_) (a' := ?_) #[true, true, false, false, false, false, false, false, false, false, false, false, false, false, false, false, false, false, false, false, false] rfl rfl (any_of HT_.out (by kernel_rfl)) (fun _ _ _ h => h) (Or.inl ⟨by rfl, ?_⟩) ?_ ?_
     rotate_left
     ·intro w'
      go_simp
      with_reducible rfl
     rotate_left
     ·simp only [Act.put, List.setIfInBounds_toArray, List.set_cons_zero, List.set_cons_succ, i64_w, i32_w]
      rfl
     refine pure_ (i := 2) (N := some 60) (v := ?_) (a' := ?_) #[true, true, true, false, false, false, false, false, false, false, false, false, false, false, false, false, false, false, false, false, false] rfl rfl (any_of HT_.out (by kernel_rfl)) (fun _ _ _ h => h) (Or.inl ⟨by rfl, ?_⟩) ?_ ?_
     rotate_left
     ·intro w'
      go_simp
      with_reducible rfl
     rotate_left
     ·simp only [Act.put, List.setIfInBounds_toArray, List.set_cons_zero, List.set_cons_succ, i64_w, i32_w]
      rfl
     refine pure_ (i := 3) (N := some 61) (v := ?_) (a' := ?_) #[true, true, true, true, false, false, false, false, false, false, false, false, false, false, false, false, false, false, false, false, false] rfl rfl (any_of HT_.out (by kernel_rfl)) (fun _ _ _ h => h) (Or.inl ⟨by rfl, ?_⟩) ?_ ?_
     rotate_left
     ·intro w'
      go_simp
      with_reducible rfl
     rotate_left
     ·simp only [Act.put, List.setIfInBounds_toArray, List.set_cons_zero, List.set_cons_succ, i64_w, i32_w]
      rfl
     refine pure_ (i := 4) (N := some 62) (v := undef) (a' := ?_) #[true, true, true, true, true, false, false, false, false, false, false, false, false, false, false, false, false, false, false, false, false] rfl rfl (any_of HT_.out (by kernel_rfl)) (fun _ _ _ h => h) (Or.inr ⟨by rfl, rfl⟩) ?_ ?_
     rotate_left
     ·simp only [Act.put, List.setIfInBounds_toArray, List.set_cons_zero, List.set_cons_succ, i64_w, i32_w]
      rfl
     refine pure_ (i := 5) (N := some 63) (v := undef) (a' := ?_) #[true, true, true, true, true, true, false, false, false, false, false, false, false, false, false, false, false, false, false, false, false] rfl rfl (any_of HT_.out (by kernel_rfl)) (fun _ _ _ h => h) (Or.inr ⟨by rfl, rfl⟩) ?_ ?_
     rotate_left
     ·simp only [Act.put, List.setIfInBounds_toArray, List.set_cons_zero, List.set_cons_succ, i64_w, i32_w]
      rfl
     refine pure_ (i := 6) (N := some 64) (v := undef) (a' := ?_) #[true, true, true, true, true, true, true, false, false, false, false, false, false, false, false, false, false, false, false, false, false] rfl rfl (any_of HT_.out (by kernel_rfl)) (fun _ _ _ h => h) (Or.inr ⟨by rfl, rfl⟩) ?_ ?_
     rotate_left
     ·simp only [Act.put, List.setIfInBounds_toArray, List.set_cons_zero, List.set_cons_succ, i64_w, i32_w]
      rfl
     refine pure_ (i := 7) (N := some 65) (v := undef) (a' := ?_) #[true, true, true, true, true, true, true, true, false, false, false, false, false, false, false, false, false, false, false, false, false] rfl rfl (any_of HT_.out (by kernel_rfl)) (fun _ _ _ h => h) (Or.inr ⟨by rfl, rfl⟩) ?_ ?_
     rotate_left
     ·simp only [Act.put, List.setIfInBounds_toArray, List.set_cons_zero, List.set_cons_succ, i64_w, i32_w]
      rfl
     refine pure_ (i := 8) (N := some 66) (v := undef) (a' := ?_) #[true, true, true, true, true, true, true, true, true, false, false, false, false, false, false, false, false, false, false, false, false] rfl rfl (any_of HT_.out (by kernel_rfl)) (fun _ _ _ h => h) (Or.inr ⟨by rfl, rfl⟩) ?_ ?_
     rotate_left
     ·simp only [Act.put, List.setIfInBounds_toArray, List.set_cons_zero, List.set_cons_succ, i64_w, i32_w]
      rfl
     refine pure_ (i := 9) (N := some 67) (v := undef) (a' := ?_) #[true, true, true, true, true, true, true, true, true, true, false, false, false, false, false, false, false, false, false, false, false] rfl rfl (any_of HT_.out (by kernel_rfl)) (fun _ _ _ h => h) (Or.inr ⟨by rfl, rfl⟩) ?_ ?_
     rotate_left
     ·simp only [Act.put, List.setIfInBounds_toArray, List.set_cons_zero, List.set_cons_succ, i64_w, i32_w]
      rfl
     refine pure_ (i := 10) (N := some 68) (v := undef) (a' := ?_) #[true, true, true, true, true, true, true, true, true, true, true, false, false, false, false, false, false, false, false, false, false] rfl rfl (any_of HT_.out (by kernel_rfl)) (fun _ _ _ h => h) (Or.inr ⟨by rfl, rfl⟩) ?_ ?_
     rotate_left
     ·simp only [Act.put, List.setIfInBounds_toArray, List.set_cons_zero, List.set_cons_succ, i64_w, i32_w]
      rfl
     refine pure_ (i := 11) (N := some 69) (v := ?_) (a' := ?_) #[true, true, true, true, true, true, true, true, true, true, true, true, false, false, false, false, false, false, false, false, false] rfl rfl (any_of HT_.out (by kernel_rfl)) (fun _ _ _ h => h) (Or.inl ⟨by rfl, ?_⟩) ?_ ?_
     rotate_left
     ·intro w'
      go_simp
      with_reducible rfl
     rotate_left
     ·simp only [Act.put, List.setIfInBounds_toArray, List.set_cons_zero, List.set_cons_succ, i64_w, i32_w]
      rfl
     refine pure_ (i := 12) (N := some 70) (v := ?_) (a' := ?_) #[true, true, true, true, true, true, true, true, true, true, true, true, true, false, false, false, false, false, false, false, false] rfl rfl (any_of HT_.out (by kernel_rfl)) (fun _ _ _ h => h) (Or.inl ⟨by rfl, ?_⟩) ?_ ?_
     rotate_left
     ·intro w'
      go_simp
      with_reducible rfl
     rotate_left
     ·simp only [Act.put, List.setIfInBounds_toArray, List.set_cons_zero, List.set_cons_succ, i64_w, i32_w]
      rfl
     refine pure_ (i := 13) (N := some 71) (v := ?_) (a' := ?_) #[true, true, true, true, true, true, true, true, true, true, true, true, true, true, false, false, false, false, false, false, false] rfl rfl (any_of HT_.out (by kernel_rfl)) (fun _ _ _ h => h) (Or.inl ⟨by rfl, ?_⟩) ?_ ?_
     rotate_left
     ·intro w'
      go_simp
      with_reducible rfl
     rotate_left
     ·simp only [Act.put, List.setIfInBounds_toArray, List.set_cons_zero, List.set_cons_succ, i64_w, i32_w]
      rfl
     refine pure_ (i := 14) (N := some 72) (v := ?_) (a' := ?_) #[true, true, true, true, true, true, true, true, true, true, true, true, true, true, true, false, false, false, false, false, false] rfl rfl (any_of HT_.out (by kernel_rfl)) (fun _ _ _ h => h) (Or.inl ⟨by rfl, ?_⟩) ?_ ?_
     rotate_left
     ·intro w'
      go_simp
      with_reducible rfl
     rotate_left
     ·simp only [Act.put, List.setIfInBounds_toArray, List.set_cons_zero, List.set_cons_succ, i64_w, i32_w]
      rfl
     refine pure_ (i := 15) (N := some 73) (v := ?_) (a' := ?_) #[true, true, true, true, true, true, true, true, true, true, true, true, true, true, true, true, false, false, false, false, false] rfl rfl (any_of HT_.out (by kernel_rfl)) (fun _ _ _ h => h) (Or.inl ⟨by rfl, ?_⟩) ?_ ?_
     rotate_left
     ·intro w'
      go_simp
      with_reducible rfl
     rotate_left
     ·simp only [Act.put, List.setIfInBounds_toArray, List.set_cons_zero, List.set_cons_succ, i64_w, i32_w]
      rfl
     refine take_ (i := 17) (N := some 75) (v := ?_) (a' := ?_) #[true, true, true, true, true, true, true, true, true, true, true, true, true, true, true, true, false, true, false, false, false] rfl rfl (take_ofW HT_.out HW_.out (by kernel_rfl)) (fun _ _ _ h => h) (Or.inl ⟨by rfl, ?_⟩) hHeld ?_ ?_
     rotate_left
     ·rintro w' ⟨s0, s1⟩
      go_simp
      with_reducible rfl
     rotate_left
     ·simp only [Act.put, List.setIfInBounds_toArray, List.set_cons_zero, List.set_cons_succ, i64_w, i32_w]
      rfl
     refine one_ (i := 16) (N := some 74) #[true, true, true, true, true, true, true, true, true, true, true, true, true, true, true, true, true, true, false, false, false] rfl rfl (one_of HT_.out (by kernel_rfl)) (by decide) (fun K hK => ?_)
     refine goes_ Tryd.func24 (by kernel_rfl) rfl #[.int .i64 (Int.tmod (wrap64 (a0)) 1000000001), .int .i64 (Int.tmod (wrap64 (a1)) 1000000001), .int .i64 (wrap64 ((Int.tmod (wrap64 (a3)) 1000000000) + (Int.tmod (wrap64 (a4)) (wrap64 (1000000000 - (Int.tmod (wrap64 (a3)) 1000000000))))))] (by rfl) rfl rfl (by (try simp only [List.map_toArray, List.map_cons, List.map_nil]); rfl) ?_
     with_reducible refine (measure_Near.calls k (Int.tmod (wrap64 (a0)) 1000000001) (Int.tmod (wrap64 (a1)) 1000000001) (wrap64 ((Int.tmod (wrap64 (a3)) 1000000000) + (Int.tmod (wrap64 (a4)) (wrap64 (1000000000 - (Int.tmod (wrap64 (a3)) 1000000000)))))) t113 t114 _ ?sGl A34.out).mono ?_
     case sGl => exact Gl.below HGl.out (by repeat ((with_reducible (exact HB.out))))
     rintro e w45 ⟨rfl, hb⟩
     refine ⟨_, rfl, ?_⟩
     have n0_ := Aside0.mk (blk_below (g := gb104) (o := .cells #[.int .i64 t102, .int .i64 t103] 32 (0, 0)) (by (with_reducible skip); exact BK104.out) hb)
     have n1_ := Aside0.mk (below_step (by repeat ((with_reducible (exact HB.out)))) hb)
     clear BK104
     clear HB
     have BK104 := n0_
     have HB := n1_
     clear n0_ n1_
     (try clear hb)
     refine hK.out _ _ ⟨(blk_cell BK104.out 0).trans rfl, (blk_cell BK104.out 1).trans rfl⟩ (fun hHeld => ?_)
     clear hK K
     refine norm_ (a' := ?_) ?_ ?_
     rotate_left
     ·show Act.put _ (some 74) _ = _
      simp only [Act.put, List.setIfInBounds_toArray, List.set_cons_zero, List.set_cons_succ, i64_w, i32_w]
      rfl
     refine one_ (i := 18) (N := some 76) #[true, true, true, true, true, true, true, true, true, true, true, true, true, true, true, true, true, true, true, false, false] rfl rfl (one_of HT_.out (by kernel_rfl)) (by decide) (fun K hK => ?_)
     refine goes_ Tryd.func28 (by kernel_rfl) rfl #[.agg #[.int .i64 t113, .int .i64 t114], .agg #[.int .i64 t102, .int .i64 t103]] (by rfl) rfl rfl (by (try simp only [List.map_toArray, List.map_cons, List.map_nil]); rfl) ?_
     with_reducible refine (ratio_Cmp.calls k t113 t114 t102 t103 t115 _ A35.out).mono ?_
     rintro e w46 ⟨rfl, hb⟩
     refine ⟨_, rfl, ?_⟩
     have n0_ := Aside0.mk (blk_below (g := gb104) (o := .cells #[.int .i64 t102, .int .i64 t103] 32 (0, 0)) (by (with_reducible skip); exact BK104.out) hb)
     have n1_ := Aside0.mk (below_step (by repeat ((with_reducible (exact HB.out)))) hb)
     clear BK104
     clear HB
     have BK104 := n0_
     have HB := n1_
     clear n0_ n1_
     (try clear hb)
     refine hK.out _ _ ⟨(blk_cell BK104.out 0).trans rfl, (blk_cell BK104.out 1).trans rfl⟩ (fun hHeld => ?_)
     clear hK K
     refine norm_ (a' := ?_) ?_ ?_
     rotate_left
     ·show Act.put _ (some 76) _ = _
      simp only [Act.put, List.setIfInBounds_toArray, List.set_cons_zero, List.set_cons_succ, i64_w, i32_w]
      rfl
     refine pure_ (i := 19) (N := some 77) (v := ?_) (a' := ?_) #[true, true, true, true, true, true, true, true, true, true, true, true, true, true, true, true, true, true, true, true, false] rfl rfl (any_of HT_.out (by kernel_rfl)) (fun _ _ _ h => h) (Or.inl ⟨by rfl, ?_⟩) ?_ ?_
     rotate_left
     ·intro w'
      go_simp
      with_reducible rfl
     rotate_left
     ·simp only [Act.put, List.setIfInBounds_toArray, List.set_cons_zero, List.set_cons_succ, i64_w, i32_w]
      rfl
     refine pure_ (i := 20) (N := some 78) (v := ?_) (a' := ?_) #[true, true, true, true, true, true, true, true, true, true, true, true, true, true, true, true, true, true, true, true, true] rfl rfl (any_of HT_.out (by kernel_rfl)) (fun _ _ _ h => h) (Or.inl ⟨by rfl, ?_⟩) ?_ ?_
     rotate_left
     ·intro w'
      go_simp
      with_reducible rfl
     rotate_left
     ·simp only [Act.put, List.setIfInBounds_toArray, List.set_cons_zero, List.set_cons_succ, i64_w, i32_w]
      rfl
     refine done_ (done_of HT_.out (by kernel_rfl)) ?_
     try go_wp2
     have n0_ := Aside0.mk (blk_drew BK104.out)
     have n1_ := Aside0.mk (below_drew1 HB.out)
     clear BK104
     clear HB
     have BK104 := n0_
     have HB := n1_
     clear n0_ n1_
     refine start_ (n := 11) (S := fun w' => w'.cell? ⟨gb104, 0, none⟩ = some (.int .i64 t102) ∧ w'.cell? ⟨gb104, 1, none⟩ = some (.int .i64 t103)) (ds := []) #[false, false, false, false, false, false, false, false, false, false, false] (by kernel_rfl) rfl rfl ⟨(blk_cell BK104.out 0).trans rfl, (blk_cell BK104.out 1).trans rfl⟩ (fun hHeld => ?_); refine with_tabW cleanselaw04_MeasureNears.tab12 cleanselaw04_MeasureNears.bits12 (fun HT_ HW_ => ?_)
     generalize w46.drew = w47 at BK104 HB hHeld ⊢
     refine pure_ (i := 0) (N := some 79) (v := ?_) (a' := ?_) #[true, false, false, false, false, false, false, false, false, false, false] rfl rfl (any_of HT_.out (by kernel_rfl)) (fun _ _ _ h => h) (Or.inl ⟨by rfl, ?_⟩) ?_ ?_
     rotate_left
     ·intro w'
      go_simp
      with_reducible rfl
     rotate_left
     ·simp only [Act.put, List.setIfInBounds_toArray, List.set_cons_zero, List.set_cons_succ, i64_w, i32_w]
      rfl
     refine pure_ (i := 1) (N := some 80) (v := ?_) (a' := ?_) #[true, true, false, false, false, false, false, false, false, false, false] rfl rfl (any_of HT_.out (by kernel_rfl)) (fun _ _ _ h => h) (Or.inl ⟨by rfl, ?_⟩) ?_ ?_
     rotate_left
     ·intro w'
      go_simp
      with_reducible rfl
     rotate_left
     ·simp only [Act.put, List.setIfInBounds_toArray, List.set_cons_zero, List.set_cons_succ, i64_w, i32_w]
      rfl
     refine pure_ (i := 5) (N := some 84) (v := ?_) (a' := ?_) #[true, true, false, false, false, true, false, false, false, false, false] rfl rfl (any_of HT_.out (by kernel_rfl)) (fun _ _ _ h => h) (Or.inl ⟨by rfl, ?_⟩) ?_ ?_
     rotate_left
     ·intro w'
      go_simp
      with_reducible rfl
     rotate_left
     ·simp only [Act.put, List.setIfInBounds_toArray, List.set_cons_zero, List.set_cons_succ, i64_w, i32_w]
      rfl
     refine pure_ (i := 6) (N := some 85) (v := ?_) (a' := ?_) #[true, true, false, false, false, true, true, false, false, false, false] rfl rfl (any_of HT_.out (by kernel_rfl)) (fun _ _ _ h => h) (Or.inl ⟨by rfl, ?_⟩) ?_ ?_
     rotate_left
     ·intro w'
      go_simp
      with_reducible rfl
     rotate_left
     ·simp only [Act.put, List.setIfInBounds_toArray, List.set_cons_zero, List.set_cons_succ, i64_w, i32_w]
      rfl
     refine pure_ (i := 7) (N := some 86) (v := ?_) (a' := ?_) #[true, true, false, false, false, true, true, true, false, false, false] rfl rfl (any_of HT_.out (by kernel_rfl)) (fun _ _ _ h => h) (Or.inl ⟨by rfl, ?_⟩) ?_ ?_
     rotate_left
     ·intro w'
      go_simp
      with_reducible rfl
     rotate_left
     ·simp only [Act.put, List.setIfInBounds_toArray, List.set_cons_zero, List.set_cons_succ, i64_w, i32_w]
      rfl
     refine take_ (i := 2) (N := some 81) (v := ?_) (a' := ?_) #[true, true, true, false, false, true, true, true, false, false, false] rfl rfl (take_ofW HT_.out HW_.out (by kernel_rfl)) (fun _ _ _ h => h) (Or.inl ⟨by rfl, ?_⟩) hHeld ?_ ?_
     rotate_left
     ·rintro w' ⟨s0, s1⟩
      go_simp
      with_reducible rfl
     rotate_left
     ·simp only [Act.put, List.setIfInBounds_toArray, List.set_cons_zero, List.set_cons_succ, i64_w, i32_w]
      rfl
     refine one_ (i := 3) (N := some 82) #[true, true, true, true, false, true, true, true, false, false, false] rfl rfl (one_of HT_.out (by kernel_rfl)) (by decide) (fun K hK => ?_)
     refine goes_ Tryd.func27 (by kernel_rfl) rfl #[.int .i64 0, .int .i64 1] (by rfl) rfl rfl (by (try simp only [List.map_toArray, List.map_cons, List.map_nil]); rfl) ?_
     with_reducible refine (cleanselaw04_of.calls 0 1 t116 t117 _ A38.out).mono ?_
     rintro e w48 ⟨rfl, hb⟩
     refine ⟨_, rfl, ?_⟩
     have n0_ := Aside0.mk (blk_below (g := gb104) (o := .cells #[.int .i64 t102, .int .i64 t103] 32 (0, 0)) (by (with_reducible skip); exact BK104.out) hb)
     have n1_ := Aside0.mk (below_step (by repeat ((with_reducible (exact HB.out)))) hb)
     clear BK104
     clear HB
     have BK104 := n0_
     have HB := n1_
     clear n0_ n1_
     (try clear hb)
     refine hK.out _ _ ⟨(blk_cell BK104.out 0).trans rfl, (blk_cell BK104.out 1).trans rfl⟩ (fun hHeld => ?_)
     clear hK K
     refine norm_ (a' := ?_) ?_ ?_
     rotate_left
     ·show Act.put _ (some 82) _ = _
      simp only [Act.put, List.setIfInBounds_toArray, List.set_cons_zero, List.set_cons_succ, i64_w, i32_w]
      rfl
     refine pure_ (i := 4) (N := some 83) (v := ?_) (a' := ?_) #[true, true, true, true, true, true, true, true, false, false, false] rfl rfl (any_of HT_.out (by kernel_rfl)) (fun _ _ _ h => h) (Or.inl ⟨by rfl, ?_⟩) ?_ ?_
     rotate_left
     ·intro w'
      go_simp
      with_reducible rfl
     rotate_left
     ·simp only [Act.put, List.setIfInBounds_toArray, List.set_cons_zero, List.set_cons_succ, i64_w, i32_w]
      rfl
     refine pure_ (i := 8) (N := some 87) (v := ?_) (a' := ?_) #[true, true, true, true, true, true, true, true, true, false, false] rfl rfl (any_of HT_.out (by kernel_rfl)) (fun _ _ _ h => h) (Or.inl ⟨by rfl, ?_⟩) ?_ ?_
     rotate_left
     ·intro w'
      go_simp
      with_reducible rfl
     rotate_left
     ·simp only [Act.put, List.setIfInBounds_toArray, List.set_cons_zero, List.set_cons_succ, i64_w, i32_w]
      rfl
     refine pure_ (i := 9) (N := some 88) (v := ?_) (a' := ?_) #[true, true, true, true, true, true, true, true, true, true, false] rfl rfl (any_of HT_.out (by kernel_rfl)) (fun _ _ _ h => h) (Or.inl ⟨by rfl, ?_⟩) ?_ ?_
     rotate_left
     ·intro w'
      go_simp
      with_reducible rfl
     rotate_left
     ·simp only [Act.put, List.setIfInBounds_toArray, List.set_cons_zero, List.set_cons_succ, i64_w, i32_w]
      rfl
     refine pure_ (i := 10) (N := some 10) (v := ?_) (a' := ?_) #[true, true, true, true, true, true, true, true, true, true, true] rfl rfl (any_of HT_.out (by kernel_rfl)) (fun _ _ _ h => h) (Or.inl ⟨by rfl, ?_⟩) ?_ ?_
     rotate_left
     ·intro w'
      go_simp
      with_reducible rfl
     rotate_left
     ·simp only [Act.put, List.setIfInBounds_toArray, List.set_cons_zero, List.set_cons_succ, i64_w, i32_w]
      rfl
     refine done_ (done_of HT_.out (by kernel_rfl)) ?_
     try go_wp2
     go_ret
     exact ⟨by rfl, by repeat ((with_reducible (exact HB.out)))⟩
    ·replace c37 := Bool.eq_false_iff.mpr c37
     subst c37
     have H1 : (some false) = some r := by rw [if_neg (show ¬ (false = true) by decide)] at H; exact H
     clear H
     have H := H1
     clear H1
     exact absurd ((Option.some.inj H).trans HT.out) (by decide)

/-- THE ONE PURE STATEMENT of cleanselaw04_MeasureNears: yours. -/
def cleanselaw04_MeasureNears.Pure : Prop := ∀ (a0 : Int) (a1 : Int) (a2 : Int) (a3 : Int) (a4 : Int), (Lit.int .i32 a0).wf = true → (Lit.int .i32 a1).wf = true → (Lit.int .i32 a2).wf = true → (Lit.int .u32 a3).wf = true → (Lit.int .u32 a4).wf = true → ∃ k, cleanselaw04_MeasureNears.f k a0 a1 a2 a3 a4 = some true
theorem cleanselaw04_MeasureNears.walk (P : cleanselaw04_MeasureNears.Pure) (a0 : Int) (a1 : Int) (a2 : Int) (a3 : Int) (a4 : Int) (w : World) (hG : Gl w) (w0 : (Lit.int .i32 a0).wf = true) (w1 : (Lit.int .i32 a1).wf = true) (w2 : (Lit.int .i32 a2).wf = true) (w3 : (Lit.int .u32 a3).wf = true) (w4 : (Lit.int .u32 a4).wf = true) :
  Calls Tryd.prog 9 #[.int .i32 a0, .int .i32 a1, .int .i32 a2, .int .u32 a3, .int .u32 a4] w fun e w' => e = .returned (.bool true) ∧ Below w.heap.size w w' := by
 obtain ⟨k, h⟩ := P a0 a1 a2 a3 a4 w0 w1 w2 w3 w4
 refine (cleanselaw04_MeasureNears.calls k a0 a1 a2 a3 a4 true w hG rfl h).mono ?_
 rintro e w' ⟨rfl, hd⟩
 exact ⟨rfl, hd⟩

end Go.Proofs.YtgomlpndoolllaaDoor.LNears
end

section
/- The plain law of MeasureNears. -/
namespace Go.Proofs.YtgomlpndoolllaaDoor.Pure
open Go Go.RowKit Go.Proofs.YtgomlpndoolllaaDoor.Q Go.Proofs.YtgomlpndoolllaaDoor.LNears Go.Proofs.YtgomlpndoolllaaDoorW.PrintWords Go.Proofs.YtgomlpndoolllaaDoorW.PrintLast Go.Proofs.YtgomlpndoolllaaDoorW.PrintMore
set_option linter.unusedVariables false
set_option linter.unusedSimpArgs false

theorem rat_ge {n d m e : Nat} (hd : 0 < d) (hn : n ≤ d) (hb : d ≤ 1000000000) (he : 0 < e) (hm : m ≤ e) (hb2 : e ≤ 1000000000) (h : m * d ≤ n * e) :
    ∃ c, Ev (fun k => ratio_Cmp.f k (rat n d).1 (rat n d).2 (rat m e).1 (rat m e).2) c ∧ ¬ c < 0 := by
  obtain ⟨p, q, g, l1, hg, e1, e2⟩ := rat_low hd hn hb
  obtain ⟨a, b, f, l2, hf, e3, e4⟩ := rat_low he hm hb2
  refine ⟨_, Cmp_low l1 l2, fun hc => ?_⟩
  unfold cmpN at hc
  split at hc
  · rename_i hlt
    have k1 : m * d = (g * f) * (a * q) := by rw [e3, e2]; ac_rfl
    have k2 : n * e = (g * f) * (p * b) := by rw [e1, e4]; ac_rfl
    rw [k1, k2] at h
    have := Nat.le_of_mul_le_mul_left h (Nat.mul_pos hg hf)
    omega
  · split at hc <;> omega
theorem near_rat (x y t : Int) (h0 : 0 ≤ t) (h1 : t < 1000000000) : nearS x y t = rat (t.toNat + 1 - (x - y).natAbs) (t.toNat + 1) := by
  unfold nearS
  by_cases h : ((x - y).natAbs : Int) ≤ t
  · rw [if_pos ⟨h0, h1, h⟩]
  · rw [if_neg (fun k => h k.2.2), show t.toNat + 1 - (x - y).natAbs = 0 by omega, rat_nil (by omega)]
theorem far_w (x y : Int) (hx : -1000000000 ≤ x ∧ x ≤ 1000000000) (hy : -1000000000 ≤ y ∧ y ≤ 1000000000) : wrap64 (mx x y - mn x y) = ((x - y).natAbs : Int) := by
  rw [i64_id (by unfold mx mn; split <;> split <;> omega) (by unfold mx mn; split <;> split <;> omega)]
  unfold mx mn
  split <;> split <;> omega
theorem wider (d T U : Nat) (h : T ≤ U) : (T - d) * U ≤ (U - d) * T := by
  by_cases hd : d ≤ T
  · obtain ⟨s, rfl⟩ : ∃ s, T = d + s := ⟨T - d, by omega⟩
    obtain ⟨r, rfl⟩ : ∃ r, U = d + s + r := ⟨U - (d + s), by omega⟩
    rw [show d + s - d = s by omega, show d + s + r - d = s + r by omega]
    have e1 : s * (d + s + r) = s * d + s * s + s * r := by rw [Nat.mul_add, Nat.mul_add]
    have e2 : (s + r) * (d + s) = s * d + s * s + (r * d + r * s) := by rw [Nat.add_mul, Nat.mul_add, Nat.mul_add]
    have e3 : s * r = r * s := Nat.mul_comm _ _
    omega
  · rw [show T - d = 0 by omega, Nat.zero_mul]; exact Nat.zero_le _
theorem not_zero (r : Int × Int) (b : Bool) (h : (b = true) ↔ r ≠ (0, 1)) : ((!(r.1 == 0) || !(r.2 == 1)) == b) = true := by
  obtain ⟨p, q⟩ := r
  simp only [beq_iff_eq]
  rw [Bool.eq_iff_iff, h]
  simp only [Bool.or_eq_true, Bool.not_eq_true', beq_eq_false_iff_ne, ne_eq, Prod.mk.injEq]
  constructor
  · intro k e; rcases k with k | k
    · exact k e.1
    · exact k e.2
  · intro k
    by_cases e : p = 0
    · right; intro e2; exact k ⟨e, e2⟩
    · left; exact e
theorem nears_core (x y z t u : Int) (hx : -1000000000 ≤ x ∧ x ≤ 1000000000) (hy : -1000000000 ≤ y ∧ y ≤ 1000000000) (hz : -1000000000 ≤ z ∧ z ≤ 1000000000) (h0 : 0 ≤ t) (h1 : t ≤ u) (h2 : u < 1000000000) :
    Ev (fun k => (measure_Near.f k x y t).bind fun bt102 => (if (wrap64 ((mx x y) - (mn x y))) ≤ (wrap64 ((mx x z) - (mn x z))) then ((measure_Near.f k x z t).bind fun bt105 => ((ratio_Cmp.f k bt102.1 bt102.2 bt105.1 bt105.2).bind fun t107 => (if t107 < 0 then (some false) else ((measure_Near.f k x y u).bind fun bt108 => ((ratio_Cmp.f k bt108.1 bt108.2 bt102.1 bt102.2).bind fun t110 => (if t110 < 0 then (some false) else (if true = true then ((cleanselaw04_of.f 0 1).bind fun bt111 => (some ((!(bt102.1 == bt111.1) || (!(bt102.2 == bt111.2))) == (decide ((wrap64 ((mx x y) - (mn x y))) ≤ t))))) else (some false)))))))) else ((measure_Near.f k x y u).bind fun bt113 => ((ratio_Cmp.f k bt113.1 bt113.2 bt102.1 bt102.2).bind fun t115 => (if t115 < 0 then (some false) else (if true = true then ((cleanselaw04_of.f 0 1).bind fun bt116 => (some ((!(bt102.1 == bt116.1) || (!(bt102.2 == bt116.2))) == (decide ((wrap64 ((mx x y) - (mn x y))) ≤ t))))) else (some false))))))) true := by
  rw [far_w x y hx hy, far_w x z hx hz]
  refine Ev.bind (near_f x y t (by omega) (by omega) (by omega)) ?_
  have last : ((!((nearS x y t).1 == 0) || !((nearS x y t).2 == 1)) == decide (((x - y).natAbs : Int) ≤ t)) = true := by
    refine not_zero _ _ ?_
    rw [decide_eq_true_eq, near_rat x y t h0 (by omega), ne_eq, rat_zero (by omega)]
    omega
  have second : Ev (fun k => (measure_Near.f k x y u).bind fun bt113 => ((ratio_Cmp.f k bt113.1 bt113.2 (nearS x y t).1 (nearS x y t).2).bind fun t115 => (if t115 < 0 then (some false) else (if true = true then ((cleanselaw04_of.f 0 1).bind fun bt116 => (some ((!((nearS x y t).1 == bt116.1) || (!((nearS x y t).2 == bt116.2))) == (decide (((x - y).natAbs : Int) ≤ t))))) else (some false))))) true := by
    refine Ev.bind (near_f x y u (by omega) (by omega) (by omega)) ?_
    rw [near_rat x y u (by omega) (by omega), near_rat x y t h0 (by omega)]
    rw [near_rat x y t h0 (by omega)] at last
    obtain ⟨c, hc, hn⟩ := rat_ge (n := u.toNat + 1 - (x - y).natAbs) (d := u.toNat + 1) (m := t.toNat + 1 - (x - y).natAbs) (e := t.toNat + 1) (by omega) (by omega) (by omega) (by omega) (by omega) (by omega) (wider _ _ _ (by omega))
    refine Ev.bind hc (Ev.congr (fun k => ?_) (Ev.now true))
    rw [if_neg hn, if_pos rfl]
    unfold cleanselaw04_of.f
    rw [Option.bind_some]
    exact congrArg some last
  by_cases h : ((x - y).natAbs : Int) ≤ ((x - z).natAbs : Int)
  · refine Ev.congr (fun k => by rw [if_pos h]) ?_
    refine Ev.bind (near_f x z t (by omega) (by omega) (by omega)) ?_
    obtain ⟨c, hc, hn⟩ := rat_ge (n := t.toNat + 1 - (x - y).natAbs) (d := t.toNat + 1) (m := t.toNat + 1 - (x - z).natAbs) (e := t.toNat + 1) (by omega) (by omega) (by omega) (by omega) (by omega) (by omega) (Nat.mul_le_mul_right _ (by omega))
    rw [← near_rat x y t h0 (by omega), ← near_rat x z t h0 (by omega)] at hc
    exact Ev.bind hc (Ev.congr (fun k => by rw [if_neg hn]) second)
  · exact Ev.congr (fun k => by rw [if_neg h]) second
theorem i32_of {a : Int} (h : (Lit.int .i32 a).wf = true) : -2147483648 ≤ a ∧ a ≤ 2147483647 := by
  simp only [Lit.wf, Bool.and_eq_true, decide_eq_true_eq] at h
  exact h
theorem u32_of {a : Int} (h : (Lit.int .u32 a).wf = true) : 0 ≤ a ∧ a ≤ 4294967295 := by
  simp only [Lit.wf, Bool.and_eq_true, decide_eq_true_eq] at h
  exact h
theorem tmod_pos (a b : Int) (hb : 0 < b) : -b < Int.tmod a b ∧ Int.tmod a b < b := by
  have h1 := Int.tmod_lt_of_pos a hb
  have h2 := Int.tmod_lt_of_pos (-a) hb
  rw [Int.neg_tmod] at h2
  omega
theorem tmod_nn (a b : Int) (ha : 0 ≤ a) (hb : 0 < b) : 0 ≤ Int.tmod a b ∧ Int.tmod a b < b := ⟨Int.tmod_nonneg b ha, Int.tmod_lt_of_pos a hb⟩
theorem MeasureNears : cleanselaw04_MeasureNears.Pure := by
  intro a0 a1 a2 a3 a4 h0 h1 h2 h3 h4
  refine Ev.rounds (g := fun k => cleanselaw04_MeasureNears.f k a0 a1 a2 a3 a4) ?_
  have w0 := i32_of h0
  have w1 := i32_of h1
  have w2 := i32_of h2
  have w3 := u32_of h3
  have w4 := u32_of h4
  have bx := tmod_pos (wrap64 a0) 1000000001 (by decide)
  have by_ := tmod_pos (wrap64 a1) 1000000001 (by decide)
  have bz := tmod_pos (wrap64 a2) 1000000001 (by decide)
  have bt_ := tmod_nn (wrap64 a3) 1000000000 (by rw [i64_id (by omega) (by omega)]; omega) (by decide)
  unfold cleanselaw04_MeasureNears.f cleanselaw04_head.f
  generalize Int.tmod (wrap64 a0) 1000000001 = x at *
  generalize Int.tmod (wrap64 a1) 1000000001 = y at *
  generalize Int.tmod (wrap64 a2) 1000000001 = z at *
  generalize Int.tmod (wrap64 a3) 1000000000 = t at *
  have bq := tmod_nn (wrap64 a4) (1000000000 - t) (by rw [i64_id (by omega) (by omega)]; omega) (by omega)
  have e1 : wrap64 (1000000000 - t) = 1000000000 - t := i64_id (by omega) (by omega)
  rw [e1]
  generalize Int.tmod (wrap64 a4) (1000000000 - t) = q at *
  have e2 : wrap64 (t + q) = t + q := i64_id (by omega) (by omega)
  rw [e2]
  refine Ev.congr (fun k => ?_) (nears_core x y z t (t + q) (by omega) (by omega) (by omega) (by omega) (by omega) (by omega))
  rw [Option.bind_some, if_neg (by omega)]
end Go.Proofs.YtgomlpndoolllaaDoor.Pure
end

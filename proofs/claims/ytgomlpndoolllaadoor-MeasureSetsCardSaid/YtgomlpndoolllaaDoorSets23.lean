/- Parts of the proof of Sets: words, contracts and plain laws. -/
import Derived.Test.YtgomlpndoolllaaDoorSets11
import Derived.Test.YtgomlpndoolllaaDoorSets12
import Derived.Test.YtgomlpndoolllaaDoorSets21
import Derived.Test.YtgomlpndoolllaaDoorSets22
namespace Go.Proofs.YtgomlpndoolllaaDoor.LSets
open Go.RowKit Go.Proofs.YtgomlpndoolllaaDoor.Q Go.Proofs.YtgomlpndoolllaaDoorW.PrintWords Go.Proofs.YtgomlpndoolllaaDoorW.PrintLast Go.Proofs.YtgomlpndoolllaaDoorW.PrintMore
attribute [local go_sem] max2_int min2_int max_two min_two max_three min_three max_four min_four   -- for this text's walks alone
set_option linter.unusedVariables false
set_option linter.unusedSimpArgs false

attribute [local go_sem high] eqA32
/-! ### cleanselaw04_MeasureSets: function 10 -/
def cleanselaw04_MeasureSets.j0 : Nat → List ByteArray → List ByteArray → List ByteArray → Bool → Bool → Int → Int → Option (Bool)
 | 0, _, _, _, _, _, _, _ => none
 | k + 1, x0, x1, x2, x7, x56, x109000, x109001 => if x56 = true then (some false) else ((measure_Jaccard.f k x0 x2).bind fun bt119 => ((measure_Jaccard.f k x2 x1).bind fun bt122 => ((cleanselaw04_of.f 1 1).bind fun bt125 => ((ratio_Add.f k bt125.1 bt125.2 x109000 x109001).bind fun bt127 => ((ratio_Add.f k bt119.1 bt119.2 bt122.1 bt122.2).bind fun bt131 => (if x7 = true then (if bt127.2.2 = 0 then (if bt131.2.2 = 0 then ((ratio_Cmp.f k bt127.1 bt127.2.1 bt131.1 bt131.2.1).bind fun t135 => (some (decide (t135 ≥ 0)))) else (some false)) else (some false)) else (some false)))))))
def cleanselaw04_MeasureSets.f (k : Nat) (l0 : List ByteArray) (l1 : List ByteArray) (l2 : List ByteArray) : Option (Bool) := (cleanselaw04_head.f).bind fun t101 => ((cleanseref04_Few.f k (([l0, l1, l2] : List (List ByteArray)))).bind fun t105 => (if t105 = true then ((measure_Jaccard.f k l0 l1).bind fun bt106 => ((cleanselaw04_of.f 1 1).bind fun bt109 => ((cleanselaw04_within.f k l0 l1).bind fun t111 => (if t111 = true then ((cleanselaw04_within.f k l1 l0).bind fun t112 => (if ((bt106.1 == bt109.1 && (bt106.2 == bt109.2)) != t112) = true then (cleanselaw04_MeasureSets.j0 k l0 l1 l2 t101 true bt106.1 bt106.2) else ((cleanselaw04_of.f 0 1).bind fun bt113 => ((cleanselaw04_apart.f k l0 l1).bind fun t115 => (if t115 = true then (if (l0.length : Int) > 0 then (cleanselaw04_MeasureSets.j0 k l0 l1 l2 t101 ((bt106.1 == bt113.1 && (bt106.2 == bt113.2)) != true) bt106.1 bt106.2) else (cleanselaw04_MeasureSets.j0 k l0 l1 l2 t101 ((bt106.1 == bt113.1 && (bt106.2 == bt113.2)) != (decide ((l1.length : Int) > 0))) bt106.1 bt106.2)) else (cleanselaw04_MeasureSets.j0 k l0 l1 l2 t101 ((bt106.1 == bt113.1 && (bt106.2 == bt113.2)) != false) bt106.1 bt106.2)))))) else (if ((bt106.1 == bt109.1 && (bt106.2 == bt109.2)) != false) = true then (cleanselaw04_MeasureSets.j0 k l0 l1 l2 t101 true bt106.1 bt106.2) else ((cleanselaw04_of.f 0 1).bind fun bt116 => ((cleanselaw04_apart.f k l0 l1).bind fun t118 => (if t118 = true then (if (l0.length : Int) > 0 then (cleanselaw04_MeasureSets.j0 k l0 l1 l2 t101 ((bt106.1 == bt116.1 && (bt106.2 == bt116.2)) != true) bt106.1 bt106.2) else (cleanselaw04_MeasureSets.j0 k l0 l1 l2 t101 ((bt106.1 == bt116.1 && (bt106.2 == bt116.2)) != (decide ((l1.length : Int) > 0))) bt106.1 bt106.2)) else (cleanselaw04_MeasureSets.j0 k l0 l1 l2 t101 ((bt106.1 == bt116.1 && (bt106.2 == bt116.2)) != false) bt106.1 bt106.2))))))))) else (some t101)))
def cleanselaw04_MeasureSets.T5 : Bool × List (List Nat × List Nat) := (true, [([], []), ([], []), ([0, 1], [0, 1]), ([], []), ([], []), ([3, 4, 1], [3, 4]), ([5, 5], [5]), ([6], [6]), ([6], [6]), ([7, 8, 6, 6], [6, 7, 8]), ([6, 9], [6, 9]), ([2, 10], [2, 10]), ([11, 9], [11]), ([12], [12]), ([12, 12], [12]), ([13, 14, 12], [12, 13, 14]), ([12], [12]), ([12], [12]), ([16, 17, 14, 12], [12, 16, 17]), ([18, 18, 12], [12, 18]), ([19], [19]), ([20, 19], [19, 20]), ([21, 19], [19, 21]), ([22, 19, 19], [19, 22]), ([23], [23]), ([24, 23], [23, 24]), ([25, 23], [23, 25]), ([23, 26, 19], [19, 23, 26]), ([19, 27, 12], [12, 19, 27]), ([15, 28, 12], [12, 15, 28]), ([12, 29], [12, 29])])
def cleanselaw04_MeasureSets.B5 : List Nat := [0, 0, 3, 0, 0, 26, 58, 122, 122, 506, 1018, 2047, 4095, 8191, 8191, 32767, 8191, 8191, 221183, 483327, 1007615, 2056191, 4153343, 8347647, 16736255, 33513471, 67067903, 134176767, 268394495, 536870911, 1073741823]
theorem cleanselaw04_MeasureSets.tab5 : rtab .any (opsOf Tryd.f10 5) = cleanselaw04_MeasureSets.T5 := by kernel_rfl
theorem cleanselaw04_MeasureSets.bits5 : waitsOk cleanselaw04_MeasureSets.T5.2 cleanselaw04_MeasureSets.B5 = true := by kernel_rfl
def cleanselaw04_MeasureSets.T9 : Bool × List (List Nat × List Nat) := (true, [([], []), ([], []), ([0, 1, 0], [0, 1]), ([2], [2]), ([3], [3]), ([3], [3]), ([], []), ([6, 4, 2, 0, 1, 2, 3, 4, 6], [4, 6]), ([5, 7, 0, 1, 2, 3, 4, 5, 6, 7], [5])])
def cleanselaw04_MeasureSets.B9 : List Nat := [0, 0, 3, 7, 15, 15, 0, 95, 255]
theorem cleanselaw04_MeasureSets.tab9 : rtab .any (opsOf Tryd.f10 9) = cleanselaw04_MeasureSets.T9 := by kernel_rfl
theorem cleanselaw04_MeasureSets.bits9 : waitsOk cleanselaw04_MeasureSets.T9.2 cleanselaw04_MeasureSets.B9 = true := by kernel_rfl
theorem cleanselaw04_MeasureSets.j0_true {k : Nat} {x0 : List ByteArray} {x1 : List ByteArray} {x2 : List ByteArray} {x7 : Bool} {x109000 : Int} {x109001 : Int} {r : Bool} (h : cleanselaw04_MeasureSets.j0 k x0 x1 x2 x7 true x109000 x109001 = some r) (hr : r = true) : False := by
 subst hr
 cases k with
 | zero => simp [cleanselaw04_MeasureSets.j0] at h
 | succ k => simp [cleanselaw04_MeasureSets.j0] at h
set_option maxHeartbeats 8000000 in
set_option maxRecDepth 100000 in
theorem cleanselaw04_MeasureSets.calls (k : Nat) (P0_ : Nat → Prop) (A0 : Option Addr) (c0 : Nat) (l0 : List ByteArray) (P1_ : Nat → Prop) (A1 : Option Addr) (c1 : Nat) (l1 : List ByteArray) (P2_ : Nat → Prop) (A2 : Option Addr) (c2 : Nat) (l2 : List ByteArray) (r : Bool) (w : World) (hs0 : Kd.V Kd.string 9 w w.heap.size (fun k_ => P0_ k_) (.slice A0 l0.length c0) l0) (hs1 : Kd.V Kd.string 9 w w.heap.size (fun k_ => P1_ k_) (.slice A1 l1.length c1) l1) (hs2 : Kd.V Kd.string 9 w w.heap.size (fun k_ => P2_ k_) (.slice A2 l2.length c2) l2) (hG : Gl w) (hT : r = true) (h : cleanselaw04_MeasureSets.f k l0 l1 l2 = some r) :
  Calls Tryd.prog 10 #[.slice A0 l0.length c0, .slice A1 l1.length c1, .slice A2 l2.length c2] w fun e w' => e = .returned (.bool r) ∧ Below w.heap.size w w' := by
 have HGl := Aside0.mk hG
 clear hG
 have HT := Aside0.mk hT
 clear hT
 have hu32 := Tryd.underlying32
 have HO0 := Aside0.mk (show Kd.V Kd.string 9 w w.heap.size (fun k_ => ((P0_ k_ ∨ P1_ k_ ∨ P2_ k_) ∨ w.heap.size ≤ k_)) (.slice A0 l0.length c0) l0 from Kd.V_mono hs0 (fun k_ hk => .inl (.inl hk)))
 have HO1 := Aside0.mk (show Kd.V Kd.string 9 w w.heap.size (fun k_ => ((P0_ k_ ∨ P1_ k_ ∨ P2_ k_) ∨ w.heap.size ≤ k_)) (.slice A1 l1.length c1) l1 from Kd.V_mono hs1 (fun k_ hk => .inl (.inr (.inl hk))))
 have HO2 := Aside0.mk (show Kd.V Kd.string 9 w w.heap.size (fun k_ => ((P0_ k_ ∨ P1_ k_ ∨ P2_ k_) ∨ w.heap.size ≤ k_)) (.slice A2 l2.length c2) l2 from Kd.V_mono hs2 (fun k_ hk => .inl (.inr (.inr hk))))
 have HB := Aside0.mk (Below.refl w.heap.size w)
 have H : ((cleanselaw04_head.f).bind fun t101 => ((cleanseref04_Few.f k (([l0, l1, l2] : List (List ByteArray)))).bind fun t105 => (if t105 = true then ((measure_Jaccard.f k l0 l1).bind fun bt106 => ((cleanselaw04_of.f 1 1).bind fun bt109 => ((cleanselaw04_within.f k l0 l1).bind fun t111 => (if t111 = true then ((cleanselaw04_within.f k l1 l0).bind fun t112 => (if ((bt106.1 == bt109.1 && (bt106.2 == bt109.2)) != t112) = true then (cleanselaw04_MeasureSets.j0 k l0 l1 l2 t101 true bt106.1 bt106.2) else ((cleanselaw04_of.f 0 1).bind fun bt113 => ((cleanselaw04_apart.f k l0 l1).bind fun t115 => (if t115 = true then (if (l0.length : Int) > 0 then (cleanselaw04_MeasureSets.j0 k l0 l1 l2 t101 ((bt106.1 == bt113.1 && (bt106.2 == bt113.2)) != true) bt106.1 bt106.2) else (cleanselaw04_MeasureSets.j0 k l0 l1 l2 t101 ((bt106.1 == bt113.1 && (bt106.2 == bt113.2)) != (decide ((l1.length : Int) > 0))) bt106.1 bt106.2)) else (cleanselaw04_MeasureSets.j0 k l0 l1 l2 t101 ((bt106.1 == bt113.1 && (bt106.2 == bt113.2)) != false) bt106.1 bt106.2)))))) else (if ((bt106.1 == bt109.1 && (bt106.2 == bt109.2)) != false) = true then (cleanselaw04_MeasureSets.j0 k l0 l1 l2 t101 true bt106.1 bt106.2) else ((cleanselaw04_of.f 0 1).bind fun bt116 => ((cleanselaw04_apart.f k l0 l1).bind fun t118 => (if t118 = true then (if (l0.length : Int) > 0 then (cleanselaw04_MeasureSets.j0 k l0 l1 l2 t101 ((bt106.1 == bt116.1 && (bt106.2 == bt116.2)) != true) bt106.1 bt106.2) else (cleanselaw04_MeasureSets.j0 k l0 l1 l2 t101 ((bt106.1 == bt116.1 && (bt106.2 == bt116.2)) != (decide ((l1.length : Int) > 0))) bt106.1 bt106.2)) else (cleanselaw04_MeasureSets.j0 k l0 l1 l2 t101 ((bt106.1 == bt116.1 && (bt106.2 == bt116.2)) != false) bt106.1 bt106.2))))))))) else (some t101)))) = some r := h
 clear h
 replace H := Option.bind_eq_some_iff.mp H
 obtain ⟨t101, A40, H⟩ := H
 replace H : ((cleanseref04_Few.f k (([l0, l1, l2] : List (List ByteArray)))).bind fun t105 => (if t105 = true then ((measure_Jaccard.f k l0 l1).bind fun bt106 => ((cleanselaw04_of.f 1 1).bind fun bt109 => ((cleanselaw04_within.f k l0 l1).bind fun t111 => (if t111 = true then ((cleanselaw04_within.f k l1 l0).bind fun t112 => (if ((bt106.1 == bt109.1 && (bt106.2 == bt109.2)) != t112) = true then (cleanselaw04_MeasureSets.j0 k l0 l1 l2 t101 true bt106.1 bt106.2) else ((cleanselaw04_of.f 0 1).bind fun bt113 => ((cleanselaw04_apart.f k l0 l1).bind fun t115 => (if t115 = true then (if (l0.length : Int) > 0 then (cleanselaw04_MeasureSets.j0 k l0 l1 l2 t101 ((bt106.1 == bt113.1 && (bt106.2 == bt113.2)) != true) bt106.1 bt106.2) else (cleanselaw04_MeasureSets.j0 k l0 l1 l2 t101 ((bt106.1 == bt113.1 && (bt106.2 == bt113.2)) != (decide ((l1.length : Int) > 0))) bt106.1 bt106.2)) else (cleanselaw04_MeasureSets.j0 k l0 l1 l2 t101 ((bt106.1 == bt113.1 && (bt106.2 == bt113.2)) != false) bt106.1 bt106.2)))))) else (if ((bt106.1 == bt109.1 && (bt106.2 == bt109.2)) != false) = true then (cleanselaw04_MeasureSets.j0 k l0 l1 l2 t101 true bt106.1 bt106.2) else ((cleanselaw04_of.f 0 1).bind fun bt116 => ((cleanselaw04_apart.f k l0 l1).bind fun t118 => (if t118 = true then (if (l0.length : Int) > 0 then (cleanselaw04_MeasureSets.j0 k l0 l1 l2 t101 ((bt106.1 == bt116.1 && (bt106.2 == bt116.2)) != true) bt106.1 bt106.2) else (cleanselaw04_MeasureSets.j0 k l0 l1 l2 t101 ((bt106.1 == bt116.1 && (bt106.2 == bt116.2)) != (decide ((l1.length : Int) > 0))) bt106.1 bt106.2)) else (cleanselaw04_MeasureSets.j0 k l0 l1 l2 t101 ((bt106.1 == bt116.1 && (bt106.2 == bt116.2)) != false) bt106.1 bt106.2))))))))) else (some t101))) = some r := H
 have A4 := Aside0.mk A40
 clear A40
 obtain ⟨y102, hy102⟩ : ∃ y_ : List (List ByteArray), y_ = (([l0, l1, l2] : List (List ByteArray))) := ⟨_, rfl⟩
 replace H : ((cleanseref04_Few.f k y102).bind fun t105 => (if t105 = true then ((measure_Jaccard.f k l0 l1).bind fun bt106 => ((cleanselaw04_of.f 1 1).bind fun bt109 => ((cleanselaw04_within.f k l0 l1).bind fun t111 => (if t111 = true then ((cleanselaw04_within.f k l1 l0).bind fun t112 => (if ((bt106.1 == bt109.1 && (bt106.2 == bt109.2)) != t112) = true then (cleanselaw04_MeasureSets.j0 k l0 l1 l2 t101 true bt106.1 bt106.2) else ((cleanselaw04_of.f 0 1).bind fun bt113 => ((cleanselaw04_apart.f k l0 l1).bind fun t115 => (if t115 = true then (if (l0.length : Int) > 0 then (cleanselaw04_MeasureSets.j0 k l0 l1 l2 t101 ((bt106.1 == bt113.1 && (bt106.2 == bt113.2)) != true) bt106.1 bt106.2) else (cleanselaw04_MeasureSets.j0 k l0 l1 l2 t101 ((bt106.1 == bt113.1 && (bt106.2 == bt113.2)) != (decide ((l1.length : Int) > 0))) bt106.1 bt106.2)) else (cleanselaw04_MeasureSets.j0 k l0 l1 l2 t101 ((bt106.1 == bt113.1 && (bt106.2 == bt113.2)) != false) bt106.1 bt106.2)))))) else (if ((bt106.1 == bt109.1 && (bt106.2 == bt109.2)) != false) = true then (cleanselaw04_MeasureSets.j0 k l0 l1 l2 t101 true bt106.1 bt106.2) else ((cleanselaw04_of.f 0 1).bind fun bt116 => ((cleanselaw04_apart.f k l0 l1).bind fun t118 => (if t118 = true then (if (l0.length : Int) > 0 then (cleanselaw04_MeasureSets.j0 k l0 l1 l2 t101 ((bt106.1 == bt116.1 && (bt106.2 == bt116.2)) != true) bt106.1 bt106.2) else (cleanselaw04_MeasureSets.j0 k l0 l1 l2 t101 ((bt106.1 == bt116.1 && (bt106.2 == bt116.2)) != (decide ((l1.length : Int) > 0))) bt106.1 bt106.2)) else (cleanselaw04_MeasureSets.j0 k l0 l1 l2 t101 ((bt106.1 == bt116.1 && (bt106.2 == bt116.2)) != false) bt106.1 bt106.2))))))))) else (some t101))) = some r := by (rw [hy102]; with_reducible exact H)
 have Ny102 := Aside0.mk hy102
 clear hy102
 replace H := Option.bind_eq_some_iff.mp H
 obtain ⟨t105, A50, H⟩ := H
 replace H : (if t105 = true then ((measure_Jaccard.f k l0 l1).bind fun bt106 => ((cleanselaw04_of.f 1 1).bind fun bt109 => ((cleanselaw04_within.f k l0 l1).bind fun t111 => (if t111 = true then ((cleanselaw04_within.f k l1 l0).bind fun t112 => (if ((bt106.1 == bt109.1 && (bt106.2 == bt109.2)) != t112) = true then (cleanselaw04_MeasureSets.j0 k l0 l1 l2 t101 true bt106.1 bt106.2) else ((cleanselaw04_of.f 0 1).bind fun bt113 => ((cleanselaw04_apart.f k l0 l1).bind fun t115 => (if t115 = true then (if (l0.length : Int) > 0 then (cleanselaw04_MeasureSets.j0 k l0 l1 l2 t101 ((bt106.1 == bt113.1 && (bt106.2 == bt113.2)) != true) bt106.1 bt106.2) else (cleanselaw04_MeasureSets.j0 k l0 l1 l2 t101 ((bt106.1 == bt113.1 && (bt106.2 == bt113.2)) != (decide ((l1.length : Int) > 0))) bt106.1 bt106.2)) else (cleanselaw04_MeasureSets.j0 k l0 l1 l2 t101 ((bt106.1 == bt113.1 && (bt106.2 == bt113.2)) != false) bt106.1 bt106.2)))))) else (if ((bt106.1 == bt109.1 && (bt106.2 == bt109.2)) != false) = true then (cleanselaw04_MeasureSets.j0 k l0 l1 l2 t101 true bt106.1 bt106.2) else ((cleanselaw04_of.f 0 1).bind fun bt116 => ((cleanselaw04_apart.f k l0 l1).bind fun t118 => (if t118 = true then (if (l0.length : Int) > 0 then (cleanselaw04_MeasureSets.j0 k l0 l1 l2 t101 ((bt106.1 == bt116.1 && (bt106.2 == bt116.2)) != true) bt106.1 bt106.2) else (cleanselaw04_MeasureSets.j0 k l0 l1 l2 t101 ((bt106.1 == bt116.1 && (bt106.2 == bt116.2)) != (decide ((l1.length : Int) > 0))) bt106.1 bt106.2)) else (cleanselaw04_MeasureSets.j0 k l0 l1 l2 t101 ((bt106.1 == bt116.1 && (bt106.2 == bt116.2)) != false) bt106.1 bt106.2))))))))) else (some t101)) = some r := H
 have A5 := Aside0.mk A50
 clear A50
 by_cases c6 : t105 = true
 ·subst c6
  have H1 : ((measure_Jaccard.f k l0 l1).bind fun bt106 => ((cleanselaw04_of.f 1 1).bind fun bt109 => ((cleanselaw04_within.f k l0 l1).bind fun t111 => (if t111 = true then ((cleanselaw04_within.f k l1 l0).bind fun t112 => (if ((bt106.1 == bt109.1 && (bt106.2 == bt109.2)) != t112) = true then (cleanselaw04_MeasureSets.j0 k l0 l1 l2 t101 true bt106.1 bt106.2) else ((cleanselaw04_of.f 0 1).bind fun bt113 => ((cleanselaw04_apart.f k l0 l1).bind fun t115 => (if t115 = true then (if (l0.length : Int) > 0 then (cleanselaw04_MeasureSets.j0 k l0 l1 l2 t101 ((bt106.1 == bt113.1 && (bt106.2 == bt113.2)) != true) bt106.1 bt106.2) else (cleanselaw04_MeasureSets.j0 k l0 l1 l2 t101 ((bt106.1 == bt113.1 && (bt106.2 == bt113.2)) != (decide ((l1.length : Int) > 0))) bt106.1 bt106.2)) else (cleanselaw04_MeasureSets.j0 k l0 l1 l2 t101 ((bt106.1 == bt113.1 && (bt106.2 == bt113.2)) != false) bt106.1 bt106.2)))))) else (if ((bt106.1 == bt109.1 && (bt106.2 == bt109.2)) != false) = true then (cleanselaw04_MeasureSets.j0 k l0 l1 l2 t101 true bt106.1 bt106.2) else ((cleanselaw04_of.f 0 1).bind fun bt116 => ((cleanselaw04_apart.f k l0 l1).bind fun t118 => (if t118 = true then (if (l0.length : Int) > 0 then (cleanselaw04_MeasureSets.j0 k l0 l1 l2 t101 ((bt106.1 == bt116.1 && (bt106.2 == bt116.2)) != true) bt106.1 bt106.2) else (cleanselaw04_MeasureSets.j0 k l0 l1 l2 t101 ((bt106.1 == bt116.1 && (bt106.2 == bt116.2)) != (decide ((l1.length : Int) > 0))) bt106.1 bt106.2)) else (cleanselaw04_MeasureSets.j0 k l0 l1 l2 t101 ((bt106.1 == bt116.1 && (bt106.2 == bt116.2)) != false) bt106.1 bt106.2))))))))) = some r := by rw [if_pos rfl] at H; exact H
  clear H
  have H := H1
  clear H1
  replace H := Option.bind_eq_some_iff.mp H
  obtain ⟨⟨t106, t107⟩, A70, H⟩ := H
  replace H : ((cleanselaw04_of.f 1 1).bind fun bt109 => ((cleanselaw04_within.f k l0 l1).bind fun t111 => (if t111 = true then ((cleanselaw04_within.f k l1 l0).bind fun t112 => (if ((t106 == bt109.1 && (t107 == bt109.2)) != t112) = true then (cleanselaw04_MeasureSets.j0 k l0 l1 l2 t101 true t106 t107) else ((cleanselaw04_of.f 0 1).bind fun bt113 => ((cleanselaw04_apart.f k l0 l1).bind fun t115 => (if t115 = true then (if (l0.length : Int) > 0 then (cleanselaw04_MeasureSets.j0 k l0 l1 l2 t101 ((t106 == bt113.1 && (t107 == bt113.2)) != true) t106 t107) else (cleanselaw04_MeasureSets.j0 k l0 l1 l2 t101 ((t106 == bt113.1 && (t107 == bt113.2)) != (decide ((l1.length : Int) > 0))) t106 t107)) else (cleanselaw04_MeasureSets.j0 k l0 l1 l2 t101 ((t106 == bt113.1 && (t107 == bt113.2)) != false) t106 t107)))))) else (if ((t106 == bt109.1 && (t107 == bt109.2)) != false) = true then (cleanselaw04_MeasureSets.j0 k l0 l1 l2 t101 true t106 t107) else ((cleanselaw04_of.f 0 1).bind fun bt116 => ((cleanselaw04_apart.f k l0 l1).bind fun t118 => (if t118 = true then (if (l0.length : Int) > 0 then (cleanselaw04_MeasureSets.j0 k l0 l1 l2 t101 ((t106 == bt116.1 && (t107 == bt116.2)) != true) t106 t107) else (cleanselaw04_MeasureSets.j0 k l0 l1 l2 t101 ((t106 == bt116.1 && (t107 == bt116.2)) != (decide ((l1.length : Int) > 0))) t106 t107)) else (cleanselaw04_MeasureSets.j0 k l0 l1 l2 t101 ((t106 == bt116.1 && (t107 == bt116.2)) != false) t106 t107)))))))) = some r := H
  have A7 := Aside0.mk A70
  clear A70
  have HC8 := Aside0.mk H
  clear H
  go_enter Tryd.func10, Tryd.ntmps10
  go_upto_region 5 with (first | ((with_reducible refine gate_callee (f := 11) rfl ?_); refine goesL_ (some 15) rfl rfl Tryd.func11 (by kernel_rfl) rfl #[] rfl (by (try simp only [List.map_toArray, List.map_cons, List.map_nil]); done) ?_; (with_reducible refine (cleanselaw04_head.calls  t101 _ ?sGl A4.out).mono ?_); (case sGl => exact Gl.below HGl.out (by repeat ((with_reducible (exact HB.out))))); rintro e w9 ⟨rfl, hb⟩; refine ⟨_, rfl, ?_⟩; have n0_ := Aside0.mk (Kd.V_below (by (with_reducible skip); exact HO0.out) hb); have n1_ := Aside0.mk (Kd.V_below (by (with_reducible skip); exact HO1.out) hb); have n2_ := Aside0.mk (Kd.V_below (by (with_reducible skip); exact HO2.out) hb); have n3_ := Aside0.mk (below_step (by repeat ((with_reducible (exact HB.out)))) hb); clear HO0; clear HO1; clear HO2; clear HB; have HO0 := n0_; have HO1 := n1_; have HO2 := n2_; have HB := n3_; clear n0_ n1_ n2_ n3_; (try clear hb)) | ((with_reducible refine gate_dst (N := 19) rfl ?_); (try (refine gate_guard (by rfl) ?_; dsimp only)); refine Kd.N_lit (Kd.slice 9 Kd.string) _ 22 ?hg (N' := 19) ?hd (xs := ([l0, l1, l2] : List (List ByteArray))) (inner := [.slice A0 l0.length c0, .slice A1 l1.length c1, .slice A2 l2.length c2]) (ok := (fun k_ => ((P0_ k_ ∨ P1_ k_ ∨ P2_ k_) ∨ w.heap.size ≤ k_))) (okp := (fun k_ => ((P0_ k_ ∨ P1_ k_ ∨ P2_ k_) ∨ w.heap.size ≤ k_))) ?hr ?hp (fun _ hk => hk) ((show ∀ k_, w9.heap.size ≤ k_ → (fun k_ => ((P0_ k_ ∨ P1_ k_ ∨ P2_ k_) ∨ w.heap.size ≤ k_)) k_ from fun k_ hk => (.inr (Nat.le_trans (below_size (by repeat ((with_reducible (exact HB.out))))) hk))) _ (Nat.le_refl _)) (Below.refl _ _) (Nat.le_refl _) (by simp) ?_; (case hd => rfl); (case hg => rfl); (case hr => (go_simp; done)); (case hp => (exact (Reps.one (show Kd.FK (Kd.slice 9 Kd.string) _ _ l0 [.slice A0 l0.length c0] from (Kd.FK_slice_mk (Kd.V_reads' (Kd.V_mono (ok' := (fun k_ => ((P0_ k_ ∨ P1_ k_ ∨ P2_ k_) ∨ w.heap.size ≤ k_))) (HO0.out) (fun k_ hk => hk))).2.1 (Kd.V_F (Kd.V_mono (ok' := (fun k_ => ((P0_ k_ ∨ P1_ k_ ∨ P2_ k_) ∨ w.heap.size ≤ k_))) (HO0.out) (fun k_ hk => hk))))) (Reps.one (show Kd.FK (Kd.slice 9 Kd.string) _ _ l1 [.slice A1 l1.length c1] from (Kd.FK_slice_mk (Kd.V_reads' (Kd.V_mono (ok' := (fun k_ => ((P0_ k_ ∨ P1_ k_ ∨ P2_ k_) ∨ w.heap.size ≤ k_))) (HO1.out) (fun k_ hk => hk))).2.1 (Kd.V_F (Kd.V_mono (ok' := (fun k_ => ((P0_ k_ ∨ P1_ k_ ∨ P2_ k_) ∨ w.heap.size ≤ k_))) (HO1.out) (fun k_ hk => hk))))) (Reps.one (show Kd.FK (Kd.slice 9 Kd.string) _ _ l2 [.slice A2 l2.length c2] from (Kd.FK_slice_mk (Kd.V_reads' (Kd.V_mono (ok' := (fun k_ => ((P0_ k_ ∨ P1_ k_ ∨ P2_ k_) ∨ w.heap.size ≤ k_))) (HO2.out) (fun k_ hk => hk))).2.1 (Kd.V_F (Kd.V_mono (ok' := (fun k_ => ((P0_ k_ ∨ P1_ k_ ∨ P2_ k_) ∨ w.heap.size ≤ k_))) (HO2.out) (fun k_ hk => hk))))) (Reps.none _ _)))))); intro v103 w10 ho11 hb hg_ hnew_; clear hg_ hnew_; ((rw [← Ny102.out] at ho11)); have n0_ := Aside0.mk (Kd.V_elder' (by (with_reducible skip); exact HO0.out) (Kd.N_base ho11) hb); have n1_ := Aside0.mk (Kd.V_elder' (by (with_reducible skip); exact HO1.out) (Kd.N_base ho11) hb); have n2_ := Aside0.mk (Kd.V_elder' (by (with_reducible skip); exact HO2.out) (Kd.N_base ho11) hb); have n3_ := Aside0.mk (Kd.N_lower ho11 (below_size (by repeat ((with_reducible (exact HB.out)))))); have n4_ := Aside0.mk (below_step (by repeat ((with_reducible (exact HB.out)))) hb); clear HO0; clear HO1; clear HO2; clear HB; have HO0 := n0_; have HO1 := n1_; have HO2 := n2_; have HO104 := n3_; have HB := n4_; clear n0_ n1_ n2_ n3_ n4_; clear hb ho11; obtain ⟨Ao12, co12, eo12⟩ := Kd.N_slice HO104.out; subst eo12) | ((with_reducible refine gate_callee (f := 29) rfl ?_); refine goesL_ (some 20) rfl rfl Tryd.func29 (by kernel_rfl) rfl #[.slice Ao12 y102.length co12] rfl (by (try simp only [List.map_toArray, List.map_cons, List.map_nil]); rfl) ?_; (with_reducible refine (cleanseref04_Few.calls k _ _ y102 true _ ?side1 ?side2 A5.out).mono ?_); (case side1 => repeat ((exact (Kd.N_reads' HO104.out).2.2))); (case side2 => exact (Kd.N_reads' HO104.out).2.1); rintro e w' ⟨rfl, ⟨nd, rfl⟩⟩; refine ⟨_, rfl, ?_⟩; (try (rw [drewN_self w10]; generalize hq_ : World.drewN w10 _ = w10; have n0_ : Aside0 (Kd.V Kd.string 9 w10 w.heap.size (fun k_ => ((P0_ k_ ∨ P1_ k_ ∨ P2_ k_) ∨ w.heap.size ≤ k_) ∧ some k_ ≠ (.slice Ao12 y102.length co12 : Value).ownBlock) (.slice A0 l0.length c0) l0) := ⟨by rw [← hq_]; exact (by (with_reducible repeat ((apply Kd.V_drewN))); exact HO0.out)⟩; have n1_ : Aside0 (Kd.V Kd.string 9 w10 w.heap.size (fun k_ => ((P0_ k_ ∨ P1_ k_ ∨ P2_ k_) ∨ w.heap.size ≤ k_) ∧ some k_ ≠ (.slice Ao12 y102.length co12 : Value).ownBlock) (.slice A1 l1.length c1) l1) := ⟨by rw [← hq_]; exact (by (with_reducible repeat ((apply Kd.V_drewN))); exact HO1.out)⟩; have n2_ : Aside0 (Kd.N (Kd.slice 9 Kd.string) 22 w10 w.heap.size (fun k_ => ((P0_ k_ ∨ P1_ k_ ∨ P2_ k_) ∨ w.heap.size ≤ k_)) (.slice Ao12 y102.length co12) y102) := ⟨by rw [← hq_]; exact (by (with_reducible repeat ((apply Kd.N_drewN))); exact HO104.out)⟩; have n3_ : Aside0 (Kd.V Kd.string 9 w10 w.heap.size (fun k_ => ((P0_ k_ ∨ P1_ k_ ∨ P2_ k_) ∨ w.heap.size ≤ k_) ∧ some k_ ≠ (.slice Ao12 y102.length co12 : Value).ownBlock) (.slice A2 l2.length c2) l2) := ⟨by rw [← hq_]; exact (by (with_reducible repeat ((apply Kd.V_drewN))); exact HO2.out)⟩; have n4_ : Aside0 (Below w.heap.size w w10) := ⟨by rw [← hq_]; exact (by repeat ((with_reducible first | exact HB.out | apply pw_below_drewN)))⟩; clear HO0 HO1 HO104 HO2 HB hq_; have HO0 := n0_; have HO1 := n1_; have HO104 := n2_; have HO2 := n3_; have HB := n4_; clear n0_ n1_ n2_ n3_ n4_))) | ((with_reducible refine gate_callee (f := 18) rfl ?_); refine goesL_ (some 25) rfl rfl Tryd.func18 (by kernel_rfl) rfl #[.slice A0 l0.length c0, .slice A1 l1.length c1] rfl (by (try simp only [List.map_toArray, List.map_cons, List.map_nil]); rfl) ?_; (with_reducible refine (measure_Jaccard.calls k _ _ l0 _ _ l1 t106 t107 _ ?side1 ?side2 ?side3 ?side4 ?sGl A7.out).mono ?_); (case sGl => exact Gl.below HGl.out (by repeat ((with_reducible (exact HB.out))))); (case side1 => repeat ((exact (Kd.V_reads' HO0.out).2.2))); (case side2 => exact (Kd.V_reads' HO0.out).2.1); (case side3 => repeat ((exact (Kd.V_reads' HO1.out).2.2))); (case side4 => exact (Kd.V_reads' HO1.out).2.1); rintro e w13 ⟨rfl, hb⟩; refine ⟨_, rfl, ?_⟩; have n0_ := Aside0.mk (Kd.V_below (by (with_reducible skip); exact HO0.out) hb); have n1_ := Aside0.mk (Kd.V_below (by (with_reducible skip); exact HO1.out) hb); have n2_ := Aside0.mk (Kd.V_below (by (with_reducible skip); exact HO2.out) hb); have n3_ := Aside0.mk (Kd.N_below (by (with_reducible skip); exact HO104.out) hb); have n4_ := Aside0.mk (below_step (by repeat ((with_reducible (exact HB.out)))) hb); clear HO0; clear HO1; clear HO2; clear HO104; clear HB; have HO0 := n0_; have HO1 := n1_; have HO2 := n2_; have HO104 := n3_; have HB := n4_; clear n0_ n1_ n2_ n3_ n4_; (try clear hb)) | ((with_reducible refine gate_dst (N := 8) rfl ?_); (try (refine gate_guard (by rfl) ?_; dsimp only)); refine box_event ?hg (N := 8) ?hd (cs := #[.int .i64 0, .int .i64 0]) (t := 32) ?hr ?_; (case hd => rfl); (case hg => rfl); (case hr => (go_simp; done)); intro gb108 hg w14 hbox hb; have n0_ := Aside0.mk (Kd.V_below (Kd.V_elderB (by (with_reducible skip); exact HO0.out) gb108 (Nat.le_of_eq hg.symm)) hb); have n1_ := Aside0.mk (Kd.V_below (Kd.V_elderB (by (with_reducible skip); exact HO1.out) gb108 (Nat.le_of_eq hg.symm)) hb); have n2_ := Aside0.mk (Kd.V_below (Kd.V_elderB (by (with_reducible skip); exact HO2.out) gb108 (Nat.le_of_eq hg.symm)) hb); have n3_ := Aside0.mk (Kd.N_below (Kd.N_elderB (by (with_reducible skip); exact HO104.out) gb108 (Nat.le_of_eq hg.symm)) hb); have n4_ := Aside0.mk (below_step (by repeat ((with_reducible (exact HB.out)))) hb); have n5_ := Aside0.mk (hbox); have n6_ := Aside0.mk ((by rw [hg]; exact (below_size (by repeat ((with_reducible (exact HB.out))))) : w.heap.size ≤ gb108)); have n7_ := Aside0.mk ((by rw [hg]; exact (below_size (by repeat ((with_reducible (exact HB.out))))) : w.heap.size ≤ gb108)); clear HO0; clear HO1; clear HO2; clear HO104; clear HB; have HO0 := n0_; have HO1 := n1_; have HO2 := n2_; have HO104 := n3_; have HB := n4_; have BK108 := n5_; have GW108 := n6_; have GE108 := n7_; clear n0_ n1_ n2_ n3_ n4_ n5_ n6_ n7_; clear hb hbox hg; have hcz15_0 : w14.cell? ⟨gb108, 0, none⟩ = some (.int .i64 0) := (blk_cell BK108.out 0).trans rfl; have hcz15_1 : w14.cell? ⟨gb108, 1, none⟩ = some (.int .i64 0) := (blk_cell BK108.out 1).trans rfl; have hfz15_0 := blk_frozen BK108.out 0; have hfz15_1 := blk_frozen BK108.out 1))
  go_cut [56] (fun v56 wc => ∃ (kq : Nat) (x56_7 : Bool), v56 = .bool x56_7 ∧ Aside0 (cleanselaw04_MeasureSets.j0 kq l0 l1 l2 t101 x56_7 t106 t107 = some r) ∧ Aside0 (kq ≤ k) ∧ Aside0 (Kd.V Kd.string 9 wc w.heap.size (fun k_ => ((P0_ k_ ∨ P1_ k_ ∨ P2_ k_) ∨ w.heap.size ≤ k_) ∧ k_ ≠ gb108) (.slice A0 l0.length c0) l0) ∧ Aside0 (Kd.V Kd.string 9 wc w.heap.size (fun k_ => ((P0_ k_ ∨ P1_ k_ ∨ P2_ k_) ∨ w.heap.size ≤ k_) ∧ k_ ≠ gb108) (.slice A1 l1.length c1) l1) ∧ Aside0 (Kd.V Kd.string 9 wc w.heap.size (fun k_ => ((P0_ k_ ∨ P1_ k_ ∨ P2_ k_) ∨ w.heap.size ≤ k_) ∧ k_ ≠ gb108) (.slice A2 l2.length c2) l2) ∧ Aside0 (wc.heap[gb108]? = some (.cells #[.int .i64 t106, .int .i64 t107] 32 (0, 0))) ∧ Aside0 (Below w.heap.size w wc))
  case first =>
   have H := HC8.out
   clear HC8
   replace H := Option.bind_eq_some_iff.mp H
   obtain ⟨⟨t109, t110⟩, A160, H⟩ := H
   replace H : ((cleanselaw04_within.f k l0 l1).bind fun t111 => (if t111 = true then ((cleanselaw04_within.f k l1 l0).bind fun t112 => (if ((t106 == t109 && (t107 == t110)) != t112) = true then (cleanselaw04_MeasureSets.j0 k l0 l1 l2 t101 true t106 t107) else ((cleanselaw04_of.f 0 1).bind fun bt113 => ((cleanselaw04_apart.f k l0 l1).bind fun t115 => (if t115 = true then (if (l0.length : Int) > 0 then (cleanselaw04_MeasureSets.j0 k l0 l1 l2 t101 ((t106 == bt113.1 && (t107 == bt113.2)) != true) t106 t107) else (cleanselaw04_MeasureSets.j0 k l0 l1 l2 t101 ((t106 == bt113.1 && (t107 == bt113.2)) != (decide ((l1.length : Int) > 0))) t106 t107)) else (cleanselaw04_MeasureSets.j0 k l0 l1 l2 t101 ((t106 == bt113.1 && (t107 == bt113.2)) != false) t106 t107)))))) else (if ((t106 == t109 && (t107 == t110)) != false) = true then (cleanselaw04_MeasureSets.j0 k l0 l1 l2 t101 true t106 t107) else ((cleanselaw04_of.f 0 1).bind fun bt116 => ((cleanselaw04_apart.f k l0 l1).bind fun t118 => (if t118 = true then (if (l0.length : Int) > 0 then (cleanselaw04_MeasureSets.j0 k l0 l1 l2 t101 ((t106 == bt116.1 && (t107 == bt116.2)) != true) t106 t107) else (cleanselaw04_MeasureSets.j0 k l0 l1 l2 t101 ((t106 == bt116.1 && (t107 == bt116.2)) != (decide ((l1.length : Int) > 0))) t106 t107)) else (cleanselaw04_MeasureSets.j0 k l0 l1 l2 t101 ((t106 == bt116.1 && (t107 == bt116.2)) != false) t106 t107))))))) = some r := H
   have A16 := Aside0.mk A160
   clear A160
   replace H := Option.bind_eq_some_iff.mp H
   obtain ⟨t111, A170, H⟩ := H
   replace H : (if t111 = true then ((cleanselaw04_within.f k l1 l0).bind fun t112 => (if ((t106 == t109 && (t107 == t110)) != t112) = true then (cleanselaw04_MeasureSets.j0 k l0 l1 l2 t101 true t106 t107) else ((cleanselaw04_of.f 0 1).bind fun bt113 => ((cleanselaw04_apart.f k l0 l1).bind fun t115 => (if t115 = true then (if (l0.length : Int) > 0 then (cleanselaw04_MeasureSets.j0 k l0 l1 l2 t101 ((t106 == bt113.1 && (t107 == bt113.2)) != true) t106 t107) else (cleanselaw04_MeasureSets.j0 k l0 l1 l2 t101 ((t106 == bt113.1 && (t107 == bt113.2)) != (decide ((l1.length : Int) > 0))) t106 t107)) else (cleanselaw04_MeasureSets.j0 k l0 l1 l2 t101 ((t106 == bt113.1 && (t107 == bt113.2)) != false) t106 t107)))))) else (if ((t106 == t109 && (t107 == t110)) != false) = true then (cleanselaw04_MeasureSets.j0 k l0 l1 l2 t101 true t106 t107) else ((cleanselaw04_of.f 0 1).bind fun bt116 => ((cleanselaw04_apart.f k l0 l1).bind fun t118 => (if t118 = true then (if (l0.length : Int) > 0 then (cleanselaw04_MeasureSets.j0 k l0 l1 l2 t101 ((t106 == bt116.1 && (t107 == bt116.2)) != true) t106 t107) else (cleanselaw04_MeasureSets.j0 k l0 l1 l2 t101 ((t106 == bt116.1 && (t107 == bt116.2)) != (decide ((l1.length : Int) > 0))) t106 t107)) else (cleanselaw04_MeasureSets.j0 k l0 l1 l2 t101 ((t106 == bt116.1 && (t107 == bt116.2)) != false) t106 t107)))))) = some r := H
   have A17 := Aside0.mk A170
   clear A170
   by_cases c18 : t111 = true
   ·subst c18
    have H1 : ((cleanselaw04_within.f k l1 l0).bind fun t112 => (if ((t106 == t109 && (t107 == t110)) != t112) = true then (cleanselaw04_MeasureSets.j0 k l0 l1 l2 t101 true t106 t107) else ((cleanselaw04_of.f 0 1).bind fun bt113 => ((cleanselaw04_apart.f k l0 l1).bind fun t115 => (if t115 = true then (if (l0.length : Int) > 0 then (cleanselaw04_MeasureSets.j0 k l0 l1 l2 t101 ((t106 == bt113.1 && (t107 == bt113.2)) != true) t106 t107) else (cleanselaw04_MeasureSets.j0 k l0 l1 l2 t101 ((t106 == bt113.1 && (t107 == bt113.2)) != (decide ((l1.length : Int) > 0))) t106 t107)) else (cleanselaw04_MeasureSets.j0 k l0 l1 l2 t101 ((t106 == bt113.1 && (t107 == bt113.2)) != false) t106 t107)))))) = some r := by rw [if_pos rfl] at H; exact H
    clear H
    have H := H1
    clear H1
    replace H := Option.bind_eq_some_iff.mp H
    obtain ⟨t112, A190, H⟩ := H
    replace H : (if ((t106 == t109 && (t107 == t110)) != t112) = true then (cleanselaw04_MeasureSets.j0 k l0 l1 l2 t101 true t106 t107) else ((cleanselaw04_of.f 0 1).bind fun bt113 => ((cleanselaw04_apart.f k l0 l1).bind fun t115 => (if t115 = true then (if (l0.length : Int) > 0 then (cleanselaw04_MeasureSets.j0 k l0 l1 l2 t101 ((t106 == bt113.1 && (t107 == bt113.2)) != true) t106 t107) else (cleanselaw04_MeasureSets.j0 k l0 l1 l2 t101 ((t106 == bt113.1 && (t107 == bt113.2)) != (decide ((l1.length : Int) > 0))) t106 t107)) else (cleanselaw04_MeasureSets.j0 k l0 l1 l2 t101 ((t106 == bt113.1 && (t107 == bt113.2)) != false) t106 t107))))) = some r := H
    have A19 := Aside0.mk A190
    clear A190
    by_cases c20 : ((t106 == t109 && (t107 == t110)) != t112) = true
    ·rw [if_pos c20] at H
     have c20b0 : ((t106 == t109 && (t107 == t110)) != t112) = true := c20
     (try (have c20b1 : decide ((t106 == t109 && (t107 == t110)) = t112) = false := by simpa using c20))
     (try (have c20b2 : ((t106 == t109 && (t107 == t110)) == t112) = false := by simpa using c20))
     (try (have c20b3 : ¬ ((t106 == t109 && (t107 == t110)) = t112) := by simpa using c20))
     clear c20
     exact (cleanselaw04_MeasureSets.j0_true H HT.out).elim
    ·rw [if_neg c20] at H
     have c20b0 : ((t106 == t109 && (t107 == t110)) != t112) = false := by simpa using c20
     (try (have c20b1 : decide ((t106 == t109 && (t107 == t110)) = t112) = true := by simpa using c20))
     (try (have c20b2 : ((t106 == t109 && (t107 == t110)) == t112) = true := by simpa using c20))
     clear c20
     replace H := Option.bind_eq_some_iff.mp H
     obtain ⟨⟨t113, t114⟩, A210, H⟩ := H
     replace H : ((cleanselaw04_apart.f k l0 l1).bind fun t115 => (if t115 = true then (if (l0.length : Int) > 0 then (cleanselaw04_MeasureSets.j0 k l0 l1 l2 t101 ((t106 == t113 && (t107 == t114)) != true) t106 t107) else (cleanselaw04_MeasureSets.j0 k l0 l1 l2 t101 ((t106 == t113 && (t107 == t114)) != (decide ((l1.length : Int) > 0))) t106 t107)) else (cleanselaw04_MeasureSets.j0 k l0 l1 l2 t101 ((t106 == t113 && (t107 == t114)) != false) t106 t107))) = some r := H
     have A21 := Aside0.mk A210
     clear A210
     replace H := Option.bind_eq_some_iff.mp H
     obtain ⟨t115, A220, H⟩ := H
     replace H : (if t115 = true then (if (l0.length : Int) > 0 then (cleanselaw04_MeasureSets.j0 k l0 l1 l2 t101 ((t106 == t113 && (t107 == t114)) != true) t106 t107) else (cleanselaw04_MeasureSets.j0 k l0 l1 l2 t101 ((t106 == t113 && (t107 == t114)) != (decide ((l1.length : Int) > 0))) t106 t107)) else (cleanselaw04_MeasureSets.j0 k l0 l1 l2 t101 ((t106 == t113 && (t107 == t114)) != false) t106 t107)) = some r := H
     have A22 := Aside0.mk A220
     clear A220
     by_cases c23 : t115 = true
     ·subst c23
      have H1 : (if (l0.length : Int) > 0 then (cleanselaw04_MeasureSets.j0 k l0 l1 l2 t101 ((t106 == t113 && (t107 == t114)) != true) t106 t107) else (cleanselaw04_MeasureSets.j0 k l0 l1 l2 t101 ((t106 == t113 && (t107 == t114)) != (decide ((l1.length : Int) > 0))) t106 t107)) = some r := by rw [if_pos rfl] at H; exact H
      clear H
      have H := H1
      clear H1
      by_cases c24 : (l0.length : Int) > 0
      ·rw [if_pos c24] at H
       have c24b0 : decide (0 < (l0.length : Int)) = true := decide_eq_true c24
       have c24b1 : decide (0 < l0.length) = true := decide_eq_true (by omega)
       clear c24
       have H' := Aside0.mk H
       clear H
       try go_wp2
       have n0_ : Aside0 (Kd.V Kd.string 9 ((w14.setCell ⟨gb108, 0, none⟩ (.int .i64 t106)).setCell ⟨gb108, 1, none⟩ (.int .i64 t107)) w.heap.size (fun k_ => ((P0_ k_ ∨ P1_ k_ ∨ P2_ k_) ∨ w.heap.size ≤ k_) ∧ some k_ ≠ (.slice Ao12 y102.length co12 : Value).ownBlock ∧ k_ ≠ gb108) (.slice A0 l0.length c0) l0) := ⟨by (with_reducible skip); exact Kd.V_mono (Kd.V_far (p := ⟨gb108, 1, none⟩) (Kd.V_far (p := ⟨gb108, 0, none⟩) (Kd.V_mono HO0.out (fun k_ hk => (⟨hk, hk.2⟩ : _ ∧ k_ ≠ gb108))) (fun _ hk => hk.2) (.int .i64 t106)) (fun _ hk => hk.2) (.int .i64 t107)) (fun _ hk => ⟨hk.1.1.1, ⟨hk.1.1.2, hk.1.2⟩⟩)⟩
       have n1_ : Aside0 (Kd.V Kd.string 9 ((w14.setCell ⟨gb108, 0, none⟩ (.int .i64 t106)).setCell ⟨gb108, 1, none⟩ (.int .i64 t107)) w.heap.size (fun k_ => ((P0_ k_ ∨ P1_ k_ ∨ P2_ k_) ∨ w.heap.size ≤ k_) ∧ some k_ ≠ (.slice Ao12 y102.length co12 : Value).ownBlock ∧ k_ ≠ gb108) (.slice A1 l1.length c1) l1) := ⟨by (with_reducible skip); exact Kd.V_mono (Kd.V_far (p := ⟨gb108, 1, none⟩) (Kd.V_far (p := ⟨gb108, 0, none⟩) (Kd.V_mono HO1.out (fun k_ hk => (⟨hk, hk.2⟩ : _ ∧ k_ ≠ gb108))) (fun _ hk => hk.2) (.int .i64 t106)) (fun _ hk => hk.2) (.int .i64 t107)) (fun _ hk => ⟨hk.1.1.1, ⟨hk.1.1.2, hk.1.2⟩⟩)⟩
       have n2_ : Aside0 (Kd.V Kd.string 9 ((w14.setCell ⟨gb108, 0, none⟩ (.int .i64 t106)).setCell ⟨gb108, 1, none⟩ (.int .i64 t107)) w.heap.size (fun k_ => ((P0_ k_ ∨ P1_ k_ ∨ P2_ k_) ∨ w.heap.size ≤ k_) ∧ some k_ ≠ (.slice Ao12 y102.length co12 : Value).ownBlock ∧ k_ ≠ gb108) (.slice A2 l2.length c2) l2) := ⟨by (with_reducible skip); exact Kd.V_mono (Kd.V_far (p := ⟨gb108, 1, none⟩) (Kd.V_far (p := ⟨gb108, 0, none⟩) (Kd.V_mono HO2.out (fun k_ hk => (⟨hk, hk.2⟩ : _ ∧ k_ ≠ gb108))) (fun _ hk => hk.2) (.int .i64 t106)) (fun _ hk => hk.2) (.int .i64 t107)) (fun _ hk => ⟨hk.1.1.1, ⟨hk.1.1.2, hk.1.2⟩⟩)⟩
       have n3_ : Aside0 (Kd.N (Kd.slice 9 Kd.string) 22 ((w14.setCell ⟨gb108, 0, none⟩ (.int .i64 t106)).setCell ⟨gb108, 1, none⟩ (.int .i64 t107)) w.heap.size (fun k_ => ((P0_ k_ ∨ P1_ k_ ∨ P2_ k_) ∨ w.heap.size ≤ k_) ∧ k_ ≠ gb108) (.slice Ao12 y102.length co12) y102) := ⟨by (with_reducible skip); exact Kd.N_mono (Kd.N_far (p := ⟨gb108, 1, none⟩) (Kd.N_far (p := ⟨gb108, 0, none⟩) (Kd.N_mono HO104.out (fun k_ hk => (⟨hk, hk.2⟩ : _ ∧ k_ ≠ gb108))) (fun _ hk => hk.2) (.int .i64 t106)) (fun _ hk => hk.2) (.int .i64 t107)) (fun _ hk => ⟨hk.1.1, hk.1.2⟩)⟩
       have n4_ : Aside0 (((w14.setCell ⟨gb108, 0, none⟩ (.int .i64 t106)).setCell ⟨gb108, 1, none⟩ (.int .i64 t107)).heap[gb108]? = some (.cells #[.int .i64 t106, .int .i64 t107] 32 (0, 0))) := ⟨by (with_reducible skip); refine blk_put (cs := #[.int .i64 t106, .int .i64 0]) ?_ 1 _ rfl; (with_reducible skip); refine blk_put (cs := #[.int .i64 0, .int .i64 0]) ?_ 0 _ rfl; (with_reducible skip); exact BK108.out⟩
       have n5_ : Aside0 (Below w.heap.size w ((w14.setCell ⟨gb108, 0, none⟩ (.int .i64 t106)).setCell ⟨gb108, 1, none⟩ (.int .i64 t107))) := ⟨by repeat ((with_reducible first | exact HB.out | refine below_set ?_ GE108.out))⟩
       (try clear HO0)
       (try clear HO1)
       (try clear HO2)
       (try clear HO104)
       (try clear BK108)
       (try clear HB)
       generalize ((w14.setCell ⟨gb108, 0, none⟩ (.int .i64 t106)).setCell ⟨gb108, 1, none⟩ (.int .i64 t107)) = w25 at n0_ n1_ n2_ n3_ n4_ n5_ ⊢
       have HO0 := n0_
       have HO1 := n1_
       have HO2 := n2_
       have HO104 := n3_
       have BK108 := n4_
       have HB := n5_
       clear n0_ n1_ n2_ n3_ n4_ n5_
       have n0_ := Aside0.mk (Kd.V_drew HO0.out)
       have n1_ := Aside0.mk (Kd.V_drew HO1.out)
       have n2_ := Aside0.mk (Kd.V_drew HO2.out)
       have n3_ := Aside0.mk (Kd.N_drew HO104.out)
       have n4_ := Aside0.mk (blk_drew BK108.out)
       have n5_ := Aside0.mk (below_drew1 HB.out)
       clear HO0
       clear HO1
       clear HO2
       clear HO104
       clear BK108
       clear HB
       have HO0 := n0_
       have HO1 := n1_
       have HO2 := n2_
       have HO104 := n3_
       have BK108 := n4_
       have HB := n5_
       clear n0_ n1_ n2_ n3_ n4_ n5_
       refine start_ (n := 31) (S := fun w' => w'.cell? ⟨gb108, 0, none⟩ = some (.int .i64 t106) ∧ w'.cell? ⟨gb108, 1, none⟩ = some (.int .i64 t107)) (ds := []) #[false, false, false, false, false, false, false, false, false, false, false, false, false, false, false, false, false, false, false, false, false, false, false, false, false, false, false, false, false, false, false] (by kernel_rfl) rfl rfl ⟨(blk_cell BK108.out 0).trans rfl, (blk_cell BK108.out 1).trans rfl⟩ (fun hHeld => ?_); refine with_tabW cleanselaw04_MeasureSets.tab5 cleanselaw04_MeasureSets.bits5 (fun HT_ HW_ => ?_)
       generalize w25.drew = w26 at HO0 HO1 HO2 HO104 BK108 HB hHeld ⊢
       refine pure_ (i := 3) (N := some 29) (v := ?_) (a' := ?_) #[false, false, false, true, false, false, false, false, false, false, false, false, false, false, false, false, false, false, false, false, false, false, false, false, false, false, false, false, false, false, false] rfl rfl (any_of HT_.out (by kernel_rfl)) (fun _ _ _ h => h) (Or.inl ⟨by rfl, ?_⟩) ?_ ?_
       rotate_left
       ·intro w'
        go_simp
        with_reducible rfl
       rotate_left
       ·simp only [Act.put, List.setIfInBounds_toArray, List.set_cons_zero, List.set_cons_succ, i64_w, i32_w]
        rfl
       refine pure_ (i := 4) (N := some 30) (v := ?_) (a' := ?_) #[false, false, false, true, true, false, false, false, false, false, false, false, false, false, false, false, false, false, false, false, false, false, false, false, false, false, false, false, false, false, false] rfl rfl (any_of HT_.out (by kernel_rfl)) (fun _ _ _ h => h) (Or.inl ⟨by rfl, ?_⟩) ?_ ?_
       rotate_left
       ·intro w'
        go_simp
        with_reducible rfl
       rotate_left
       ·simp only [Act.put, List.setIfInBounds_toArray, List.set_cons_zero, List.set_cons_succ, i64_w, i32_w]
        rfl
       refine take_ (i := 0) (N := some 26) (v := ?_) (a' := ?_) #[true, false, false, true, true, false, false, false, false, false, false, false, false, false, false, false, false, false, false, false, false, false, false, false, false, false, false, false, false, false, false] rfl rfl (take_ofW HT_.out HW_.out (by kernel_rfl)) (fun _ _ _ h => h) (Or.inl ⟨by rfl, ?_⟩) hHeld ?_ ?_
       rotate_left
       ·rintro w' ⟨s0, s1⟩
        go_simp
        with_reducible rfl
       rotate_left
       ·simp only [Act.put, List.setIfInBounds_toArray, List.set_cons_zero, List.set_cons_succ, i64_w, i32_w]
        rfl
       refine one_ (i := 1) (N := some 27) #[true, true, false, true, true, false, false, false, false, false, false, false, false, false, false, false, false, false, false, false, false, false, false, false, false, false, false, false, false, false, false] rfl rfl (one_of HT_.out (by kernel_rfl)) (by decide) (fun K hK => ?_)
       refine goes_ Tryd.func27 (by kernel_rfl) rfl #[.int .i64 1, .int .i64 1] (by rfl) rfl rfl (by (try simp only [List.map_toArray, List.map_cons, List.map_nil]); rfl) ?_
       with_reducible refine (cleanselaw04_of.calls 1 1 t109 t110 _ A16.out).mono ?_
       rintro e w27 ⟨rfl, hb⟩
       refine ⟨_, rfl, ?_⟩
       have n0_ := Aside0.mk (Kd.V_below (by (with_reducible skip); exact HO0.out) hb)
       have n1_ := Aside0.mk (Kd.V_below (by (with_reducible skip); exact HO1.out) hb)
       have n2_ := Aside0.mk (Kd.V_below (by (with_reducible skip); exact HO2.out) hb)
       have n3_ := Aside0.mk (Kd.N_below (by (with_reducible skip); exact HO104.out) hb)
       have n4_ := Aside0.mk (blk_below (g := gb108) (o := .cells #[.int .i64 t106, .int .i64 t107] 32 (0, 0)) (by (with_reducible skip); exact BK108.out) hb)
       have n5_ := Aside0.mk (below_step (by repeat ((with_reducible (exact HB.out)))) hb)
       clear HO0
       clear HO1
       clear HO2
       clear HO104
       clear BK108
       clear HB
       have HO0 := n0_
       have HO1 := n1_
       have HO2 := n2_
       have HO104 := n3_
       have BK108 := n4_
       have HB := n5_
       clear n0_ n1_ n2_ n3_ n4_ n5_
       (try clear hb)
       refine hK.out _ _ ⟨(blk_cell BK108.out 0).trans rfl, (blk_cell BK108.out 1).trans rfl⟩ (fun hHeld => ?_)
       clear hK K
       refine norm_ (a' := ?_) ?_ ?_
       rotate_left
       ·show Act.put _ (some 27) _ = _
        simp only [Act.put, List.setIfInBounds_toArray, List.set_cons_zero, List.set_cons_succ, i64_w, i32_w]
        rfl
       refine pure_ (i := 2) (N := some 28) (v := ?_) (a' := ?_) #[true, true, true, true, true, false, false, false, false, false, false, false, false, false, false, false, false, false, false, false, false, false, false, false, false, false, false, false, false, false, false] rfl rfl (any_of HT_.out (by kernel_rfl)) (fun _ _ _ h => h) (Or.inl ⟨by rfl, ?_⟩) ?_ ?_
       rotate_left
       ·intro w'
        go_simp
        with_reducible rfl
       rotate_left
       ·simp only [Act.put, List.setIfInBounds_toArray, List.set_cons_zero, List.set_cons_succ, i64_w, i32_w]
        rfl
       refine one_ (i := 5) (N := some 31) #[true, true, true, true, true, true, false, false, false, false, false, false, false, false, false, false, false, false, false, false, false, false, false, false, false, false, false, false, false, false, false] rfl rfl (one_of HT_.out (by kernel_rfl)) (by decide) (fun K hK => ?_)
       refine goes_ Tryd.func30 (by kernel_rfl) rfl #[.slice A0 l0.length c0, .slice A1 l1.length c1] (by rfl) rfl rfl (by (try simp only [List.map_toArray, List.map_cons, List.map_nil]); rfl) ?_
       with_reducible refine (cleanselaw04_within.calls k _ _ l0 _ _ l1 true _ ?side1 ?side2 ?side3 ?side4 A17.out).mono ?_
       (case side1 => repeat ((exact (Kd.V_reads' HO0.out).2.2)))
       (case side2 => exact (Kd.V_reads' HO0.out).2.1)
       (case side3 => repeat ((exact (Kd.V_reads' HO1.out).2.2)))
       (case side4 => exact (Kd.V_reads' HO1.out).2.1)
       rintro e w' ⟨rfl, ⟨nd, rfl⟩⟩
       refine ⟨_, rfl, ?_⟩
       refine hK.out _ _ ⟨(blk_cell BK108.out 0).trans rfl, (blk_cell BK108.out 1).trans rfl⟩ (fun hHeld => ?_)
       clear hK K
       refine norm_ (a' := ?_) ?_ ?_
       rotate_left
       ·show Act.put _ (some 31) _ = _
        simp only [Act.put, List.setIfInBounds_toArray, List.set_cons_zero, List.set_cons_succ, i64_w, i32_w]
        rfl
       refine pure_ (i := 6) (N := some 32) (v := ?_) (a' := ?_) #[true, true, true, true, true, true, true, false, false, false, false, false, false, false, false, false, false, false, false, false, false, false, false, false, false, false, false, false, false, false, false] rfl rfl (any_of HT_.out (by kernel_rfl)) (fun _ _ _ h => h) (Or.inl ⟨by rfl, ?_⟩) ?_ ?_
       rotate_left
       ·intro w'
        go_simp
        with_reducible rfl
       rotate_left
       ·simp only [Act.put, List.setIfInBounds_toArray, List.set_cons_zero, List.set_cons_succ, i64_w, i32_w]
        rfl
       refine pure_ (i := 7) (N := some 33) (v := ?_) (a' := ?_) #[true, true, true, true, true, true, true, true, false, false, false, false, false, false, false, false, false, false, false, false, false, false, false, false, false, false, false, false, false, false, false] rfl rfl (any_of HT_.out (by kernel_rfl)) (fun _ _ _ h => h) (Or.inl ⟨by rfl, ?_⟩) ?_ ?_
       rotate_left
       ·intro w'
        go_simp
        with_reducible rfl
       rotate_left
       ·simp only [Act.put, List.setIfInBounds_toArray, List.set_cons_zero, List.set_cons_succ, i64_w, i32_w]
        rfl
       refine pure_ (i := 8) (N := some 34) (v := ?_) (a' := ?_) #[true, true, true, true, true, true, true, true, true, false, false, false, false, false, false, false, false, false, false, false, false, false, false, false, false, false, false, false, false, false, false] rfl rfl (any_of HT_.out (by kernel_rfl)) (fun _ _ _ h => h) (Or.inl ⟨by rfl, ?_⟩) ?_ ?_
       rotate_left
       ·intro w'
        go_simp
        with_reducible rfl
       rotate_left
       ·simp only [Act.put, List.setIfInBounds_toArray, List.set_cons_zero, List.set_cons_succ, i64_w, i32_w]
        rfl
       refine one_ (i := 9) (N := some 35) #[true, true, true, true, true, true, true, true, true, true, false, false, false, false, false, false, false, false, false, false, false, false, false, false, false, false, false, false, false, false, false] rfl rfl (one_of HT_.out (by kernel_rfl)) (by decide) (fun K hK => ?_)
       refine goes_ Tryd.func30 (by kernel_rfl) rfl #[.slice A1 l1.length c1, .slice A0 l0.length c0] (by rfl) rfl rfl (by (try simp only [List.map_toArray, List.map_cons, List.map_nil]); rfl) ?_
       with_reducible refine (cleanselaw04_within.calls k _ _ l1 _ _ l0 t112 _ ?side1 ?side2 ?side3 ?side4 A19.out).mono ?_
       (case side1 => repeat ((exact (Kd.V_reads' HO1.out).2.2)))
       (case side2 => exact (Kd.V_reads' HO1.out).2.1)
       (case side3 => repeat ((exact (Kd.V_reads' HO0.out).2.2)))
       (case side4 => exact (Kd.V_reads' HO0.out).2.1)
       rintro e w' ⟨rfl, ⟨nd, rfl⟩⟩
       refine ⟨_, rfl, ?_⟩
       refine hK.out _ _ ⟨(blk_cell BK108.out 0).trans rfl, (blk_cell BK108.out 1).trans rfl⟩ (fun hHeld => ?_)
       clear hK K
       refine norm_ (a' := ?_) ?_ ?_
       rotate_left
       ·show Act.put _ (some 35) _ = _
        simp only [Act.put, List.setIfInBounds_toArray, List.set_cons_zero, List.set_cons_succ, i64_w, i32_w]
        rfl
       refine pure_ (i := 10) (N := some 36) (v := ?_) (a' := ?_) #[true, true, true, true, true, true, true, true, true, true, true, false, false, false, false, false, false, false, false, false, false, false, false, false, false, false, false, false, false, false, false] rfl rfl (any_of HT_.out (by kernel_rfl)) (fun _ _ _ h => h) (Or.inl ⟨by rfl, ?_⟩) ?_ ?_
       rotate_left
       ·intro w'
        go_simp
        with_reducible rfl
       rotate_left
       ·simp only [Act.put, List.setIfInBounds_toArray, List.set_cons_zero, List.set_cons_succ, i64_w, i32_w]
        rfl
       refine pure_ (i := 11) (N := some 37) (v := ?_) (a' := ?_) #[true, true, true, true, true, true, true, true, true, true, true, true, false, false, false, false, false, false, false, false, false, false, false, false, false, false, false, false, false, false, false] rfl rfl (any_of HT_.out (by kernel_rfl)) (fun _ _ _ h => h) (Or.inl ⟨by rfl, ?_⟩) ?_ ?_
       rotate_left
       ·intro w'
        go_simp
        with_reducible rfl
       rotate_left
       ·simp only [Act.put, List.setIfInBounds_toArray, List.set_cons_zero, List.set_cons_succ, i64_w, i32_w]
        rfl
       refine pure_ (i := 12) (N := some 38) (v := ?_) (a' := ?_) #[true, true, true, true, true, true, true, true, true, true, true, true, true, false, false, false, false, false, false, false, false, false, false, false, false, false, false, false, false, false, false] rfl rfl (any_of HT_.out (by kernel_rfl)) (fun _ _ _ h => h) (Or.inl ⟨by rfl, ?_⟩) ?_ ?_
       rotate_left
       ·intro w'
        go_simp
        with_reducible rfl
       rotate_left
       ·simp only [Act.put, List.setIfInBounds_toArray, List.set_cons_zero, List.set_cons_succ, i64_w, i32_w]
        rfl
       refine pure_ (i := 16) (N := some 42) (v := ?_) (a' := ?_) #[true, true, true, true, true, true, true, true, true, true, true, true, true, false, false, false, true, false, false, false, false, false, false, false, false, false, false, false, false, false, false] rfl rfl (any_of HT_.out (by kernel_rfl)) (fun _ _ _ h => h) (Or.inl ⟨by rfl, ?_⟩) ?_ ?_
       rotate_left
       ·intro w'
        go_simp
        with_reducible rfl
       rotate_left
       ·simp only [Act.put, List.setIfInBounds_toArray, List.set_cons_zero, List.set_cons_succ, i64_w, i32_w]
        rfl
       refine pure_ (i := 17) (N := some 43) (v := ?_) (a' := ?_) #[true, true, true, true, true, true, true, true, true, true, true, true, true, false, false, false, true, true, false, false, false, false, false, false, false, false, false, false, false, false, false] rfl rfl (any_of HT_.out (by kernel_rfl)) (fun _ _ _ h => h) (Or.inl ⟨by rfl, ?_⟩) ?_ ?_
       rotate_left
       ·intro w'
        go_simp
        with_reducible rfl
       rotate_left
       ·simp only [Act.put, List.setIfInBounds_toArray, List.set_cons_zero, List.set_cons_succ, i64_w, i32_w]
        rfl
       refine take_ (i := 13) (N := some 39) (v := ?_) (a' := ?_) #[true, true, true, true, true, true, true, true, true, true, true, true, true, true, false, false, true, true, false, false, false, false, false, false, false, false, false, false, false, false, false] rfl rfl (take_ofW HT_.out HW_.out (by kernel_rfl)) (fun _ _ _ h => h) (Or.inl ⟨by rfl, ?_⟩) hHeld ?_ ?_
       rotate_left
       ·rintro w' ⟨s0, s1⟩
        go_simp
        with_reducible rfl
       rotate_left
       ·simp only [Act.put, List.setIfInBounds_toArray, List.set_cons_zero, List.set_cons_succ, i64_w, i32_w]
        rfl
       refine one_ (i := 14) (N := some 40) #[true, true, true, true, true, true, true, true, true, true, true, true, true, true, true, false, true, true, false, false, false, false, false, false, false, false, false, false, false, false, false] rfl rfl (one_of HT_.out (by kernel_rfl)) (by decide) (fun K hK => ?_)
       refine goes_ Tryd.func27 (by kernel_rfl) rfl #[.int .i64 0, .int .i64 1] (by rfl) rfl rfl (by (try simp only [List.map_toArray, List.map_cons, List.map_nil]); rfl) ?_
       with_reducible refine (cleanselaw04_of.calls 0 1 t113 t114 _ A21.out).mono ?_
       rintro e w28 ⟨rfl, hb⟩
       refine ⟨_, rfl, ?_⟩
       have n0_ := Aside0.mk (Kd.V_below (by (with_reducible repeat ((apply Kd.V_drewN))); exact HO0.out) hb)
       have n1_ := Aside0.mk (Kd.V_below (by (with_reducible repeat ((apply Kd.V_drewN))); exact HO1.out) hb)
       have n2_ := Aside0.mk (Kd.V_below (by (with_reducible repeat ((apply Kd.V_drewN))); exact HO2.out) hb)
       have n3_ := Aside0.mk (Kd.N_below (by (with_reducible repeat ((apply Kd.N_drewN))); exact HO104.out) hb)
       have n4_ := Aside0.mk (blk_below (g := gb108) (o := .cells #[.int .i64 t106, .int .i64 t107] 32 (0, 0)) (by (with_reducible repeat ((refine blk_drewN ?_ _))); exact BK108.out) hb)
       have n5_ := Aside0.mk (below_step (by repeat ((with_reducible first | exact HB.out | apply pw_below_drewN))) hb)
       clear HO0
       clear HO1
       clear HO2
       clear HO104
       clear BK108
       clear HB
       have HO0 := n0_
       have HO1 := n1_
       have HO2 := n2_
       have HO104 := n3_
       have BK108 := n4_
       have HB := n5_
       clear n0_ n1_ n2_ n3_ n4_ n5_
       (try clear hb)
       refine hK.out _ _ ⟨(blk_cell BK108.out 0).trans rfl, (blk_cell BK108.out 1).trans rfl⟩ (fun hHeld => ?_)
       clear hK K
       refine norm_ (a' := ?_) ?_ ?_
       rotate_left
       ·show Act.put _ (some 40) _ = _
        simp only [Act.put, List.setIfInBounds_toArray, List.set_cons_zero, List.set_cons_succ, i64_w, i32_w]
        rfl
       refine pure_ (i := 15) (N := some 41) (v := ?_) (a' := ?_) #[true, true, true, true, true, true, true, true, true, true, true, true, true, true, true, true, true, true, false, false, false, false, false, false, false, false, false, false, false, false, false] rfl rfl (any_of HT_.out (by kernel_rfl)) (fun _ _ _ h => h) (Or.inl ⟨by rfl, ?_⟩) ?_ ?_
       rotate_left
       ·intro w'
        go_simp
        with_reducible rfl
       rotate_left
       ·simp only [Act.put, List.setIfInBounds_toArray, List.set_cons_zero, List.set_cons_succ, i64_w, i32_w]
        rfl
       refine one_ (i := 18) (N := some 44) #[true, true, true, true, true, true, true, true, true, true, true, true, true, true, true, true, true, true, true, false, false, false, false, false, false, false, false, false, false, false, false] rfl rfl (one_of HT_.out (by kernel_rfl)) (by decide) (fun K hK => ?_)
       refine goes_ Tryd.func31 (by kernel_rfl) rfl #[.slice A0 l0.length c0, .slice A1 l1.length c1] (by rfl) rfl rfl (by (try simp only [List.map_toArray, List.map_cons, List.map_nil]); rfl) ?_
       with_reducible refine (cleanselaw04_apart.calls k _ _ l0 _ _ l1 true _ ?side1 ?side2 ?side3 ?side4 A22.out).mono ?_
       (case side1 => repeat ((exact (Kd.V_reads' HO0.out).2.2)))
       (case side2 => exact (Kd.V_reads' HO0.out).2.1)
       (case side3 => repeat ((exact (Kd.V_reads' HO1.out).2.2)))
       (case side4 => exact (Kd.V_reads' HO1.out).2.1)
       rintro e w' ⟨rfl, ⟨nd, rfl⟩⟩
       refine ⟨_, rfl, ?_⟩
       refine hK.out _ _ ⟨(blk_cell BK108.out 0).trans rfl, (blk_cell BK108.out 1).trans rfl⟩ (fun hHeld => ?_)
       clear hK K
       refine norm_ (a' := ?_) ?_ ?_
       rotate_left
       ·show Act.put _ (some 44) _ = _
        simp only [Act.put, List.setIfInBounds_toArray, List.set_cons_zero, List.set_cons_succ, i64_w, i32_w]
        rfl
       refine pure_ (i := 19) (N := some 45) (v := ?_) (a' := ?_) #[true, true, true, true, true, true, true, true, true, true, true, true, true, true, true, true, true, true, true, true, false, false, false, false, false, false, false, false, false, false, false] rfl rfl (any_of HT_.out (by kernel_rfl)) (fun _ _ _ h => h) (Or.inl ⟨by rfl, ?_⟩) ?_ ?_
       rotate_left
       ·intro w'
        go_simp
        with_reducible rfl
       rotate_left
       ·simp only [Act.put, List.setIfInBounds_toArray, List.set_cons_zero, List.set_cons_succ, i64_w, i32_w]
        rfl
       refine pure_ (i := 20) (N := some 46) (v := ?_) (a' := ?_) #[true, true, true, true, true, true, true, true, true, true, true, true, true, true, true, true, true, true, true, true, true, false, false, false, false, false, false, false, false, false, false] rfl rfl (any_of HT_.out (by kernel_rfl)) (fun _ _ _ h => h) (Or.inl ⟨by rfl, ?_⟩) ?_ ?_
       rotate_left
       ·intro w'
        go_simp
        with_reducible rfl
       rotate_left
       ·simp only [Act.put, List.setIfInBounds_toArray, List.set_cons_zero, List.set_cons_succ, i64_w, i32_w]
        rfl
       refine pure_ (i := 21) (N := some 47) (v := ?_) (a' := ?_) #[true, true, true, true, true, true, true, true, true, true, true, true, true, true, true, true, true, true, true, true, true, true, false, false, false, false, false, false, false, false, false] rfl rfl (any_of HT_.out (by kernel_rfl)) (fun _ _ _ h => h) (Or.inl ⟨by rfl, ?_⟩) ?_ ?_
       rotate_left
       ·intro w'
        go_simp
        with_reducible rfl
       rotate_left
       ·simp only [Act.put, List.setIfInBounds_toArray, List.set_cons_zero, List.set_cons_succ, i64_w, i32_w]
        rfl
       refine pure_ (i := 22) (N := some 48) (v := ?_) (a' := ?_) #[true, true, true, true, true, true, true, true, true, true, true, true, true, true, true, true, true, true, true, true, true, true, true, false, false, false, false, false, false, false, false] rfl rfl (any_of HT_.out (by kernel_rfl)) (fun _ _ _ h => h) (Or.inl ⟨by rfl, ?_⟩) ?_ ?_
       rotate_left
       ·intro w'
        go_simp
        with_reducible rfl
       rotate_left
       ·simp only [Act.put, List.setIfInBounds_toArray, List.set_cons_zero, List.set_cons_succ, i64_w, i32_w]
        rfl
       refine pure_ (i := 23) (N := some 49) (v := ?_) (a' := ?_) #[true, true, true, true, true, true, true, true, true, true, true, true, true, true, true, true, true, true, true, true, true, true, true, true, false, false, false, false, false, false, false] rfl rfl (any_of HT_.out (by kernel_rfl)) (fun _ _ _ h => h) (Or.inl ⟨by rfl, ?_⟩) ?_ ?_
       rotate_left
       ·intro w'
        go_simp
        with_reducible rfl
       rotate_left
       ·simp only [Act.put, List.setIfInBounds_toArray, List.set_cons_zero, List.set_cons_succ, i64_w, i32_w]
        rfl
       refine pure_ (i := 24) (N := some 50) (v := undef) (a' := ?_) #[true, true, true, true, true, true, true, true, true, true, true, true, true, true, true, true, true, true, true, true, true, true, true, true, true, false, false, false, false, false, false] rfl rfl (any_of HT_.out (by kernel_rfl)) (fun _ _ _ h => h) (Or.inr ⟨by rfl, rfl⟩) ?_ ?_
       rotate_left
       ·simp only [Act.put, List.setIfInBounds_toArray, List.set_cons_zero, List.set_cons_succ, i64_w, i32_w]
        rfl
       refine pure_ (i := 25) (N := some 51) (v := undef) (a' := ?_) #[true, true, true, true, true, true, true, true, true, true, true, true, true, true, true, true, true, true, true, true, true, true, true, true, true, true, false, false, false, false, false] rfl rfl (any_of HT_.out (by kernel_rfl)) (fun _ _ _ h => h) (Or.inr ⟨by rfl, rfl⟩) ?_ ?_
       rotate_left
       ·simp only [Act.put, List.setIfInBounds_toArray, List.set_cons_zero, List.set_cons_succ, i64_w, i32_w]
        rfl
       refine pure_ (i := 26) (N := some 52) (v := undef) (a' := ?_) #[true, true, true, true, true, true, true, true, true, true, true, true, true, true, true, true, true, true, true, true, true, true, true, true, true, true, true, false, false, false, false] rfl rfl (any_of HT_.out (by kernel_rfl)) (fun _ _ _ h => h) (Or.inr ⟨by rfl, rfl⟩) ?_ ?_
       rotate_left
       ·simp only [Act.put, List.setIfInBounds_toArray, List.set_cons_zero, List.set_cons_succ, i64_w, i32_w]
        rfl
       refine pure_ (i := 27) (N := some 53) (v := ?_) (a' := ?_) #[true, true, true, true, true, true, true, true, true, true, true, true, true, true, true, true, true, true, true, true, true, true, true, true, true, true, true, true, false, false, false] rfl rfl (any_of HT_.out (by kernel_rfl)) (fun _ _ _ h => h) (Or.inl ⟨by rfl, ?_⟩) ?_ ?_
       rotate_left
       ·intro w'
        go_simp
        with_reducible rfl
       rotate_left
       ·simp only [Act.put, List.setIfInBounds_toArray, List.set_cons_zero, List.set_cons_succ, i64_w, i32_w]
        rfl
       refine pure_ (i := 28) (N := some 54) (v := ?_) (a' := ?_) #[true, true, true, true, true, true, true, true, true, true, true, true, true, true, true, true, true, true, true, true, true, true, true, true, true, true, true, true, true, false, false] rfl rfl (any_of HT_.out (by kernel_rfl)) (fun _ _ _ h => h) (Or.inl ⟨by rfl, ?_⟩) ?_ ?_
       rotate_left
       ·intro w'
        go_simp
        with_reducible rfl
       rotate_left
       ·simp only [Act.put, List.setIfInBounds_toArray, List.set_cons_zero, List.set_cons_succ, i64_w, i32_w]
        rfl
       refine pure_ (i := 29) (N := some 55) (v := ?_) (a' := ?_) #[true, true, true, true, true, true, true, true, true, true, true, true, true, true, true, true, true, true, true, true, true, true, true, true, true, true, true, true, true, true, false] rfl rfl (any_of HT_.out (by kernel_rfl)) (fun _ _ _ h => h) (Or.inl ⟨by rfl, ?_⟩) ?_ ?_
       rotate_left
       ·intro w'
        go_simp
        with_reducible rfl
       rotate_left
       ·simp only [Act.put, List.setIfInBounds_toArray, List.set_cons_zero, List.set_cons_succ, i64_w, i32_w]
        rfl
       refine pure_ (i := 30) (N := some 56) (v := ?_) (a' := ?_) #[true, true, true, true, true, true, true, true, true, true, true, true, true, true, true, true, true, true, true, true, true, true, true, true, true, true, true, true, true, true, true] rfl rfl (any_of HT_.out (by kernel_rfl)) (fun _ _ _ h => h) (Or.inl ⟨by rfl, ?_⟩) ?_ ?_
       rotate_left
       ·intro w'
        go_simp
        with_reducible rfl
       rotate_left
       ·simp only [Act.put, List.setIfInBounds_toArray, List.set_cons_zero, List.set_cons_succ, i64_w, i32_w]
        rfl
       refine done_ (done_of HT_.out (by kernel_rfl)) ?_
       try go_wp2
       go_meet
       case rel => exact ⟨_, (((t106 == t113 && (t107 == t114)) != true)), (by (simp; done)), H', ⟨by omega⟩, ⟨by (with_reducible repeat ((apply Kd.V_drewN))); exact Kd.V_mono HO0.out (fun _ hk => ⟨hk.1, hk.2.2⟩)⟩, ⟨by (with_reducible repeat ((apply Kd.V_drewN))); exact Kd.V_mono HO1.out (fun _ hk => ⟨hk.1, hk.2.2⟩)⟩, ⟨by (with_reducible repeat ((apply Kd.V_drewN))); exact Kd.V_mono HO2.out (fun _ hk => ⟨hk.1, hk.2.2⟩)⟩, ⟨by (with_reducible repeat ((refine blk_drewN ?_ _))); exact BK108.out⟩, ⟨by repeat ((with_reducible first | exact HB.out | apply pw_below_drewN))⟩⟩
      ·rw [if_neg c24] at H
       have c24b0 : decide (0 < (l0.length : Int)) = false := decide_eq_false c24
       have c24b1 : decide (0 < l0.length) = false := decide_eq_false (by omega)
       clear c24
       have H' := Aside0.mk H
       clear H
       try go_wp2
       have n0_ : Aside0 (Kd.V Kd.string 9 ((w14.setCell ⟨gb108, 0, none⟩ (.int .i64 t106)).setCell ⟨gb108, 1, none⟩ (.int .i64 t107)) w.heap.size (fun k_ => ((P0_ k_ ∨ P1_ k_ ∨ P2_ k_) ∨ w.heap.size ≤ k_) ∧ some k_ ≠ (.slice Ao12 y102.length co12 : Value).ownBlock ∧ k_ ≠ gb108) (.slice A0 l0.length c0) l0) := ⟨by (with_reducible skip); exact Kd.V_mono (Kd.V_far (p := ⟨gb108, 1, none⟩) (Kd.V_far (p := ⟨gb108, 0, none⟩) (Kd.V_mono HO0.out (fun k_ hk => (⟨hk, hk.2⟩ : _ ∧ k_ ≠ gb108))) (fun _ hk => hk.2) (.int .i64 t106)) (fun _ hk => hk.2) (.int .i64 t107)) (fun _ hk => ⟨hk.1.1.1, ⟨hk.1.1.2, hk.1.2⟩⟩)⟩
       have n1_ : Aside0 (Kd.V Kd.string 9 ((w14.setCell ⟨gb108, 0, none⟩ (.int .i64 t106)).setCell ⟨gb108, 1, none⟩ (.int .i64 t107)) w.heap.size (fun k_ => ((P0_ k_ ∨ P1_ k_ ∨ P2_ k_) ∨ w.heap.size ≤ k_) ∧ some k_ ≠ (.slice Ao12 y102.length co12 : Value).ownBlock ∧ k_ ≠ gb108) (.slice A1 l1.length c1) l1) := ⟨by (with_reducible skip); exact Kd.V_mono (Kd.V_far (p := ⟨gb108, 1, none⟩) (Kd.V_far (p := ⟨gb108, 0, none⟩) (Kd.V_mono HO1.out (fun k_ hk => (⟨hk, hk.2⟩ : _ ∧ k_ ≠ gb108))) (fun _ hk => hk.2) (.int .i64 t106)) (fun _ hk => hk.2) (.int .i64 t107)) (fun _ hk => ⟨hk.1.1.1, ⟨hk.1.1.2, hk.1.2⟩⟩)⟩
       have n2_ : Aside0 (Kd.V Kd.string 9 ((w14.setCell ⟨gb108, 0, none⟩ (.int .i64 t106)).setCell ⟨gb108, 1, none⟩ (.int .i64 t107)) w.heap.size (fun k_ => ((P0_ k_ ∨ P1_ k_ ∨ P2_ k_) ∨ w.heap.size ≤ k_) ∧ some k_ ≠ (.slice Ao12 y102.length co12 : Value).ownBlock ∧ k_ ≠ gb108) (.slice A2 l2.length c2) l2) := ⟨by (with_reducible skip); exact Kd.V_mono (Kd.V_far (p := ⟨gb108, 1, none⟩) (Kd.V_far (p := ⟨gb108, 0, none⟩) (Kd.V_mono HO2.out (fun k_ hk => (⟨hk, hk.2⟩ : _ ∧ k_ ≠ gb108))) (fun _ hk => hk.2) (.int .i64 t106)) (fun _ hk => hk.2) (.int .i64 t107)) (fun _ hk => ⟨hk.1.1.1, ⟨hk.1.1.2, hk.1.2⟩⟩)⟩
       have n3_ : Aside0 (Kd.N (Kd.slice 9 Kd.string) 22 ((w14.setCell ⟨gb108, 0, none⟩ (.int .i64 t106)).setCell ⟨gb108, 1, none⟩ (.int .i64 t107)) w.heap.size (fun k_ => ((P0_ k_ ∨ P1_ k_ ∨ P2_ k_) ∨ w.heap.size ≤ k_) ∧ k_ ≠ gb108) (.slice Ao12 y102.length co12) y102) := ⟨by (with_reducible skip); exact Kd.N_mono (Kd.N_far (p := ⟨gb108, 1, none⟩) (Kd.N_far (p := ⟨gb108, 0, none⟩) (Kd.N_mono HO104.out (fun k_ hk => (⟨hk, hk.2⟩ : _ ∧ k_ ≠ gb108))) (fun _ hk => hk.2) (.int .i64 t106)) (fun _ hk => hk.2) (.int .i64 t107)) (fun _ hk => ⟨hk.1.1, hk.1.2⟩)⟩
       have n4_ : Aside0 (((w14.setCell ⟨gb108, 0, none⟩ (.int .i64 t106)).setCell ⟨gb108, 1, none⟩ (.int .i64 t107)).heap[gb108]? = some (.cells #[.int .i64 t106, .int .i64 t107] 32 (0, 0))) := ⟨by (with_reducible skip); refine blk_put (cs := #[.int .i64 t106, .int .i64 0]) ?_ 1 _ rfl; (with_reducible skip); refine blk_put (cs := #[.int .i64 0, .int .i64 0]) ?_ 0 _ rfl; (with_reducible skip); exact BK108.out⟩
       have n5_ : Aside0 (Below w.heap.size w ((w14.setCell ⟨gb108, 0, none⟩ (.int .i64 t106)).setCell ⟨gb108, 1, none⟩ (.int .i64 t107))) := ⟨by repeat ((with_reducible first | exact HB.out | refine below_set ?_ GE108.out))⟩
       (try clear HO0)
       (try clear HO1)
       (try clear HO2)
       (try clear HO104)
       (try clear BK108)
       (try clear HB)
       generalize ((w14.setCell ⟨gb108, 0, none⟩ (.int .i64 t106)).setCell ⟨gb108, 1, none⟩ (.int .i64 t107)) = w29 at n0_ n1_ n2_ n3_ n4_ n5_ ⊢
       have HO0 := n0_
       have HO1 := n1_
       have HO2 := n2_
       have HO104 := n3_
       have BK108 := n4_
       have HB := n5_
       clear n0_ n1_ n2_ n3_ n4_ n5_
       have n0_ := Aside0.mk (Kd.V_drew HO0.out)
       have n1_ := Aside0.mk (Kd.V_drew HO1.out)
       have n2_ := Aside0.mk (Kd.V_drew HO2.out)
       have n3_ := Aside0.mk (Kd.N_drew HO104.out)
       have n4_ := Aside0.mk (blk_drew BK108.out)
       have n5_ := Aside0.mk (below_drew1 HB.out)
       clear HO0
       clear HO1
       clear HO2
       clear HO104
       clear BK108
       clear HB
       have HO0 := n0_
       have HO1 := n1_
       have HO2 := n2_
       have HO104 := n3_
       have BK108 := n4_
       have HB := n5_
       clear n0_ n1_ n2_ n3_ n4_ n5_
       refine start_ (n := 31) (S := fun w' => w'.cell? ⟨gb108, 0, none⟩ = some (.int .i64 t106) ∧ w'.cell? ⟨gb108, 1, none⟩ = some (.int .i64 t107)) (ds := []) #[false, false, false, false, false, false, false, false, false, false, false, false, false, false, false, false, false, false, false, false, false, false, false, false, false, false, false, false, false, false, false] (by kernel_rfl) rfl rfl ⟨(blk_cell BK108.out 0).trans rfl, (blk_cell BK108.out 1).trans rfl⟩ (fun hHeld => ?_); refine with_tabW cleanselaw04_MeasureSets.tab5 cleanselaw04_MeasureSets.bits5 (fun HT_ HW_ => ?_)
       generalize w29.drew = w30 at HO0 HO1 HO2 HO104 BK108 HB hHeld ⊢
       refine pure_ (i := 3) (N := some 29) (v := ?_) (a' := ?_) #[false, false, false, true, false, false, false, false, false, false, false, false, false, false, false, false, false, false, false, false, false, false, false, false, false, false, false, false, false, false, false] rfl rfl (any_of HT_.out (by kernel_rfl)) (fun _ _ _ h => h) (Or.inl ⟨by rfl, ?_⟩) ?_ ?_
       rotate_left
       ·intro w'
        go_simp
        with_reducible rfl
       rotate_left
       ·simp only [Act.put, List.setIfInBounds_toArray, List.set_cons_zero, List.set_cons_succ, i64_w, i32_w]
        rfl
       refine pure_ (i := 4) (N := some 30) (v := ?_) (a' := ?_) #[false, false, false, true, true, false, false, false, false, false, false, false, false, false, false, false, false, false, false, false, false, false, false, false, false, false, false, false, false, false, false] rfl rfl (any_of HT_.out (by kernel_rfl)) (fun _ _ _ h => h) (Or.inl ⟨by rfl, ?_⟩) ?_ ?_
       rotate_left
       ·intro w'
        go_simp
        with_reducible rfl
       rotate_left
       ·simp only [Act.put, List.setIfInBounds_toArray, List.set_cons_zero, List.set_cons_succ, i64_w, i32_w]
        rfl
       refine take_ (i := 0) (N := some 26) (v := ?_) (a' := ?_) #[true, false, false, true, true, false, false, false, false, false, false, false, false, false, false, false, false, false, false, false, false, false, false, false, false, false, false, false, false, false, false] rfl rfl (take_ofW HT_.out HW_.out (by kernel_rfl)) (fun _ _ _ h => h) (Or.inl ⟨by rfl, ?_⟩) hHeld ?_ ?_
       rotate_left
       ·rintro w' ⟨s0, s1⟩
        go_simp
        with_reducible rfl
       rotate_left
       ·simp only [Act.put, List.setIfInBounds_toArray, List.set_cons_zero, List.set_cons_succ, i64_w, i32_w]
        rfl
       refine one_ (i := 1) (N := some 27) #[true, true, false, true, true, false, false, false, false, false, false, false, false, false, false, false, false, false, false, false, false, false, false, false, false, false, false, false, false, false, false] rfl rfl (one_of HT_.out (by kernel_rfl)) (by decide) (fun K hK => ?_)
       refine goes_ Tryd.func27 (by kernel_rfl) rfl #[.int .i64 1, .int .i64 1] (by rfl) rfl rfl (by (try simp only [List.map_toArray, List.map_cons, List.map_nil]); rfl) ?_
       with_reducible refine (cleanselaw04_of.calls 1 1 t109 t110 _ A16.out).mono ?_
       rintro e w31 ⟨rfl, hb⟩
       refine ⟨_, rfl, ?_⟩
       have n0_ := Aside0.mk (Kd.V_below (by (with_reducible skip); exact HO0.out) hb)
       have n1_ := Aside0.mk (Kd.V_below (by (with_reducible skip); exact HO1.out) hb)
       have n2_ := Aside0.mk (Kd.V_below (by (with_reducible skip); exact HO2.out) hb)
       have n3_ := Aside0.mk (Kd.N_below (by (with_reducible skip); exact HO104.out) hb)
       have n4_ := Aside0.mk (blk_below (g := gb108) (o := .cells #[.int .i64 t106, .int .i64 t107] 32 (0, 0)) (by (with_reducible skip); exact BK108.out) hb)
       have n5_ := Aside0.mk (below_step (by repeat ((with_reducible (exact HB.out)))) hb)
       clear HO0
       clear HO1
       clear HO2
       clear HO104
       clear BK108
       clear HB
       have HO0 := n0_
       have HO1 := n1_
       have HO2 := n2_
       have HO104 := n3_
       have BK108 := n4_
       have HB := n5_
       clear n0_ n1_ n2_ n3_ n4_ n5_
       (try clear hb)
       refine hK.out _ _ ⟨(blk_cell BK108.out 0).trans rfl, (blk_cell BK108.out 1).trans rfl⟩ (fun hHeld => ?_)
       clear hK K
       refine norm_ (a' := ?_) ?_ ?_
       rotate_left
       ·show Act.put _ (some 27) _ = _
        simp only [Act.put, List.setIfInBounds_toArray, List.set_cons_zero, List.set_cons_succ, i64_w, i32_w]
        rfl
       refine pure_ (i := 2) (N := some 28) (v := ?_) (a' := ?_) #[true, true, true, true, true, false, false, false, false, false, false, false, false, false, false, false, false, false, false, false, false, false, false, false, false, false, false, false, false, false, false] rfl rfl (any_of HT_.out (by kernel_rfl)) (fun _ _ _ h => h) (Or.inl ⟨by rfl, ?_⟩) ?_ ?_
       rotate_left
       ·intro w'
        go_simp
        with_reducible rfl
       rotate_left
       ·simp only [Act.put, List.setIfInBounds_toArray, List.set_cons_zero, List.set_cons_succ, i64_w, i32_w]
        rfl
       refine one_ (i := 5) (N := some 31) #[true, true, true, true, true, true, false, false, false, false, false, false, false, false, false, false, false, false, false, false, false, false, false, false, false, false, false, false, false, false, false] rfl rfl (one_of HT_.out (by kernel_rfl)) (by decide) (fun K hK => ?_)
       refine goes_ Tryd.func30 (by kernel_rfl) rfl #[.slice A0 l0.length c0, .slice A1 l1.length c1] (by rfl) rfl rfl (by (try simp only [List.map_toArray, List.map_cons, List.map_nil]); rfl) ?_
       with_reducible refine (cleanselaw04_within.calls k _ _ l0 _ _ l1 true _ ?side1 ?side2 ?side3 ?side4 A17.out).mono ?_
       (case side1 => repeat ((exact (Kd.V_reads' HO0.out).2.2)))
       (case side2 => exact (Kd.V_reads' HO0.out).2.1)
       (case side3 => repeat ((exact (Kd.V_reads' HO1.out).2.2)))
       (case side4 => exact (Kd.V_reads' HO1.out).2.1)
       rintro e w' ⟨rfl, ⟨nd, rfl⟩⟩
       refine ⟨_, rfl, ?_⟩
       refine hK.out _ _ ⟨(blk_cell BK108.out 0).trans rfl, (blk_cell BK108.out 1).trans rfl⟩ (fun hHeld => ?_)
       clear hK K
       refine norm_ (a' := ?_) ?_ ?_
       rotate_left
       ·show Act.put _ (some 31) _ = _
        simp only [Act.put, List.setIfInBounds_toArray, List.set_cons_zero, List.set_cons_succ, i64_w, i32_w]
        rfl
       refine pure_ (i := 6) (N := some 32) (v := ?_) (a' := ?_) #[true, true, true, true, true, true, true, false, false, false, false, false, false, false, false, false, false, false, false, false, false, false, false, false, false, false, false, false, false, false, false] rfl rfl (any_of HT_.out (by kernel_rfl)) (fun _ _ _ h => h) (Or.inl ⟨by rfl, ?_⟩) ?_ ?_
       rotate_left
       ·intro w'
        go_simp
        with_reducible rfl
       rotate_left
       ·simp only [Act.put, List.setIfInBounds_toArray, List.set_cons_zero, List.set_cons_succ, i64_w, i32_w]
        rfl
       refine pure_ (i := 7) (N := some 33) (v := ?_) (a' := ?_) #[true, true, true, true, true, true, true, true, false, false, false, false, false, false, false, false, false, false, false, false, false, false, false, false, false, false, false, false, false, false, false] rfl rfl (any_of HT_.out (by kernel_rfl)) (fun _ _ _ h => h) (Or.inl ⟨by rfl, ?_⟩) ?_ ?_
       rotate_left
       ·intro w'
        go_simp
        with_reducible rfl
       rotate_left
       ·simp only [Act.put, List.setIfInBounds_toArray, List.set_cons_zero, List.set_cons_succ, i64_w, i32_w]
        rfl
       refine pure_ (i := 8) (N := some 34) (v := ?_) (a' := ?_) #[true, true, true, true, true, true, true, true, true, false, false, false, false, false, false, false, false, false, false, false, false, false, false, false, false, false, false, false, false, false, false] rfl rfl (any_of HT_.out (by kernel_rfl)) (fun _ _ _ h => h) (Or.inl ⟨by rfl, ?_⟩) ?_ ?_
       rotate_left
       ·intro w'
        go_simp
        with_reducible rfl
       rotate_left
       ·simp only [Act.put, List.setIfInBounds_toArray, List.set_cons_zero, List.set_cons_succ, i64_w, i32_w]
        rfl
       refine one_ (i := 9) (N := some 35) #[true, true, true, true, true, true, true, true, true, true, false, false, false, false, false, false, false, false, false, false, false, false, false, false, false, false, false, false, false, false, false] rfl rfl (one_of HT_.out (by kernel_rfl)) (by decide) (fun K hK => ?_)
       refine goes_ Tryd.func30 (by kernel_rfl) rfl #[.slice A1 l1.length c1, .slice A0 l0.length c0] (by rfl) rfl rfl (by (try simp only [List.map_toArray, List.map_cons, List.map_nil]); rfl) ?_
       with_reducible refine (cleanselaw04_within.calls k _ _ l1 _ _ l0 t112 _ ?side1 ?side2 ?side3 ?side4 A19.out).mono ?_
       (case side1 => repeat ((exact (Kd.V_reads' HO1.out).2.2)))
       (case side2 => exact (Kd.V_reads' HO1.out).2.1)
       (case side3 => repeat ((exact (Kd.V_reads' HO0.out).2.2)))
       (case side4 => exact (Kd.V_reads' HO0.out).2.1)
       rintro e w' ⟨rfl, ⟨nd, rfl⟩⟩
       refine ⟨_, rfl, ?_⟩
       refine hK.out _ _ ⟨(blk_cell BK108.out 0).trans rfl, (blk_cell BK108.out 1).trans rfl⟩ (fun hHeld => ?_)
       clear hK K
       refine norm_ (a' := ?_) ?_ ?_
       rotate_left
       ·show Act.put _ (some 35) _ = _
        simp only [Act.put, List.setIfInBounds_toArray, List.set_cons_zero, List.set_cons_succ, i64_w, i32_w]
        rfl
       refine pure_ (i := 10) (N := some 36) (v := ?_) (a' := ?_) #[true, true, true, true, true, true, true, true, true, true, true, false, false, false, false, false, false, false, false, false, false, false, false, false, false, false, false, false, false, false, false] rfl rfl (any_of HT_.out (by kernel_rfl)) (fun _ _ _ h => h) (Or.inl ⟨by rfl, ?_⟩) ?_ ?_
       rotate_left
       ·intro w'
        go_simp
        with_reducible rfl
       rotate_left
       ·simp only [Act.put, List.setIfInBounds_toArray, List.set_cons_zero, List.set_cons_succ, i64_w, i32_w]
        rfl
       refine pure_ (i := 11) (N := some 37) (v := ?_) (a' := ?_) #[true, true, true, true, true, true, true, true, true, true, true, true, false, false, false, false, false, false, false, false, false, false, false, false, false, false, false, false, false, false, false] rfl rfl (any_of HT_.out (by kernel_rfl)) (fun _ _ _ h => h) (Or.inl ⟨by rfl, ?_⟩) ?_ ?_
       rotate_left
       ·intro w'
        go_simp
        with_reducible rfl
       rotate_left
       ·simp only [Act.put, List.setIfInBounds_toArray, List.set_cons_zero, List.set_cons_succ, i64_w, i32_w]
        rfl
       refine pure_ (i := 12) (N := some 38) (v := ?_) (a' := ?_) #[true, true, true, true, true, true, true, true, true, true, true, true, true, false, false, false, false, false, false, false, false, false, false, false, false, false, false, false, false, false, false] rfl rfl (any_of HT_.out (by kernel_rfl)) (fun _ _ _ h => h) (Or.inl ⟨by rfl, ?_⟩) ?_ ?_
       rotate_left
       ·intro w'
        go_simp
        with_reducible rfl
       rotate_left
       ·simp only [Act.put, List.setIfInBounds_toArray, List.set_cons_zero, List.set_cons_succ, i64_w, i32_w]
        rfl
       refine pure_ (i := 16) (N := some 42) (v := ?_) (a' := ?_) #[true, true, true, true, true, true, true, true, true, true, true, true, true, false, false, false, true, false, false, false, false, false, false, false, false, false, false, false, false, false, false] rfl rfl (any_of HT_.out (by kernel_rfl)) (fun _ _ _ h => h) (Or.inl ⟨by rfl, ?_⟩) ?_ ?_
       rotate_left
       ·intro w'
        go_simp
        with_reducible rfl
       rotate_left
       ·simp only [Act.put, List.setIfInBounds_toArray, List.set_cons_zero, List.set_cons_succ, i64_w, i32_w]
        rfl
       refine pure_ (i := 17) (N := some 43) (v := ?_) (a' := ?_) #[true, true, true, true, true, true, true, true, true, true, true, true, true, false, false, false, true, true, false, false, false, false, false, false, false, false, false, false, false, false, false] rfl rfl (any_of HT_.out (by kernel_rfl)) (fun _ _ _ h => h) (Or.inl ⟨by rfl, ?_⟩) ?_ ?_
       rotate_left
       ·intro w'
        go_simp
        with_reducible rfl
       rotate_left
       ·simp only [Act.put, List.setIfInBounds_toArray, List.set_cons_zero, List.set_cons_succ, i64_w, i32_w]
        rfl
       refine take_ (i := 13) (N := some 39) (v := ?_) (a' := ?_) #[true, true, true, true, true, true, true, true, true, true, true, true, true, true, false, false, true, true, false, false, false, false, false, false, false, false, false, false, false, false, false] rfl rfl (take_ofW HT_.out HW_.out (by kernel_rfl)) (fun _ _ _ h => h) (Or.inl ⟨by rfl, ?_⟩) hHeld ?_ ?_
       rotate_left
       ·rintro w' ⟨s0, s1⟩
        go_simp
        with_reducible rfl
       rotate_left
       ·simp only [Act.put, List.setIfInBounds_toArray, List.set_cons_zero, List.set_cons_succ, i64_w, i32_w]
        rfl
       refine one_ (i := 14) (N := some 40) #[true, true, true, true, true, true, true, true, true, true, true, true, true, true, true, false, true, true, false, false, false, false, false, false, false, false, false, false, false, false, false] rfl rfl (one_of HT_.out (by kernel_rfl)) (by decide) (fun K hK => ?_)
       refine goes_ Tryd.func27 (by kernel_rfl) rfl #[.int .i64 0, .int .i64 1] (by rfl) rfl rfl (by (try simp only [List.map_toArray, List.map_cons, List.map_nil]); rfl) ?_
       with_reducible refine (cleanselaw04_of.calls 0 1 t113 t114 _ A21.out).mono ?_
       rintro e w32 ⟨rfl, hb⟩
       refine ⟨_, rfl, ?_⟩
       have n0_ := Aside0.mk (Kd.V_below (by (with_reducible repeat ((apply Kd.V_drewN))); exact HO0.out) hb)
       have n1_ := Aside0.mk (Kd.V_below (by (with_reducible repeat ((apply Kd.V_drewN))); exact HO1.out) hb)
       have n2_ := Aside0.mk (Kd.V_below (by (with_reducible repeat ((apply Kd.V_drewN))); exact HO2.out) hb)
       have n3_ := Aside0.mk (Kd.N_below (by (with_reducible repeat ((apply Kd.N_drewN))); exact HO104.out) hb)
       have n4_ := Aside0.mk (blk_below (g := gb108) (o := .cells #[.int .i64 t106, .int .i64 t107] 32 (0, 0)) (by (with_reducible repeat ((refine blk_drewN ?_ _))); exact BK108.out) hb)
       have n5_ := Aside0.mk (below_step (by repeat ((with_reducible first | exact HB.out | apply pw_below_drewN))) hb)
       clear HO0
       clear HO1
       clear HO2
       clear HO104
       clear BK108
       clear HB
       have HO0 := n0_
       have HO1 := n1_
       have HO2 := n2_
       have HO104 := n3_
       have BK108 := n4_
       have HB := n5_
       clear n0_ n1_ n2_ n3_ n4_ n5_
       (try clear hb)
       refine hK.out _ _ ⟨(blk_cell BK108.out 0).trans rfl, (blk_cell BK108.out 1).trans rfl⟩ (fun hHeld => ?_)
       clear hK K
       refine norm_ (a' := ?_) ?_ ?_
       rotate_left
       ·show Act.put _ (some 40) _ = _
        simp only [Act.put, List.setIfInBounds_toArray, List.set_cons_zero, List.set_cons_succ, i64_w, i32_w]
        rfl
       refine pure_ (i := 15) (N := some 41) (v := ?_) (a' := ?_) #[true, true, true, true, true, true, true, true, true, true, true, true, true, true, true, true, true, true, false, false, false, false, false, false, false, false, false, false, false, false, false] rfl rfl (any_of HT_.out (by kernel_rfl)) (fun _ _ _ h => h) (Or.inl ⟨by rfl, ?_⟩) ?_ ?_
       rotate_left
       ·intro w'
        go_simp
        with_reducible rfl
       rotate_left
       ·simp only [Act.put, List.setIfInBounds_toArray, List.set_cons_zero, List.set_cons_succ, i64_w, i32_w]
        rfl
       refine one_ (i := 18) (N := some 44) #[true, true, true, true, true, true, true, true, true, true, true, true, true, true, true, true, true, true, true, false, false, false, false, false, false, false, false, false, false, false, false] rfl rfl (one_of HT_.out (by kernel_rfl)) (by decide) (fun K hK => ?_)
       refine goes_ Tryd.func31 (by kernel_rfl) rfl #[.slice A0 l0.length c0, .slice A1 l1.length c1] (by rfl) rfl rfl (by (try simp only [List.map_toArray, List.map_cons, List.map_nil]); rfl) ?_
       with_reducible refine (cleanselaw04_apart.calls k _ _ l0 _ _ l1 true _ ?side1 ?side2 ?side3 ?side4 A22.out).mono ?_
       (case side1 => repeat ((exact (Kd.V_reads' HO0.out).2.2)))
       (case side2 => exact (Kd.V_reads' HO0.out).2.1)
       (case side3 => repeat ((exact (Kd.V_reads' HO1.out).2.2)))
       (case side4 => exact (Kd.V_reads' HO1.out).2.1)
       rintro e w' ⟨rfl, ⟨nd, rfl⟩⟩
       refine ⟨_, rfl, ?_⟩
       refine hK.out _ _ ⟨(blk_cell BK108.out 0).trans rfl, (blk_cell BK108.out 1).trans rfl⟩ (fun hHeld => ?_)
       clear hK K
       refine norm_ (a' := ?_) ?_ ?_
       rotate_left
       ·show Act.put _ (some 44) _ = _
        simp only [Act.put, List.setIfInBounds_toArray, List.set_cons_zero, List.set_cons_succ, i64_w, i32_w]
        rfl
       refine pure_ (i := 19) (N := some 45) (v := ?_) (a' := ?_) #[true, true, true, true, true, true, true, true, true, true, true, true, true, true, true, true, true, true, true, true, false, false, false, false, false, false, false, false, false, false, false] rfl rfl (any_of HT_.out (by kernel_rfl)) (fun _ _ _ h => h) (Or.inl ⟨by rfl, ?_⟩) ?_ ?_
       rotate_left
       ·intro w'
        go_simp
        with_reducible rfl
       rotate_left
       ·simp only [Act.put, List.setIfInBounds_toArray, List.set_cons_zero, List.set_cons_succ, i64_w, i32_w]
        rfl
       refine pure_ (i := 20) (N := some 46) (v := ?_) (a' := ?_) #[true, true, true, true, true, true, true, true, true, true, true, true, true, true, true, true, true, true, true, true, true, false, false, false, false, false, false, false, false, false, false] rfl rfl (any_of HT_.out (by kernel_rfl)) (fun _ _ _ h => h) (Or.inl ⟨by rfl, ?_⟩) ?_ ?_
       rotate_left
       ·intro w'
        go_simp
        with_reducible rfl
       rotate_left
       ·simp only [Act.put, List.setIfInBounds_toArray, List.set_cons_zero, List.set_cons_succ, i64_w, i32_w]
        rfl
       refine pure_ (i := 21) (N := some 47) (v := ?_) (a' := ?_) #[true, true, true, true, true, true, true, true, true, true, true, true, true, true, true, true, true, true, true, true, true, true, false, false, false, false, false, false, false, false, false] rfl rfl (any_of HT_.out (by kernel_rfl)) (fun _ _ _ h => h) (Or.inl ⟨by rfl, ?_⟩) ?_ ?_
       rotate_left
       ·intro w'
        go_simp
        with_reducible rfl
       rotate_left
       ·simp only [Act.put, List.setIfInBounds_toArray, List.set_cons_zero, List.set_cons_succ, i64_w, i32_w]
        rfl
       refine pure_ (i := 22) (N := some 48) (v := ?_) (a' := ?_) #[true, true, true, true, true, true, true, true, true, true, true, true, true, true, true, true, true, true, true, true, true, true, true, false, false, false, false, false, false, false, false] rfl rfl (any_of HT_.out (by kernel_rfl)) (fun _ _ _ h => h) (Or.inl ⟨by rfl, ?_⟩) ?_ ?_
       rotate_left
       ·intro w'
        go_simp
        with_reducible rfl
       rotate_left
       ·simp only [Act.put, List.setIfInBounds_toArray, List.set_cons_zero, List.set_cons_succ, i64_w, i32_w]
        rfl
       refine pure_ (i := 23) (N := some 49) (v := ?_) (a' := ?_) #[true, true, true, true, true, true, true, true, true, true, true, true, true, true, true, true, true, true, true, true, true, true, true, true, false, false, false, false, false, false, false] rfl rfl (any_of HT_.out (by kernel_rfl)) (fun _ _ _ h => h) (Or.inl ⟨by rfl, ?_⟩) ?_ ?_
       rotate_left
       ·intro w'
        go_simp
        with_reducible rfl
       rotate_left
       ·simp only [Act.put, List.setIfInBounds_toArray, List.set_cons_zero, List.set_cons_succ, i64_w, i32_w]
        rfl
       refine pure_ (i := 24) (N := some 50) (v := ?_) (a' := ?_) #[true, true, true, true, true, true, true, true, true, true, true, true, true, true, true, true, true, true, true, true, true, true, true, true, true, false, false, false, false, false, false] rfl rfl (any_of HT_.out (by kernel_rfl)) (fun _ _ _ h => h) (Or.inl ⟨by rfl, ?_⟩) ?_ ?_
       rotate_left
       ·intro w'
        go_simp
        with_reducible rfl
       rotate_left
       ·simp only [Act.put, List.setIfInBounds_toArray, List.set_cons_zero, List.set_cons_succ, i64_w, i32_w]
        rfl
       refine pure_ (i := 25) (N := some 51) (v := ?_) (a' := ?_) #[true, true, true, true, true, true, true, true, true, true, true, true, true, true, true, true, true, true, true, true, true, true, true, true, true, true, false, false, false, false, false] rfl rfl (any_of HT_.out (by kernel_rfl)) (fun _ _ _ h => h) (Or.inl ⟨by rfl, ?_⟩) ?_ ?_
       rotate_left
       ·intro w'
        go_simp
        with_reducible rfl
       rotate_left
       ·simp only [Act.put, List.setIfInBounds_toArray, List.set_cons_zero, List.set_cons_succ, i64_w, i32_w]
        rfl
       refine pure_ (i := 26) (N := some 52) (v := ?_) (a' := ?_) #[true, true, true, true, true, true, true, true, true, true, true, true, true, true, true, true, true, true, true, true, true, true, true, true, true, true, true, false, false, false, false] rfl rfl (any_of HT_.out (by kernel_rfl)) (fun _ _ _ h => h) (Or.inl ⟨by rfl, ?_⟩) ?_ ?_
       rotate_left
       ·intro w'
        go_simp
        with_reducible rfl
       rotate_left
       ·simp only [Act.put, List.setIfInBounds_toArray, List.set_cons_zero, List.set_cons_succ, i64_w, i32_w]
        rfl
       refine pure_ (i := 27) (N := some 53) (v := ?_) (a' := ?_) #[true, true, true, true, true, true, true, true, true, true, true, true, true, true, true, true, true, true, true, true, true, true, true, true, true, true, true, true, false, false, false] rfl rfl (any_of HT_.out (by kernel_rfl)) (fun _ _ _ h => h) (Or.inl ⟨by rfl, ?_⟩) ?_ ?_
       rotate_left
       ·intro w'
        go_simp
        with_reducible rfl
       rotate_left
       ·simp only [Act.put, List.setIfInBounds_toArray, List.set_cons_zero, List.set_cons_succ, i64_w, i32_w]
        rfl
       refine pure_ (i := 28) (N := some 54) (v := ?_) (a' := ?_) #[true, true, true, true, true, true, true, true, true, true, true, true, true, true, true, true, true, true, true, true, true, true, true, true, true, true, true, true, true, false, false] rfl rfl (any_of HT_.out (by kernel_rfl)) (fun _ _ _ h => h) (Or.inl ⟨by rfl, ?_⟩) ?_ ?_
       rotate_left
       ·intro w'
        go_simp
        with_reducible rfl
       rotate_left
       ·simp only [Act.put, List.setIfInBounds_toArray, List.set_cons_zero, List.set_cons_succ, i64_w, i32_w]
        rfl
       refine pure_ (i := 29) (N := some 55) (v := ?_) (a' := ?_) #[true, true, true, true, true, true, true, true, true, true, true, true, true, true, true, true, true, true, true, true, true, true, true, true, true, true, true, true, true, true, false] rfl rfl (any_of HT_.out (by kernel_rfl)) (fun _ _ _ h => h) (Or.inl ⟨by rfl, ?_⟩) ?_ ?_
       rotate_left
       ·intro w'
        go_simp
        with_reducible rfl
       rotate_left
       ·simp only [Act.put, List.setIfInBounds_toArray, List.set_cons_zero, List.set_cons_succ, i64_w, i32_w]
        rfl
       refine pure_ (i := 30) (N := some 56) (v := ?_) (a' := ?_) #[true, true, true, true, true, true, true, true, true, true, true, true, true, true, true, true, true, true, true, true, true, true, true, true, true, true, true, true, true, true, true] rfl rfl (any_of HT_.out (by kernel_rfl)) (fun _ _ _ h => h) (Or.inl ⟨by rfl, ?_⟩) ?_ ?_
       rotate_left
       ·intro w'
        go_simp
        with_reducible rfl
       rotate_left
       ·simp only [Act.put, List.setIfInBounds_toArray, List.set_cons_zero, List.set_cons_succ, i64_w, i32_w]
        rfl
       refine done_ (done_of HT_.out (by kernel_rfl)) ?_
       try go_wp2
       go_meet
       case rel => exact ⟨_, (((t106 == t113 && (t107 == t114)) != (decide ((l1.length : Int) > 0)))), (by (simp [bne]; done)), H', ⟨by omega⟩, ⟨by (with_reducible repeat ((apply Kd.V_drewN))); exact Kd.V_mono HO0.out (fun _ hk => ⟨hk.1, hk.2.2⟩)⟩, ⟨by (with_reducible repeat ((apply Kd.V_drewN))); exact Kd.V_mono HO1.out (fun _ hk => ⟨hk.1, hk.2.2⟩)⟩, ⟨by (with_reducible repeat ((apply Kd.V_drewN))); exact Kd.V_mono HO2.out (fun _ hk => ⟨hk.1, hk.2.2⟩)⟩, ⟨by (with_reducible repeat ((refine blk_drewN ?_ _))); exact BK108.out⟩, ⟨by repeat ((with_reducible first | exact HB.out | apply pw_below_drewN))⟩⟩
     ·replace c23 := Bool.eq_false_iff.mpr c23
      subst c23
      have H1 : (cleanselaw04_MeasureSets.j0 k l0 l1 l2 t101 ((t106 == t113 && (t107 == t114)) != false) t106 t107) = some r := by rw [if_neg (show ¬ (false = true) by decide)] at H; exact H
      clear H
      have H := H1
      clear H1
      have H' := Aside0.mk H
      clear H
      try go_wp2
      have n0_ : Aside0 (Kd.V Kd.string 9 ((w14.setCell ⟨gb108, 0, none⟩ (.int .i64 t106)).setCell ⟨gb108, 1, none⟩ (.int .i64 t107)) w.heap.size (fun k_ => ((P0_ k_ ∨ P1_ k_ ∨ P2_ k_) ∨ w.heap.size ≤ k_) ∧ some k_ ≠ (.slice Ao12 y102.length co12 : Value).ownBlock ∧ k_ ≠ gb108) (.slice A0 l0.length c0) l0) := ⟨by (with_reducible skip); exact Kd.V_mono (Kd.V_far (p := ⟨gb108, 1, none⟩) (Kd.V_far (p := ⟨gb108, 0, none⟩) (Kd.V_mono HO0.out (fun k_ hk => (⟨hk, hk.2⟩ : _ ∧ k_ ≠ gb108))) (fun _ hk => hk.2) (.int .i64 t106)) (fun _ hk => hk.2) (.int .i64 t107)) (fun _ hk => ⟨hk.1.1.1, ⟨hk.1.1.2, hk.1.2⟩⟩)⟩
      have n1_ : Aside0 (Kd.V Kd.string 9 ((w14.setCell ⟨gb108, 0, none⟩ (.int .i64 t106)).setCell ⟨gb108, 1, none⟩ (.int .i64 t107)) w.heap.size (fun k_ => ((P0_ k_ ∨ P1_ k_ ∨ P2_ k_) ∨ w.heap.size ≤ k_) ∧ some k_ ≠ (.slice Ao12 y102.length co12 : Value).ownBlock ∧ k_ ≠ gb108) (.slice A1 l1.length c1) l1) := ⟨by (with_reducible skip); exact Kd.V_mono (Kd.V_far (p := ⟨gb108, 1, none⟩) (Kd.V_far (p := ⟨gb108, 0, none⟩) (Kd.V_mono HO1.out (fun k_ hk => (⟨hk, hk.2⟩ : _ ∧ k_ ≠ gb108))) (fun _ hk => hk.2) (.int .i64 t106)) (fun _ hk => hk.2) (.int .i64 t107)) (fun _ hk => ⟨hk.1.1.1, ⟨hk.1.1.2, hk.1.2⟩⟩)⟩
      have n2_ : Aside0 (Kd.V Kd.string 9 ((w14.setCell ⟨gb108, 0, none⟩ (.int .i64 t106)).setCell ⟨gb108, 1, none⟩ (.int .i64 t107)) w.heap.size (fun k_ => ((P0_ k_ ∨ P1_ k_ ∨ P2_ k_) ∨ w.heap.size ≤ k_) ∧ some k_ ≠ (.slice Ao12 y102.length co12 : Value).ownBlock ∧ k_ ≠ gb108) (.slice A2 l2.length c2) l2) := ⟨by (with_reducible skip); exact Kd.V_mono (Kd.V_far (p := ⟨gb108, 1, none⟩) (Kd.V_far (p := ⟨gb108, 0, none⟩) (Kd.V_mono HO2.out (fun k_ hk => (⟨hk, hk.2⟩ : _ ∧ k_ ≠ gb108))) (fun _ hk => hk.2) (.int .i64 t106)) (fun _ hk => hk.2) (.int .i64 t107)) (fun _ hk => ⟨hk.1.1.1, ⟨hk.1.1.2, hk.1.2⟩⟩)⟩
      have n3_ : Aside0 (Kd.N (Kd.slice 9 Kd.string) 22 ((w14.setCell ⟨gb108, 0, none⟩ (.int .i64 t106)).setCell ⟨gb108, 1, none⟩ (.int .i64 t107)) w.heap.size (fun k_ => ((P0_ k_ ∨ P1_ k_ ∨ P2_ k_) ∨ w.heap.size ≤ k_) ∧ k_ ≠ gb108) (.slice Ao12 y102.length co12) y102) := ⟨by (with_reducible skip); exact Kd.N_mono (Kd.N_far (p := ⟨gb108, 1, none⟩) (Kd.N_far (p := ⟨gb108, 0, none⟩) (Kd.N_mono HO104.out (fun k_ hk => (⟨hk, hk.2⟩ : _ ∧ k_ ≠ gb108))) (fun _ hk => hk.2) (.int .i64 t106)) (fun _ hk => hk.2) (.int .i64 t107)) (fun _ hk => ⟨hk.1.1, hk.1.2⟩)⟩
      have n4_ : Aside0 (((w14.setCell ⟨gb108, 0, none⟩ (.int .i64 t106)).setCell ⟨gb108, 1, none⟩ (.int .i64 t107)).heap[gb108]? = some (.cells #[.int .i64 t106, .int .i64 t107] 32 (0, 0))) := ⟨by (with_reducible skip); refine blk_put (cs := #[.int .i64 t106, .int .i64 0]) ?_ 1 _ rfl; (with_reducible skip); refine blk_put (cs := #[.int .i64 0, .int .i64 0]) ?_ 0 _ rfl; (with_reducible skip); exact BK108.out⟩
      have n5_ : Aside0 (Below w.heap.size w ((w14.setCell ⟨gb108, 0, none⟩ (.int .i64 t106)).setCell ⟨gb108, 1, none⟩ (.int .i64 t107))) := ⟨by repeat ((with_reducible first | exact HB.out | refine below_set ?_ GE108.out))⟩
      (try clear HO0)
      (try clear HO1)
      (try clear HO2)
      (try clear HO104)
      (try clear BK108)
      (try clear HB)
      generalize ((w14.setCell ⟨gb108, 0, none⟩ (.int .i64 t106)).setCell ⟨gb108, 1, none⟩ (.int .i64 t107)) = w33 at n0_ n1_ n2_ n3_ n4_ n5_ ⊢
      have HO0 := n0_
      have HO1 := n1_
      have HO2 := n2_
      have HO104 := n3_
      have BK108 := n4_
      have HB := n5_
      clear n0_ n1_ n2_ n3_ n4_ n5_
      have n0_ := Aside0.mk (Kd.V_drew HO0.out)
      have n1_ := Aside0.mk (Kd.V_drew HO1.out)
      have n2_ := Aside0.mk (Kd.V_drew HO2.out)
      have n3_ := Aside0.mk (Kd.N_drew HO104.out)
      have n4_ := Aside0.mk (blk_drew BK108.out)
      have n5_ := Aside0.mk (below_drew1 HB.out)
      clear HO0
      clear HO1
      clear HO2
      clear HO104
      clear BK108
      clear HB
      have HO0 := n0_
      have HO1 := n1_
      have HO2 := n2_
      have HO104 := n3_
      have BK108 := n4_
      have HB := n5_
      clear n0_ n1_ n2_ n3_ n4_ n5_
      refine start_ (n := 31) (S := fun w' => w'.cell? ⟨gb108, 0, none⟩ = some (.int .i64 t106) ∧ w'.cell? ⟨gb108, 1, none⟩ = some (.int .i64 t107)) (ds := []) #[false, false, false, false, false, false, false, false, false, false, false, false, false, false, false, false, false, false, false, false, false, false, false, false, false, false, false, false, false, false, false] (by kernel_rfl) rfl rfl ⟨(blk_cell BK108.out 0).trans rfl, (blk_cell BK108.out 1).trans rfl⟩ (fun hHeld => ?_); refine with_tabW cleanselaw04_MeasureSets.tab5 cleanselaw04_MeasureSets.bits5 (fun HT_ HW_ => ?_)
      generalize w33.drew = w34 at HO0 HO1 HO2 HO104 BK108 HB hHeld ⊢
      refine pure_ (i := 3) (N := some 29) (v := ?_) (a' := ?_) #[false, false, false, true, false, false, false, false, false, false, false, false, false, false, false, false, false, false, false, false, false, false, false, false, false, false, false, false, false, false, false] rfl rfl (any_of HT_.out (by kernel_rfl)) (fun _ _ _ h => h) (Or.inl ⟨by rfl, ?_⟩) ?_ ?_
      rotate_left
      ·intro w'
       go_simp
       with_reducible rfl
      rotate_left
      ·simp only [Act.put, List.setIfInBounds_toArray, List.set_cons_zero, List.set_cons_succ, i64_w, i32_w]
       rfl
      refine pure_ (i := 4) (N := some 30) (v := ?_) (a' := ?_) #[false, false, false, true, true, false, false, false, false, false, false, false, false, false, false, false, false, false, false, false, false, false, false, false, false, false, false, false, false, false, false] rfl rfl (any_of HT_.out (by kernel_rfl)) (fun _ _ _ h => h) (Or.inl ⟨by rfl, ?_⟩) ?_ ?_
      rotate_left
      ·intro w'
       go_simp
       with_reducible rfl
      rotate_left
      ·simp only [Act.put, List.setIfInBounds_toArray, List.set_cons_zero, List.set_cons_succ, i64_w, i32_w]
       rfl
      refine take_ (i := 0) (N := some 26) (v := ?_) (a' := ?_) #[true, false, false, true, true, false, false, false, false, false, false, false, false, false, false, false, false, false, false, false, false, false, false, false, false, false, false, false, false, false, false] rfl rfl (take_ofW HT_.out HW_.out (by kernel_rfl)) (fun _ _ _ h => h) (Or.inl ⟨by rfl, ?_⟩) hHeld ?_ ?_
      rotate_left
      ·rintro w' ⟨s0, s1⟩
       go_simp
       with_reducible rfl
      rotate_left
      ·simp only [Act.put, List.setIfInBounds_toArray, List.set_cons_zero, List.set_cons_succ, i64_w, i32_w]
       rfl
      refine one_ (i := 1) (N := some 27) #[true, true, false, true, true, false, false, false, false, false, false, false, false, false, false, false, false, false, false, false, false, false, false, false, false, false, false, false, false, false, false] rfl rfl (one_of HT_.out (by kernel_rfl)) (by decide) (fun K hK => ?_)
      refine goes_ Tryd.func27 (by kernel_rfl) rfl #[.int .i64 1, .int .i64 1] (by rfl) rfl rfl (by (try simp only [List.map_toArray, List.map_cons, List.map_nil]); rfl) ?_
      with_reducible refine (cleanselaw04_of.calls 1 1 t109 t110 _ A16.out).mono ?_
      rintro e w35 ⟨rfl, hb⟩
      refine ⟨_, rfl, ?_⟩
      have n0_ := Aside0.mk (Kd.V_below (by (with_reducible skip); exact HO0.out) hb)
      have n1_ := Aside0.mk (Kd.V_below (by (with_reducible skip); exact HO1.out) hb)
      have n2_ := Aside0.mk (Kd.V_below (by (with_reducible skip); exact HO2.out) hb)
      have n3_ := Aside0.mk (Kd.N_below (by (with_reducible skip); exact HO104.out) hb)
      have n4_ := Aside0.mk (blk_below (g := gb108) (o := .cells #[.int .i64 t106, .int .i64 t107] 32 (0, 0)) (by (with_reducible skip); exact BK108.out) hb)
      have n5_ := Aside0.mk (below_step (by repeat ((with_reducible (exact HB.out)))) hb)
      clear HO0
      clear HO1
      clear HO2
      clear HO104
      clear BK108
      clear HB
      have HO0 := n0_
      have HO1 := n1_
      have HO2 := n2_
      have HO104 := n3_
      have BK108 := n4_
      have HB := n5_
      clear n0_ n1_ n2_ n3_ n4_ n5_
      (try clear hb)
      refine hK.out _ _ ⟨(blk_cell BK108.out 0).trans rfl, (blk_cell BK108.out 1).trans rfl⟩ (fun hHeld => ?_)
      clear hK K
      refine norm_ (a' := ?_) ?_ ?_
      rotate_left
      ·show Act.put _ (some 27) _ = _
       simp only [Act.put, List.setIfInBounds_toArray, List.set_cons_zero, List.set_cons_succ, i64_w, i32_w]
       rfl
      refine pure_ (i := 2) (N := some 28) (v := ?_) (a' := ?_) #[true, true, true, true, true, false, false, false, false, false, false, false, false, false, false, false, false, false, false, false, false, false, false, false, false, false, false, false, false, false, false] rfl rfl (any_of HT_.out (by kernel_rfl)) (fun _ _ _ h => h) (Or.inl ⟨by rfl, ?_⟩) ?_ ?_
      rotate_left
      ·intro w'
       go_simp
       with_reducible rfl
      rotate_left
      ·simp only [Act.put, List.setIfInBounds_toArray, List.set_cons_zero, List.set_cons_succ, i64_w, i32_w]
       rfl
      refine one_ (i := 5) (N := some 31) #[true, true, true, true, true, true, false, false, false, false, false, false, false, false, false, false, false, false, false, false, false, false, false, false, false, false, false, false, false, false, false] rfl rfl (one_of HT_.out (by kernel_rfl)) (by decide) (fun K hK => ?_)
      refine goes_ Tryd.func30 (by kernel_rfl) rfl #[.slice A0 l0.length c0, .slice A1 l1.length c1] (by rfl) rfl rfl (by (try simp only [List.map_toArray, List.map_cons, List.map_nil]); rfl) ?_
      with_reducible refine (cleanselaw04_within.calls k _ _ l0 _ _ l1 true _ ?side1 ?side2 ?side3 ?side4 A17.out).mono ?_
      (case side1 => repeat ((exact (Kd.V_reads' HO0.out).2.2)))
      (case side2 => exact (Kd.V_reads' HO0.out).2.1)
      (case side3 => repeat ((exact (Kd.V_reads' HO1.out).2.2)))
      (case side4 => exact (Kd.V_reads' HO1.out).2.1)
      rintro e w' ⟨rfl, ⟨nd, rfl⟩⟩
      refine ⟨_, rfl, ?_⟩
      refine hK.out _ _ ⟨(blk_cell BK108.out 0).trans rfl, (blk_cell BK108.out 1).trans rfl⟩ (fun hHeld => ?_)
      clear hK K
      refine norm_ (a' := ?_) ?_ ?_
      rotate_left
      ·show Act.put _ (some 31) _ = _
       simp only [Act.put, List.setIfInBounds_toArray, List.set_cons_zero, List.set_cons_succ, i64_w, i32_w]
       rfl
      refine pure_ (i := 6) (N := some 32) (v := ?_) (a' := ?_) #[true, true, true, true, true, true, true, false, false, false, false, false, false, false, false, false, false, false, false, false, false, false, false, false, false, false, false, false, false, false, false] rfl rfl (any_of HT_.out (by kernel_rfl)) (fun _ _ _ h => h) (Or.inl ⟨by rfl, ?_⟩) ?_ ?_
      rotate_left
      ·intro w'
       go_simp
       with_reducible rfl
      rotate_left
      ·simp only [Act.put, List.setIfInBounds_toArray, List.set_cons_zero, List.set_cons_succ, i64_w, i32_w]
       rfl
      refine pure_ (i := 7) (N := some 33) (v := ?_) (a' := ?_) #[true, true, true, true, true, true, true, true, false, false, false, false, false, false, false, false, false, false, false, false, false, false, false, false, false, false, false, false, false, false, false] rfl rfl (any_of HT_.out (by kernel_rfl)) (fun _ _ _ h => h) (Or.inl ⟨by rfl, ?_⟩) ?_ ?_
      rotate_left
      ·intro w'
       go_simp
       with_reducible rfl
      rotate_left
      ·simp only [Act.put, List.setIfInBounds_toArray, List.set_cons_zero, List.set_cons_succ, i64_w, i32_w]
       rfl
      refine pure_ (i := 8) (N := some 34) (v := ?_) (a' := ?_) #[true, true, true, true, true, true, true, true, true, false, false, false, false, false, false, false, false, false, false, false, false, false, false, false, false, false, false, false, false, false, false] rfl rfl (any_of HT_.out (by kernel_rfl)) (fun _ _ _ h => h) (Or.inl ⟨by rfl, ?_⟩) ?_ ?_
      rotate_left
      ·intro w'
       go_simp
       with_reducible rfl
      rotate_left
      ·simp only [Act.put, List.setIfInBounds_toArray, List.set_cons_zero, List.set_cons_succ, i64_w, i32_w]
       rfl
      refine one_ (i := 9) (N := some 35) #[true, true, true, true, true, true, true, true, true, true, false, false, false, false, false, false, false, false, false, false, false, false, false, false, false, false, false, false, false, false, false] rfl rfl (one_of HT_.out (by kernel_rfl)) (by decide) (fun K hK => ?_)
      refine goes_ Tryd.func30 (by kernel_rfl) rfl #[.slice A1 l1.length c1, .slice A0 l0.length c0] (by rfl) rfl rfl (by (try simp only [List.map_toArray, List.map_cons, List.map_nil]); rfl) ?_
      with_reducible refine (cleanselaw04_within.calls k _ _ l1 _ _ l0 t112 _ ?side1 ?side2 ?side3 ?side4 A19.out).mono ?_
      (case side1 => repeat ((exact (Kd.V_reads' HO1.out).2.2)))
      (case side2 => exact (Kd.V_reads' HO1.out).2.1)
      (case side3 => repeat ((exact (Kd.V_reads' HO0.out).2.2)))
      (case side4 => exact (Kd.V_reads' HO0.out).2.1)
      rintro e w' ⟨rfl, ⟨nd, rfl⟩⟩
      refine ⟨_, rfl, ?_⟩
      refine hK.out _ _ ⟨(blk_cell BK108.out 0).trans rfl, (blk_cell BK108.out 1).trans rfl⟩ (fun hHeld => ?_)
      clear hK K
      refine norm_ (a' := ?_) ?_ ?_
      rotate_left
      ·show Act.put _ (some 35) _ = _
       simp only [Act.put, List.setIfInBounds_toArray, List.set_cons_zero, List.set_cons_succ, i64_w, i32_w]
       rfl
      refine pure_ (i := 10) (N := some 36) (v := ?_) (a' := ?_) #[true, true, true, true, true, true, true, true, true, true, true, false, false, false, false, false, false, false, false, false, false, false, false, false, false, false, false, false, false, false, false] rfl rfl (any_of HT_.out (by kernel_rfl)) (fun _ _ _ h => h) (Or.inl ⟨by rfl, ?_⟩) ?_ ?_
      rotate_left
      ·intro w'
       go_simp
       with_reducible rfl
      rotate_left
      ·simp only [Act.put, List.setIfInBounds_toArray, List.set_cons_zero, List.set_cons_succ, i64_w, i32_w]
       rfl
      refine pure_ (i := 11) (N := some 37) (v := ?_) (a' := ?_) #[true, true, true, true, true, true, true, true, true, true, true, true, false, false, false, false, false, false, false, false, false, false, false, false, false, false, false, false, false, false, false] rfl rfl (any_of HT_.out (by kernel_rfl)) (fun _ _ _ h => h) (Or.inl ⟨by rfl, ?_⟩) ?_ ?_
      rotate_left
      ·intro w'
       go_simp
       with_reducible rfl
      rotate_left
      ·simp only [Act.put, List.setIfInBounds_toArray, List.set_cons_zero, List.set_cons_succ, i64_w, i32_w]
       rfl
      refine pure_ (i := 12) (N := some 38) (v := ?_) (a' := ?_) #[true, true, true, true, true, true, true, true, true, true, true, true, true, false, false, false, false, false, false, false, false, false, false, false, false, false, false, false, false, false, false] rfl rfl (any_of HT_.out (by kernel_rfl)) (fun _ _ _ h => h) (Or.inl ⟨by rfl, ?_⟩) ?_ ?_
      rotate_left
      ·intro w'
       go_simp
       with_reducible rfl
      rotate_left
      ·simp only [Act.put, List.setIfInBounds_toArray, List.set_cons_zero, List.set_cons_succ, i64_w, i32_w]
       rfl
      refine pure_ (i := 16) (N := some 42) (v := ?_) (a' := ?_) #[true, true, true, true, true, true, true, true, true, true, true, true, true, false, false, false, true, false, false, false, false, false, false, false, false, false, false, false, false, false, false] rfl rfl (any_of HT_.out (by kernel_rfl)) (fun _ _ _ h => h) (Or.inl ⟨by rfl, ?_⟩) ?_ ?_
      rotate_left
      ·intro w'
       go_simp
       with_reducible rfl
      rotate_left
      ·simp only [Act.put, List.setIfInBounds_toArray, List.set_cons_zero, List.set_cons_succ, i64_w, i32_w]
       rfl
      refine pure_ (i := 17) (N := some 43) (v := ?_) (a' := ?_) #[true, true, true, true, true, true, true, true, true, true, true, true, true, false, false, false, true, true, false, false, false, false, false, false, false, false, false, false, false, false, false] rfl rfl (any_of HT_.out (by kernel_rfl)) (fun _ _ _ h => h) (Or.inl ⟨by rfl, ?_⟩) ?_ ?_
      rotate_left
      ·intro w'
       go_simp
       with_reducible rfl
      rotate_left
      ·simp only [Act.put, List.setIfInBounds_toArray, List.set_cons_zero, List.set_cons_succ, i64_w, i32_w]
       rfl
      refine take_ (i := 13) (N := some 39) (v := ?_) (a' := ?_) #[true, true, true, true, true, true, true, true, true, true, true, true, true, true, false, false, true, true, false, false, false, false, false, false, false, false, false, false, false, false, false] rfl rfl (take_ofW HT_.out HW_.out (by kernel_rfl)) (fun _ _ _ h => h) (Or.inl ⟨by rfl, ?_⟩) hHeld ?_ ?_
      rotate_left
      ·rintro w' ⟨s0, s1⟩
       go_simp
       with_reducible rfl
      rotate_left
      ·simp only [Act.put, List.setIfInBounds_toArray, List.set_cons_zero, List.set_cons_succ, i64_w, i32_w]
       rfl
      refine one_ (i := 14) (N := some 40) #[true, true, true, true, true, true, true, true, true, true, true, true, true, true, true, false, true, true, false, false, false, false, false, false, false, false, false, false, false, false, false] rfl rfl (one_of HT_.out (by kernel_rfl)) (by decide) (fun K hK => ?_)
      refine goes_ Tryd.func27 (by kernel_rfl) rfl #[.int .i64 0, .int .i64 1] (by rfl) rfl rfl (by (try simp only [List.map_toArray, List.map_cons, List.map_nil]); rfl) ?_
      with_reducible refine (cleanselaw04_of.calls 0 1 t113 t114 _ A21.out).mono ?_
      rintro e w36 ⟨rfl, hb⟩
      refine ⟨_, rfl, ?_⟩
      have n0_ := Aside0.mk (Kd.V_below (by (with_reducible repeat ((apply Kd.V_drewN))); exact HO0.out) hb)
      have n1_ := Aside0.mk (Kd.V_below (by (with_reducible repeat ((apply Kd.V_drewN))); exact HO1.out) hb)
      have n2_ := Aside0.mk (Kd.V_below (by (with_reducible repeat ((apply Kd.V_drewN))); exact HO2.out) hb)
      have n3_ := Aside0.mk (Kd.N_below (by (with_reducible repeat ((apply Kd.N_drewN))); exact HO104.out) hb)
      have n4_ := Aside0.mk (blk_below (g := gb108) (o := .cells #[.int .i64 t106, .int .i64 t107] 32 (0, 0)) (by (with_reducible repeat ((refine blk_drewN ?_ _))); exact BK108.out) hb)
      have n5_ := Aside0.mk (below_step (by repeat ((with_reducible first | exact HB.out | apply pw_below_drewN))) hb)
      clear HO0
      clear HO1
      clear HO2
      clear HO104
      clear BK108
      clear HB
      have HO0 := n0_
      have HO1 := n1_
      have HO2 := n2_
      have HO104 := n3_
      have BK108 := n4_
      have HB := n5_
      clear n0_ n1_ n2_ n3_ n4_ n5_
      (try clear hb)
      refine hK.out _ _ ⟨(blk_cell BK108.out 0).trans rfl, (blk_cell BK108.out 1).trans rfl⟩ (fun hHeld => ?_)
      clear hK K
      refine norm_ (a' := ?_) ?_ ?_
      rotate_left
      ·show Act.put _ (some 40) _ = _
       simp only [Act.put, List.setIfInBounds_toArray, List.set_cons_zero, List.set_cons_succ, i64_w, i32_w]
       rfl
      refine pure_ (i := 15) (N := some 41) (v := ?_) (a' := ?_) #[true, true, true, true, true, true, true, true, true, true, true, true, true, true, true, true, true, true, false, false, false, false, false, false, false, false, false, false, false, false, false] rfl rfl (any_of HT_.out (by kernel_rfl)) (fun _ _ _ h => h) (Or.inl ⟨by rfl, ?_⟩) ?_ ?_
      rotate_left
      ·intro w'
       go_simp
       with_reducible rfl
      rotate_left
      ·simp only [Act.put, List.setIfInBounds_toArray, List.set_cons_zero, List.set_cons_succ, i64_w, i32_w]
       rfl
      refine one_ (i := 18) (N := some 44) #[true, true, true, true, true, true, true, true, true, true, true, true, true, true, true, true, true, true, true, false, false, false, false, false, false, false, false, false, false, false, false] rfl rfl (one_of HT_.out (by kernel_rfl)) (by decide) (fun K hK => ?_)
      refine goes_ Tryd.func31 (by kernel_rfl) rfl #[.slice A0 l0.length c0, .slice A1 l1.length c1] (by rfl) rfl rfl (by (try simp only [List.map_toArray, List.map_cons, List.map_nil]); rfl) ?_
      with_reducible refine (cleanselaw04_apart.calls k _ _ l0 _ _ l1 false _ ?side1 ?side2 ?side3 ?side4 A22.out).mono ?_
      (case side1 => repeat ((exact (Kd.V_reads' HO0.out).2.2)))
      (case side2 => exact (Kd.V_reads' HO0.out).2.1)
      (case side3 => repeat ((exact (Kd.V_reads' HO1.out).2.2)))
      (case side4 => exact (Kd.V_reads' HO1.out).2.1)
      rintro e w' ⟨rfl, ⟨nd, rfl⟩⟩
      refine ⟨_, rfl, ?_⟩
      refine hK.out _ _ ⟨(blk_cell BK108.out 0).trans rfl, (blk_cell BK108.out 1).trans rfl⟩ (fun hHeld => ?_)
      clear hK K
      refine norm_ (a' := ?_) ?_ ?_
      rotate_left
      ·show Act.put _ (some 44) _ = _
       simp only [Act.put, List.setIfInBounds_toArray, List.set_cons_zero, List.set_cons_succ, i64_w, i32_w]
       rfl
      refine pure_ (i := 19) (N := some 45) (v := ?_) (a' := ?_) #[true, true, true, true, true, true, true, true, true, true, true, true, true, true, true, true, true, true, true, true, false, false, false, false, false, false, false, false, false, false, false] rfl rfl (any_of HT_.out (by kernel_rfl)) (fun _ _ _ h => h) (Or.inl ⟨by rfl, ?_⟩) ?_ ?_
      rotate_left
      ·intro w'
       go_simp
       with_reducible rfl
      rotate_left
      ·simp only [Act.put, List.setIfInBounds_toArray, List.set_cons_zero, List.set_cons_succ, i64_w, i32_w]
       rfl
      refine pure_ (i := 20) (N := some 46) (v := undef) (a' := ?_) #[true, true, true, true, true, true, true, true, true, true, true, true, true, true, true, true, true, true, true, true, true, false, false, false, false, false, false, false, false, false, false] rfl rfl (any_of HT_.out (by kernel_rfl)) (fun _ _ _ h => h) (Or.inr ⟨by rfl, rfl⟩) ?_ ?_
      rotate_left
      ·simp only [Act.put, List.setIfInBounds_toArray, List.set_cons_zero, List.set_cons_succ, i64_w, i32_w]
       rfl
      refine pure_ (i := 21) (N := some 47) (v := undef) (a' := ?_) #[true, true, true, true, true, true, true, true, true, true, true, true, true, true, true, true, true, true, true, true, true, true, false, false, false, false, false, false, false, false, false] rfl rfl (any_of HT_.out (by kernel_rfl)) (fun _ _ _ h => h) (Or.inr ⟨by rfl, rfl⟩) ?_ ?_
      rotate_left
      ·simp only [Act.put, List.setIfInBounds_toArray, List.set_cons_zero, List.set_cons_succ, i64_w, i32_w]
       rfl
      refine pure_ (i := 22) (N := some 48) (v := undef) (a' := ?_) #[true, true, true, true, true, true, true, true, true, true, true, true, true, true, true, true, true, true, true, true, true, true, true, false, false, false, false, false, false, false, false] rfl rfl (any_of HT_.out (by kernel_rfl)) (fun _ _ _ h => h) (Or.inr ⟨by rfl, rfl⟩) ?_ ?_
      rotate_left
      ·simp only [Act.put, List.setIfInBounds_toArray, List.set_cons_zero, List.set_cons_succ, i64_w, i32_w]
       rfl
      refine pure_ (i := 23) (N := some 49) (v := undef) (a' := ?_) #[true, true, true, true, true, true, true, true, true, true, true, true, true, true, true, true, true, true, true, true, true, true, true, true, false, false, false, false, false, false, false] rfl rfl (any_of HT_.out (by kernel_rfl)) (fun _ _ _ h => h) (Or.inr ⟨by rfl, rfl⟩) ?_ ?_
      rotate_left
      ·simp only [Act.put, List.setIfInBounds_toArray, List.set_cons_zero, List.set_cons_succ, i64_w, i32_w]
       rfl
      refine pure_ (i := 24) (N := some 50) (v := undef) (a' := ?_) #[true, true, true, true, true, true, true, true, true, true, true, true, true, true, true, true, true, true, true, true, true, true, true, true, true, false, false, false, false, false, false] rfl rfl (any_of HT_.out (by kernel_rfl)) (fun _ _ _ h => h) (Or.inr ⟨by rfl, rfl⟩) ?_ ?_
      rotate_left
      ·simp only [Act.put, List.setIfInBounds_toArray, List.set_cons_zero, List.set_cons_succ, i64_w, i32_w]
       rfl
      refine pure_ (i := 25) (N := some 51) (v := undef) (a' := ?_) #[true, true, true, true, true, true, true, true, true, true, true, true, true, true, true, true, true, true, true, true, true, true, true, true, true, true, false, false, false, false, false] rfl rfl (any_of HT_.out (by kernel_rfl)) (fun _ _ _ h => h) (Or.inr ⟨by rfl, rfl⟩) ?_ ?_
      rotate_left
      ·simp only [Act.put, List.setIfInBounds_toArray, List.set_cons_zero, List.set_cons_succ, i64_w, i32_w]
       rfl
      refine pure_ (i := 26) (N := some 52) (v := undef) (a' := ?_) #[true, true, true, true, true, true, true, true, true, true, true, true, true, true, true, true, true, true, true, true, true, true, true, true, true, true, true, false, false, false, false] rfl rfl (any_of HT_.out (by kernel_rfl)) (fun _ _ _ h => h) (Or.inr ⟨by rfl, rfl⟩) ?_ ?_
      rotate_left
      ·simp only [Act.put, List.setIfInBounds_toArray, List.set_cons_zero, List.set_cons_succ, i64_w, i32_w]
       rfl
      refine pure_ (i := 27) (N := some 53) (v := undef) (a' := ?_) #[true, true, true, true, true, true, true, true, true, true, true, true, true, true, true, true, true, true, true, true, true, true, true, true, true, true, true, true, false, false, false] rfl rfl (any_of HT_.out (by kernel_rfl)) (fun _ _ _ h => h) (Or.inr ⟨by rfl, rfl⟩) ?_ ?_
      rotate_left
      ·simp only [Act.put, List.setIfInBounds_toArray, List.set_cons_zero, List.set_cons_succ, i64_w, i32_w]
       rfl
      refine pure_ (i := 28) (N := some 54) (v := ?_) (a' := ?_) #[true, true, true, true, true, true, true, true, true, true, true, true, true, true, true, true, true, true, true, true, true, true, true, true, true, true, true, true, true, false, false] rfl rfl (any_of HT_.out (by kernel_rfl)) (fun _ _ _ h => h) (Or.inl ⟨by rfl, ?_⟩) ?_ ?_
      rotate_left
      ·intro w'
       go_simp
       with_reducible rfl
      rotate_left
      ·simp only [Act.put, List.setIfInBounds_toArray, List.set_cons_zero, List.set_cons_succ, i64_w, i32_w]
       rfl
      refine pure_ (i := 29) (N := some 55) (v := ?_) (a' := ?_) #[true, true, true, true, true, true, true, true, true, true, true, true, true, true, true, true, true, true, true, true, true, true, true, true, true, true, true, true, true, true, false] rfl rfl (any_of HT_.out (by kernel_rfl)) (fun _ _ _ h => h) (Or.inl ⟨by rfl, ?_⟩) ?_ ?_
      rotate_left
      ·intro w'
       go_simp
       with_reducible rfl
      rotate_left
      ·simp only [Act.put, List.setIfInBounds_toArray, List.set_cons_zero, List.set_cons_succ, i64_w, i32_w]
       rfl
      refine pure_ (i := 30) (N := some 56) (v := ?_) (a' := ?_) #[true, true, true, true, true, true, true, true, true, true, true, true, true, true, true, true, true, true, true, true, true, true, true, true, true, true, true, true, true, true, true] rfl rfl (any_of HT_.out (by kernel_rfl)) (fun _ _ _ h => h) (Or.inl ⟨by rfl, ?_⟩) ?_ ?_
      rotate_left
      ·intro w'
       go_simp
       with_reducible rfl
      rotate_left
      ·simp only [Act.put, List.setIfInBounds_toArray, List.set_cons_zero, List.set_cons_succ, i64_w, i32_w]
       rfl
      refine done_ (done_of HT_.out (by kernel_rfl)) ?_
      try go_wp2
      go_meet
      case rel => exact ⟨_, (((t106 == t113 && (t107 == t114)) != false)), (by (simp; done)), H', ⟨by omega⟩, ⟨by (with_reducible repeat ((apply Kd.V_drewN))); exact Kd.V_mono HO0.out (fun _ hk => ⟨hk.1, hk.2.2⟩)⟩, ⟨by (with_reducible repeat ((apply Kd.V_drewN))); exact Kd.V_mono HO1.out (fun _ hk => ⟨hk.1, hk.2.2⟩)⟩, ⟨by (with_reducible repeat ((apply Kd.V_drewN))); exact Kd.V_mono HO2.out (fun _ hk => ⟨hk.1, hk.2.2⟩)⟩, ⟨by (with_reducible repeat ((refine blk_drewN ?_ _))); exact BK108.out⟩, ⟨by repeat ((with_reducible first | exact HB.out | apply pw_below_drewN))⟩⟩
   ·replace c18 := Bool.eq_false_iff.mpr c18
    subst c18
    have H1 : (if ((t106 == t109 && (t107 == t110)) != false) = true then (cleanselaw04_MeasureSets.j0 k l0 l1 l2 t101 true t106 t107) else ((cleanselaw04_of.f 0 1).bind fun bt116 => ((cleanselaw04_apart.f k l0 l1).bind fun t118 => (if t118 = true then (if (l0.length : Int) > 0 then (cleanselaw04_MeasureSets.j0 k l0 l1 l2 t101 ((t106 == bt116.1 && (t107 == bt116.2)) != true) t106 t107) else (cleanselaw04_MeasureSets.j0 k l0 l1 l2 t101 ((t106 == bt116.1 && (t107 == bt116.2)) != (decide ((l1.length : Int) > 0))) t106 t107)) else (cleanselaw04_MeasureSets.j0 k l0 l1 l2 t101 ((t106 == bt116.1 && (t107 == bt116.2)) != false) t106 t107))))) = some r := by rw [if_neg (show ¬ (false = true) by decide)] at H; exact H
    clear H
    have H := H1
    clear H1
    by_cases c37 : ((t106 == t109 && (t107 == t110)) != false) = true
    ·rw [if_pos c37] at H
     have c37b0 : ((t106 == t109 && (t107 == t110)) != false) = true := c37
     have c37bx : (t106 == t109 && (t107 == t110)) = true := by have h_ := c37b0; simpa using h_
     (try (have c37b1 : decide ((t106 == t109 && (t107 == t110)) = false) = false := by simpa using c37))
     (try (have c37b2 : ((t106 == t109 && (t107 == t110)) == false) = false := by simpa using c37))
     (try (have c37b3 : ¬ ((t106 == t109 && (t107 == t110)) = false) := by simpa using c37))
     clear c37
     exact (cleanselaw04_MeasureSets.j0_true H HT.out).elim
    ·rw [if_neg c37] at H
     have c37b0 : ((t106 == t109 && (t107 == t110)) != false) = false := by simpa using c37
     have c37bx : (t106 == t109 && (t107 == t110)) = false := by have h_ := c37b0; simpa using h_
     clear c37
     replace H := Option.bind_eq_some_iff.mp H
     obtain ⟨⟨t116, t117⟩, A380, H⟩ := H
     replace H : ((cleanselaw04_apart.f k l0 l1).bind fun t118 => (if t118 = true then (if (l0.length : Int) > 0 then (cleanselaw04_MeasureSets.j0 k l0 l1 l2 t101 ((t106 == t116 && (t107 == t117)) != true) t106 t107) else (cleanselaw04_MeasureSets.j0 k l0 l1 l2 t101 ((t106 == t116 && (t107 == t117)) != (decide ((l1.length : Int) > 0))) t106 t107)) else (cleanselaw04_MeasureSets.j0 k l0 l1 l2 t101 ((t106 == t116 && (t107 == t117)) != false) t106 t107))) = some r := H
     have A38 := Aside0.mk A380
     clear A380
     replace H := Option.bind_eq_some_iff.mp H
     obtain ⟨t118, A390, H⟩ := H
     replace H : (if t118 = true then (if (l0.length : Int) > 0 then (cleanselaw04_MeasureSets.j0 k l0 l1 l2 t101 ((t106 == t116 && (t107 == t117)) != true) t106 t107) else (cleanselaw04_MeasureSets.j0 k l0 l1 l2 t101 ((t106 == t116 && (t107 == t117)) != (decide ((l1.length : Int) > 0))) t106 t107)) else (cleanselaw04_MeasureSets.j0 k l0 l1 l2 t101 ((t106 == t116 && (t107 == t117)) != false) t106 t107)) = some r := H
     have A39 := Aside0.mk A390
     clear A390
     by_cases c40 : t118 = true
     ·subst c40
      have H1 : (if (l0.length : Int) > 0 then (cleanselaw04_MeasureSets.j0 k l0 l1 l2 t101 ((t106 == t116 && (t107 == t117)) != true) t106 t107) else (cleanselaw04_MeasureSets.j0 k l0 l1 l2 t101 ((t106 == t116 && (t107 == t117)) != (decide ((l1.length : Int) > 0))) t106 t107)) = some r := by rw [if_pos rfl] at H; exact H
      clear H
      have H := H1
      clear H1
      by_cases c41 : (l0.length : Int) > 0
      ·rw [if_pos c41] at H
       have c41b0 : decide (0 < (l0.length : Int)) = true := decide_eq_true c41
       have c41b1 : decide (0 < l0.length) = true := decide_eq_true (by omega)
       clear c41
       have H' := Aside0.mk H
       clear H
       try go_wp2
       have n0_ : Aside0 (Kd.V Kd.string 9 ((w14.setCell ⟨gb108, 0, none⟩ (.int .i64 t106)).setCell ⟨gb108, 1, none⟩ (.int .i64 t107)) w.heap.size (fun k_ => ((P0_ k_ ∨ P1_ k_ ∨ P2_ k_) ∨ w.heap.size ≤ k_) ∧ some k_ ≠ (.slice Ao12 y102.length co12 : Value).ownBlock ∧ k_ ≠ gb108) (.slice A0 l0.length c0) l0) := ⟨by (with_reducible skip); exact Kd.V_mono (Kd.V_far (p := ⟨gb108, 1, none⟩) (Kd.V_far (p := ⟨gb108, 0, none⟩) (Kd.V_mono HO0.out (fun k_ hk => (⟨hk, hk.2⟩ : _ ∧ k_ ≠ gb108))) (fun _ hk => hk.2) (.int .i64 t106)) (fun _ hk => hk.2) (.int .i64 t107)) (fun _ hk => ⟨hk.1.1.1, ⟨hk.1.1.2, hk.1.2⟩⟩)⟩
       have n1_ : Aside0 (Kd.V Kd.string 9 ((w14.setCell ⟨gb108, 0, none⟩ (.int .i64 t106)).setCell ⟨gb108, 1, none⟩ (.int .i64 t107)) w.heap.size (fun k_ => ((P0_ k_ ∨ P1_ k_ ∨ P2_ k_) ∨ w.heap.size ≤ k_) ∧ some k_ ≠ (.slice Ao12 y102.length co12 : Value).ownBlock ∧ k_ ≠ gb108) (.slice A1 l1.length c1) l1) := ⟨by (with_reducible skip); exact Kd.V_mono (Kd.V_far (p := ⟨gb108, 1, none⟩) (Kd.V_far (p := ⟨gb108, 0, none⟩) (Kd.V_mono HO1.out (fun k_ hk => (⟨hk, hk.2⟩ : _ ∧ k_ ≠ gb108))) (fun _ hk => hk.2) (.int .i64 t106)) (fun _ hk => hk.2) (.int .i64 t107)) (fun _ hk => ⟨hk.1.1.1, ⟨hk.1.1.2, hk.1.2⟩⟩)⟩
       have n2_ : Aside0 (Kd.V Kd.string 9 ((w14.setCell ⟨gb108, 0, none⟩ (.int .i64 t106)).setCell ⟨gb108, 1, none⟩ (.int .i64 t107)) w.heap.size (fun k_ => ((P0_ k_ ∨ P1_ k_ ∨ P2_ k_) ∨ w.heap.size ≤ k_) ∧ some k_ ≠ (.slice Ao12 y102.length co12 : Value).ownBlock ∧ k_ ≠ gb108) (.slice A2 l2.length c2) l2) := ⟨by (with_reducible skip); exact Kd.V_mono (Kd.V_far (p := ⟨gb108, 1, none⟩) (Kd.V_far (p := ⟨gb108, 0, none⟩) (Kd.V_mono HO2.out (fun k_ hk => (⟨hk, hk.2⟩ : _ ∧ k_ ≠ gb108))) (fun _ hk => hk.2) (.int .i64 t106)) (fun _ hk => hk.2) (.int .i64 t107)) (fun _ hk => ⟨hk.1.1.1, ⟨hk.1.1.2, hk.1.2⟩⟩)⟩
       have n3_ : Aside0 (Kd.N (Kd.slice 9 Kd.string) 22 ((w14.setCell ⟨gb108, 0, none⟩ (.int .i64 t106)).setCell ⟨gb108, 1, none⟩ (.int .i64 t107)) w.heap.size (fun k_ => ((P0_ k_ ∨ P1_ k_ ∨ P2_ k_) ∨ w.heap.size ≤ k_) ∧ k_ ≠ gb108) (.slice Ao12 y102.length co12) y102) := ⟨by (with_reducible skip); exact Kd.N_mono (Kd.N_far (p := ⟨gb108, 1, none⟩) (Kd.N_far (p := ⟨gb108, 0, none⟩) (Kd.N_mono HO104.out (fun k_ hk => (⟨hk, hk.2⟩ : _ ∧ k_ ≠ gb108))) (fun _ hk => hk.2) (.int .i64 t106)) (fun _ hk => hk.2) (.int .i64 t107)) (fun _ hk => ⟨hk.1.1, hk.1.2⟩)⟩
       have n4_ : Aside0 (((w14.setCell ⟨gb108, 0, none⟩ (.int .i64 t106)).setCell ⟨gb108, 1, none⟩ (.int .i64 t107)).heap[gb108]? = some (.cells #[.int .i64 t106, .int .i64 t107] 32 (0, 0))) := ⟨by (with_reducible skip); refine blk_put (cs := #[.int .i64 t106, .int .i64 0]) ?_ 1 _ rfl; (with_reducible skip); refine blk_put (cs := #[.int .i64 0, .int .i64 0]) ?_ 0 _ rfl; (with_reducible skip); exact BK108.out⟩
       have n5_ : Aside0 (Below w.heap.size w ((w14.setCell ⟨gb108, 0, none⟩ (.int .i64 t106)).setCell ⟨gb108, 1, none⟩ (.int .i64 t107))) := ⟨by repeat ((with_reducible first | exact HB.out | refine below_set ?_ GE108.out))⟩
       (try clear HO0)
       (try clear HO1)
       (try clear HO2)
       (try clear HO104)
       (try clear BK108)
       (try clear HB)
       generalize ((w14.setCell ⟨gb108, 0, none⟩ (.int .i64 t106)).setCell ⟨gb108, 1, none⟩ (.int .i64 t107)) = w42 at n0_ n1_ n2_ n3_ n4_ n5_ ⊢
       have HO0 := n0_
       have HO1 := n1_
       have HO2 := n2_
       have HO104 := n3_
       have BK108 := n4_
       have HB := n5_
       clear n0_ n1_ n2_ n3_ n4_ n5_
       have n0_ := Aside0.mk (Kd.V_drew HO0.out)
       have n1_ := Aside0.mk (Kd.V_drew HO1.out)
       have n2_ := Aside0.mk (Kd.V_drew HO2.out)
       have n3_ := Aside0.mk (Kd.N_drew HO104.out)
       have n4_ := Aside0.mk (blk_drew BK108.out)
       have n5_ := Aside0.mk (below_drew1 HB.out)
       clear HO0
       clear HO1
       clear HO2
       clear HO104
       clear BK108
       clear HB
       have HO0 := n0_
       have HO1 := n1_
       have HO2 := n2_
       have HO104 := n3_
       have BK108 := n4_
       have HB := n5_
       clear n0_ n1_ n2_ n3_ n4_ n5_
       refine start_ (n := 31) (S := fun w' => w'.cell? ⟨gb108, 0, none⟩ = some (.int .i64 t106) ∧ w'.cell? ⟨gb108, 1, none⟩ = some (.int .i64 t107)) (ds := []) #[false, false, false, false, false, false, false, false, false, false, false, false, false, false, false, false, false, false, false, false, false, false, false, false, false, false, false, false, false, false, false] (by kernel_rfl) rfl rfl ⟨(blk_cell BK108.out 0).trans rfl, (blk_cell BK108.out 1).trans rfl⟩ (fun hHeld => ?_); refine with_tabW cleanselaw04_MeasureSets.tab5 cleanselaw04_MeasureSets.bits5 (fun HT_ HW_ => ?_)
       generalize w42.drew = w43 at HO0 HO1 HO2 HO104 BK108 HB hHeld ⊢
       refine pure_ (i := 3) (N := some 29) (v := ?_) (a' := ?_) #[false, false, false, true, false, false, false, false, false, false, false, false, false, false, false, false, false, false, false, false, false, false, false, false, false, false, false, false, false, false, false] rfl rfl (any_of HT_.out (by kernel_rfl)) (fun _ _ _ h => h) (Or.inl ⟨by rfl, ?_⟩) ?_ ?_
       rotate_left
       ·intro w'
        go_simp
        with_reducible rfl
       rotate_left
       ·simp only [Act.put, List.setIfInBounds_toArray, List.set_cons_zero, List.set_cons_succ, i64_w, i32_w]
        rfl
       refine pure_ (i := 4) (N := some 30) (v := ?_) (a' := ?_) #[false, false, false, true, true, false, false, false, false, false, false, false, false, false, false, false, false, false, false, false, false, false, false, false, false, false, false, false, false, false, false] rfl rfl (any_of HT_.out (by kernel_rfl)) (fun _ _ _ h => h) (Or.inl ⟨by rfl, ?_⟩) ?_ ?_
       rotate_left
       ·intro w'
        go_simp
        with_reducible rfl
       rotate_left
       ·simp only [Act.put, List.setIfInBounds_toArray, List.set_cons_zero, List.set_cons_succ, i64_w, i32_w]
        rfl
       refine take_ (i := 0) (N := some 26) (v := ?_) (a' := ?_) #[true, false, false, true, true, false, false, false, false, false, false, false, false, false, false, false, false, false, false, false, false, false, false, false, false, false, false, false, false, false, false] rfl rfl (take_ofW HT_.out HW_.out (by kernel_rfl)) (fun _ _ _ h => h) (Or.inl ⟨by rfl, ?_⟩) hHeld ?_ ?_
       rotate_left
       ·rintro w' ⟨s0, s1⟩
        go_simp
        with_reducible rfl
       rotate_left
       ·simp only [Act.put, List.setIfInBounds_toArray, List.set_cons_zero, List.set_cons_succ, i64_w, i32_w]
        rfl
       refine one_ (i := 1) (N := some 27) #[true, true, false, true, true, false, false, false, false, false, false, false, false, false, false, false, false, false, false, false, false, false, false, false, false, false, false, false, false, false, false] rfl rfl (one_of HT_.out (by kernel_rfl)) (by decide) (fun K hK => ?_)
       refine goes_ Tryd.func27 (by kernel_rfl) rfl #[.int .i64 1, .int .i64 1] (by rfl) rfl rfl (by (try simp only [List.map_toArray, List.map_cons, List.map_nil]); rfl) ?_
       with_reducible refine (cleanselaw04_of.calls 1 1 t109 t110 _ A16.out).mono ?_
       rintro e w44 ⟨rfl, hb⟩
       refine ⟨_, rfl, ?_⟩
       have n0_ := Aside0.mk (Kd.V_below (by (with_reducible skip); exact HO0.out) hb)
       have n1_ := Aside0.mk (Kd.V_below (by (with_reducible skip); exact HO1.out) hb)
       have n2_ := Aside0.mk (Kd.V_below (by (with_reducible skip); exact HO2.out) hb)
       have n3_ := Aside0.mk (Kd.N_below (by (with_reducible skip); exact HO104.out) hb)
       have n4_ := Aside0.mk (blk_below (g := gb108) (o := .cells #[.int .i64 t106, .int .i64 t107] 32 (0, 0)) (by (with_reducible skip); exact BK108.out) hb)
       have n5_ := Aside0.mk (below_step (by repeat ((with_reducible (exact HB.out)))) hb)
       clear HO0
       clear HO1
       clear HO2
       clear HO104
       clear BK108
       clear HB
       have HO0 := n0_
       have HO1 := n1_
       have HO2 := n2_
       have HO104 := n3_
       have BK108 := n4_
       have HB := n5_
       clear n0_ n1_ n2_ n3_ n4_ n5_
       (try clear hb)
       refine hK.out _ _ ⟨(blk_cell BK108.out 0).trans rfl, (blk_cell BK108.out 1).trans rfl⟩ (fun hHeld => ?_)
       clear hK K
       refine norm_ (a' := ?_) ?_ ?_
       rotate_left
       ·show Act.put _ (some 27) _ = _
        simp only [Act.put, List.setIfInBounds_toArray, List.set_cons_zero, List.set_cons_succ, i64_w, i32_w]
        rfl
       refine pure_ (i := 2) (N := some 28) (v := ?_) (a' := ?_) #[true, true, true, true, true, false, false, false, false, false, false, false, false, false, false, false, false, false, false, false, false, false, false, false, false, false, false, false, false, false, false] rfl rfl (any_of HT_.out (by kernel_rfl)) (fun _ _ _ h => h) (Or.inl ⟨by rfl, ?_⟩) ?_ ?_
       rotate_left
       ·intro w'
        go_simp
        with_reducible rfl
       rotate_left
       ·simp only [Act.put, List.setIfInBounds_toArray, List.set_cons_zero, List.set_cons_succ, i64_w, i32_w]
        rfl
       refine one_ (i := 5) (N := some 31) #[true, true, true, true, true, true, false, false, false, false, false, false, false, false, false, false, false, false, false, false, false, false, false, false, false, false, false, false, false, false, false] rfl rfl (one_of HT_.out (by kernel_rfl)) (by decide) (fun K hK => ?_)
       refine goes_ Tryd.func30 (by kernel_rfl) rfl #[.slice A0 l0.length c0, .slice A1 l1.length c1] (by rfl) rfl rfl (by (try simp only [List.map_toArray, List.map_cons, List.map_nil]); rfl) ?_
       with_reducible refine (cleanselaw04_within.calls k _ _ l0 _ _ l1 false _ ?side1 ?side2 ?side3 ?side4 A17.out).mono ?_
       (case side1 => repeat ((exact (Kd.V_reads' HO0.out).2.2)))
       (case side2 => exact (Kd.V_reads' HO0.out).2.1)
       (case side3 => repeat ((exact (Kd.V_reads' HO1.out).2.2)))
       (case side4 => exact (Kd.V_reads' HO1.out).2.1)
       rintro e w' ⟨rfl, ⟨nd, rfl⟩⟩
       refine ⟨_, rfl, ?_⟩
       refine hK.out _ _ ⟨(blk_cell BK108.out 0).trans rfl, (blk_cell BK108.out 1).trans rfl⟩ (fun hHeld => ?_)
       clear hK K
       refine norm_ (a' := ?_) ?_ ?_
       rotate_left
       ·show Act.put _ (some 31) _ = _
        simp only [Act.put, List.setIfInBounds_toArray, List.set_cons_zero, List.set_cons_succ, i64_w, i32_w]
        rfl
       refine pure_ (i := 6) (N := some 32) (v := ?_) (a' := ?_) #[true, true, true, true, true, true, true, false, false, false, false, false, false, false, false, false, false, false, false, false, false, false, false, false, false, false, false, false, false, false, false] rfl rfl (any_of HT_.out (by kernel_rfl)) (fun _ _ _ h => h) (Or.inl ⟨by rfl, ?_⟩) ?_ ?_
       rotate_left
       ·intro w'
        go_simp
        with_reducible rfl
       rotate_left
       ·simp only [Act.put, List.setIfInBounds_toArray, List.set_cons_zero, List.set_cons_succ, i64_w, i32_w]
        rfl
       refine pure_ (i := 7) (N := some 33) (v := undef) (a' := ?_) #[true, true, true, true, true, true, true, true, false, false, false, false, false, false, false, false, false, false, false, false, false, false, false, false, false, false, false, false, false, false, false] rfl rfl (any_of HT_.out (by kernel_rfl)) (fun _ _ _ h => h) (Or.inr ⟨by rfl, rfl⟩) ?_ ?_
       rotate_left
       ·simp only [Act.put, List.setIfInBounds_toArray, List.set_cons_zero, List.set_cons_succ, i64_w, i32_w]
        rfl
       refine pure_ (i := 8) (N := some 34) (v := undef) (a' := ?_) #[true, true, true, true, true, true, true, true, true, false, false, false, false, false, false, false, false, false, false, false, false, false, false, false, false, false, false, false, false, false, false] rfl rfl (any_of HT_.out (by kernel_rfl)) (fun _ _ _ h => h) (Or.inr ⟨by rfl, rfl⟩) ?_ ?_
       rotate_left
       ·simp only [Act.put, List.setIfInBounds_toArray, List.set_cons_zero, List.set_cons_succ, i64_w, i32_w]
        rfl
       refine pure_ (i := 9) (N := some 35) (v := undef) (a' := ?_) #[true, true, true, true, true, true, true, true, true, true, false, false, false, false, false, false, false, false, false, false, false, false, false, false, false, false, false, false, false, false, false] rfl rfl (any_of HT_.out (by kernel_rfl)) (fun _ _ _ h => h) (Or.inr ⟨by rfl, rfl⟩) ?_ ?_
       rotate_left
       ·simp only [Act.put, List.setIfInBounds_toArray, List.set_cons_zero, List.set_cons_succ, i64_w, i32_w]
        rfl
       refine pure_ (i := 10) (N := some 36) (v := ?_) (a' := ?_) #[true, true, true, true, true, true, true, true, true, true, true, false, false, false, false, false, false, false, false, false, false, false, false, false, false, false, false, false, false, false, false] rfl rfl (any_of HT_.out (by kernel_rfl)) (fun _ _ _ h => h) (Or.inl ⟨by rfl, ?_⟩) ?_ ?_
       rotate_left
       ·intro w'
        go_simp
        with_reducible rfl
       rotate_left
       ·simp only [Act.put, List.setIfInBounds_toArray, List.set_cons_zero, List.set_cons_succ, i64_w, i32_w]
        rfl
       refine pure_ (i := 11) (N := some 37) (v := ?_) (a' := ?_) #[true, true, true, true, true, true, true, true, true, true, true, true, false, false, false, false, false, false, false, false, false, false, false, false, false, false, false, false, false, false, false] rfl rfl (any_of HT_.out (by kernel_rfl)) (fun _ _ _ h => h) (Or.inl ⟨by rfl, ?_⟩) ?_ ?_
       rotate_left
       ·intro w'
        go_simp
        with_reducible rfl
       rotate_left
       ·simp only [Act.put, List.setIfInBounds_toArray, List.set_cons_zero, List.set_cons_succ, i64_w, i32_w]
        rfl
       refine pure_ (i := 12) (N := some 38) (v := ?_) (a' := ?_) #[true, true, true, true, true, true, true, true, true, true, true, true, true, false, false, false, false, false, false, false, false, false, false, false, false, false, false, false, false, false, false] rfl rfl (any_of HT_.out (by kernel_rfl)) (fun _ _ _ h => h) (Or.inl ⟨by rfl, ?_⟩) ?_ ?_
       rotate_left
       ·intro w'
        go_simp
        with_reducible rfl
       rotate_left
       ·simp only [Act.put, List.setIfInBounds_toArray, List.set_cons_zero, List.set_cons_succ, i64_w, i32_w]
        rfl
       refine pure_ (i := 16) (N := some 42) (v := ?_) (a' := ?_) #[true, true, true, true, true, true, true, true, true, true, true, true, true, false, false, false, true, false, false, false, false, false, false, false, false, false, false, false, false, false, false] rfl rfl (any_of HT_.out (by kernel_rfl)) (fun _ _ _ h => h) (Or.inl ⟨by rfl, ?_⟩) ?_ ?_
       rotate_left
       ·intro w'
        go_simp
        with_reducible rfl
       rotate_left
       ·simp only [Act.put, List.setIfInBounds_toArray, List.set_cons_zero, List.set_cons_succ, i64_w, i32_w]
        rfl
       refine pure_ (i := 17) (N := some 43) (v := ?_) (a' := ?_) #[true, true, true, true, true, true, true, true, true, true, true, true, true, false, false, false, true, true, false, false, false, false, false, false, false, false, false, false, false, false, false] rfl rfl (any_of HT_.out (by kernel_rfl)) (fun _ _ _ h => h) (Or.inl ⟨by rfl, ?_⟩) ?_ ?_
       rotate_left
       ·intro w'
        go_simp
        with_reducible rfl
       rotate_left
       ·simp only [Act.put, List.setIfInBounds_toArray, List.set_cons_zero, List.set_cons_succ, i64_w, i32_w]
        rfl
       refine take_ (i := 13) (N := some 39) (v := ?_) (a' := ?_) #[true, true, true, true, true, true, true, true, true, true, true, true, true, true, false, false, true, true, false, false, false, false, false, false, false, false, false, false, false, false, false] rfl rfl (take_ofW HT_.out HW_.out (by kernel_rfl)) (fun _ _ _ h => h) (Or.inl ⟨by rfl, ?_⟩) hHeld ?_ ?_
       rotate_left
       ·rintro w' ⟨s0, s1⟩
        go_simp
        with_reducible rfl
       rotate_left
       ·simp only [Act.put, List.setIfInBounds_toArray, List.set_cons_zero, List.set_cons_succ, i64_w, i32_w]
        rfl
       refine one_ (i := 14) (N := some 40) #[true, true, true, true, true, true, true, true, true, true, true, true, true, true, true, false, true, true, false, false, false, false, false, false, false, false, false, false, false, false, false] rfl rfl (one_of HT_.out (by kernel_rfl)) (by decide) (fun K hK => ?_)
       refine goes_ Tryd.func27 (by kernel_rfl) rfl #[.int .i64 0, .int .i64 1] (by rfl) rfl rfl (by (try simp only [List.map_toArray, List.map_cons, List.map_nil]); rfl) ?_
       with_reducible refine (cleanselaw04_of.calls 0 1 t116 t117 _ A38.out).mono ?_
       rintro e w45 ⟨rfl, hb⟩
       refine ⟨_, rfl, ?_⟩
       have n0_ := Aside0.mk (Kd.V_below (by (with_reducible repeat ((apply Kd.V_drewN))); exact HO0.out) hb)
       have n1_ := Aside0.mk (Kd.V_below (by (with_reducible repeat ((apply Kd.V_drewN))); exact HO1.out) hb)
       have n2_ := Aside0.mk (Kd.V_below (by (with_reducible repeat ((apply Kd.V_drewN))); exact HO2.out) hb)
       have n3_ := Aside0.mk (Kd.N_below (by (with_reducible repeat ((apply Kd.N_drewN))); exact HO104.out) hb)
       have n4_ := Aside0.mk (blk_below (g := gb108) (o := .cells #[.int .i64 t106, .int .i64 t107] 32 (0, 0)) (by (with_reducible repeat ((refine blk_drewN ?_ _))); exact BK108.out) hb)
       have n5_ := Aside0.mk (below_step (by repeat ((with_reducible first | exact HB.out | apply pw_below_drewN))) hb)
       clear HO0
       clear HO1
       clear HO2
       clear HO104
       clear BK108
       clear HB
       have HO0 := n0_
       have HO1 := n1_
       have HO2 := n2_
       have HO104 := n3_
       have BK108 := n4_
       have HB := n5_
       clear n0_ n1_ n2_ n3_ n4_ n5_
       (try clear hb)
       refine hK.out _ _ ⟨(blk_cell BK108.out 0).trans rfl, (blk_cell BK108.out 1).trans rfl⟩ (fun hHeld => ?_)
       clear hK K
       refine norm_ (a' := ?_) ?_ ?_
       rotate_left
       ·show Act.put _ (some 40) _ = _
        simp only [Act.put, List.setIfInBounds_toArray, List.set_cons_zero, List.set_cons_succ, i64_w, i32_w]
        rfl
       refine pure_ (i := 15) (N := some 41) (v := ?_) (a' := ?_) #[true, true, true, true, true, true, true, true, true, true, true, true, true, true, true, true, true, true, false, false, false, false, false, false, false, false, false, false, false, false, false] rfl rfl (any_of HT_.out (by kernel_rfl)) (fun _ _ _ h => h) (Or.inl ⟨by rfl, ?_⟩) ?_ ?_
       rotate_left
       ·intro w'
        go_simp
        with_reducible rfl
       rotate_left
       ·simp only [Act.put, List.setIfInBounds_toArray, List.set_cons_zero, List.set_cons_succ, i64_w, i32_w]
        rfl
       refine one_ (i := 18) (N := some 44) #[true, true, true, true, true, true, true, true, true, true, true, true, true, true, true, true, true, true, true, false, false, false, false, false, false, false, false, false, false, false, false] rfl rfl (one_of HT_.out (by kernel_rfl)) (by decide) (fun K hK => ?_)
       refine goes_ Tryd.func31 (by kernel_rfl) rfl #[.slice A0 l0.length c0, .slice A1 l1.length c1] (by rfl) rfl rfl (by (try simp only [List.map_toArray, List.map_cons, List.map_nil]); rfl) ?_
       with_reducible refine (cleanselaw04_apart.calls k _ _ l0 _ _ l1 true _ ?side1 ?side2 ?side3 ?side4 A39.out).mono ?_
       (case side1 => repeat ((exact (Kd.V_reads' HO0.out).2.2)))
       (case side2 => exact (Kd.V_reads' HO0.out).2.1)
       (case side3 => repeat ((exact (Kd.V_reads' HO1.out).2.2)))
       (case side4 => exact (Kd.V_reads' HO1.out).2.1)
       rintro e w' ⟨rfl, ⟨nd, rfl⟩⟩
       refine ⟨_, rfl, ?_⟩
       refine hK.out _ _ ⟨(blk_cell BK108.out 0).trans rfl, (blk_cell BK108.out 1).trans rfl⟩ (fun hHeld => ?_)
       clear hK K
       refine norm_ (a' := ?_) ?_ ?_
       rotate_left
       ·show Act.put _ (some 44) _ = _
        simp only [Act.put, List.setIfInBounds_toArray, List.set_cons_zero, List.set_cons_succ, i64_w, i32_w]
        rfl
       refine pure_ (i := 19) (N := some 45) (v := ?_) (a' := ?_) #[true, true, true, true, true, true, true, true, true, true, true, true, true, true, true, true, true, true, true, true, false, false, false, false, false, false, false, false, false, false, false] rfl rfl (any_of HT_.out (by kernel_rfl)) (fun _ _ _ h => h) (Or.inl ⟨by rfl, ?_⟩) ?_ ?_
       rotate_left
       ·intro w'
        go_simp
        with_reducible rfl
       rotate_left
       ·simp only [Act.put, List.setIfInBounds_toArray, List.set_cons_zero, List.set_cons_succ, i64_w, i32_w]
        rfl
       refine pure_ (i := 20) (N := some 46) (v := ?_) (a' := ?_) #[true, true, true, true, true, true, true, true, true, true, true, true, true, true, true, true, true, true, true, true, true, false, false, false, false, false, false, false, false, false, false] rfl rfl (any_of HT_.out (by kernel_rfl)) (fun _ _ _ h => h) (Or.inl ⟨by rfl, ?_⟩) ?_ ?_
       rotate_left
       ·intro w'
        go_simp
        with_reducible rfl
       rotate_left
       ·simp only [Act.put, List.setIfInBounds_toArray, List.set_cons_zero, List.set_cons_succ, i64_w, i32_w]
        rfl
       refine pure_ (i := 21) (N := some 47) (v := ?_) (a' := ?_) #[true, true, true, true, true, true, true, true, true, true, true, true, true, true, true, true, true, true, true, true, true, true, false, false, false, false, false, false, false, false, false] rfl rfl (any_of HT_.out (by kernel_rfl)) (fun _ _ _ h => h) (Or.inl ⟨by rfl, ?_⟩) ?_ ?_
       rotate_left
       ·intro w'
        go_simp
        with_reducible rfl
       rotate_left
       ·simp only [Act.put, List.setIfInBounds_toArray, List.set_cons_zero, List.set_cons_succ, i64_w, i32_w]
        rfl
       refine pure_ (i := 22) (N := some 48) (v := ?_) (a' := ?_) #[true, true, true, true, true, true, true, true, true, true, true, true, true, true, true, true, true, true, true, true, true, true, true, false, false, false, false, false, false, false, false] rfl rfl (any_of HT_.out (by kernel_rfl)) (fun _ _ _ h => h) (Or.inl ⟨by rfl, ?_⟩) ?_ ?_
       rotate_left
       ·intro w'
        go_simp
        with_reducible rfl
       rotate_left
       ·simp only [Act.put, List.setIfInBounds_toArray, List.set_cons_zero, List.set_cons_succ, i64_w, i32_w]
        rfl
       refine pure_ (i := 23) (N := some 49) (v := ?_) (a' := ?_) #[true, true, true, true, true, true, true, true, true, true, true, true, true, true, true, true, true, true, true, true, true, true, true, true, false, false, false, false, false, false, false] rfl rfl (any_of HT_.out (by kernel_rfl)) (fun _ _ _ h => h) (Or.inl ⟨by rfl, ?_⟩) ?_ ?_
       rotate_left
       ·intro w'
        go_simp
        with_reducible rfl
       rotate_left
       ·simp only [Act.put, List.setIfInBounds_toArray, List.set_cons_zero, List.set_cons_succ, i64_w, i32_w]
        rfl
       refine pure_ (i := 24) (N := some 50) (v := undef) (a' := ?_) #[true, true, true, true, true, true, true, true, true, true, true, true, true, true, true, true, true, true, true, true, true, true, true, true, true, false, false, false, false, false, false] rfl rfl (any_of HT_.out (by kernel_rfl)) (fun _ _ _ h => h) (Or.inr ⟨by rfl, rfl⟩) ?_ ?_
       rotate_left
       ·simp only [Act.put, List.setIfInBounds_toArray, List.set_cons_zero, List.set_cons_succ, i64_w, i32_w]
        rfl
       refine pure_ (i := 25) (N := some 51) (v := undef) (a' := ?_) #[true, true, true, true, true, true, true, true, true, true, true, true, true, true, true, true, true, true, true, true, true, true, true, true, true, true, false, false, false, false, false] rfl rfl (any_of HT_.out (by kernel_rfl)) (fun _ _ _ h => h) (Or.inr ⟨by rfl, rfl⟩) ?_ ?_
       rotate_left
       ·simp only [Act.put, List.setIfInBounds_toArray, List.set_cons_zero, List.set_cons_succ, i64_w, i32_w]
        rfl
       refine pure_ (i := 26) (N := some 52) (v := undef) (a' := ?_) #[true, true, true, true, true, true, true, true, true, true, true, true, true, true, true, true, true, true, true, true, true, true, true, true, true, true, true, false, false, false, false] rfl rfl (any_of HT_.out (by kernel_rfl)) (fun _ _ _ h => h) (Or.inr ⟨by rfl, rfl⟩) ?_ ?_
       rotate_left
       ·simp only [Act.put, List.setIfInBounds_toArray, List.set_cons_zero, List.set_cons_succ, i64_w, i32_w]
        rfl
       refine pure_ (i := 27) (N := some 53) (v := ?_) (a' := ?_) #[true, true, true, true, true, true, true, true, true, true, true, true, true, true, true, true, true, true, true, true, true, true, true, true, true, true, true, true, false, false, false] rfl rfl (any_of HT_.out (by kernel_rfl)) (fun _ _ _ h => h) (Or.inl ⟨by rfl, ?_⟩) ?_ ?_
       rotate_left
       ·intro w'
        go_simp
        with_reducible rfl
       rotate_left
       ·simp only [Act.put, List.setIfInBounds_toArray, List.set_cons_zero, List.set_cons_succ, i64_w, i32_w]
        rfl
       refine pure_ (i := 28) (N := some 54) (v := ?_) (a' := ?_) #[true, true, true, true, true, true, true, true, true, true, true, true, true, true, true, true, true, true, true, true, true, true, true, true, true, true, true, true, true, false, false] rfl rfl (any_of HT_.out (by kernel_rfl)) (fun _ _ _ h => h) (Or.inl ⟨by rfl, ?_⟩) ?_ ?_
       rotate_left
       ·intro w'
        go_simp
        with_reducible rfl
       rotate_left
       ·simp only [Act.put, List.setIfInBounds_toArray, List.set_cons_zero, List.set_cons_succ, i64_w, i32_w]
        rfl
       refine pure_ (i := 29) (N := some 55) (v := ?_) (a' := ?_) #[true, true, true, true, true, true, true, true, true, true, true, true, true, true, true, true, true, true, true, true, true, true, true, true, true, true, true, true, true, true, false] rfl rfl (any_of HT_.out (by kernel_rfl)) (fun _ _ _ h => h) (Or.inl ⟨by rfl, ?_⟩) ?_ ?_
       rotate_left
       ·intro w'
        go_simp
        with_reducible rfl
       rotate_left
       ·simp only [Act.put, List.setIfInBounds_toArray, List.set_cons_zero, List.set_cons_succ, i64_w, i32_w]
        rfl
       refine pure_ (i := 30) (N := some 56) (v := ?_) (a' := ?_) #[true, true, true, true, true, true, true, true, true, true, true, true, true, true, true, true, true, true, true, true, true, true, true, true, true, true, true, true, true, true, true] rfl rfl (any_of HT_.out (by kernel_rfl)) (fun _ _ _ h => h) (Or.inl ⟨by rfl, ?_⟩) ?_ ?_
       rotate_left
       ·intro w'
        go_simp
        with_reducible rfl
       rotate_left
       ·simp only [Act.put, List.setIfInBounds_toArray, List.set_cons_zero, List.set_cons_succ, i64_w, i32_w]
        rfl
       refine done_ (done_of HT_.out (by kernel_rfl)) ?_
       try go_wp2
       go_meet
       case rel => exact ⟨_, (((t106 == t116 && (t107 == t117)) != true)), (by (simp; done)), H', ⟨by omega⟩, ⟨by (with_reducible repeat ((apply Kd.V_drewN))); exact Kd.V_mono HO0.out (fun _ hk => ⟨hk.1, hk.2.2⟩)⟩, ⟨by (with_reducible repeat ((apply Kd.V_drewN))); exact Kd.V_mono HO1.out (fun _ hk => ⟨hk.1, hk.2.2⟩)⟩, ⟨by (with_reducible repeat ((apply Kd.V_drewN))); exact Kd.V_mono HO2.out (fun _ hk => ⟨hk.1, hk.2.2⟩)⟩, ⟨by (with_reducible repeat ((refine blk_drewN ?_ _))); exact BK108.out⟩, ⟨by repeat ((with_reducible first | exact HB.out | apply pw_below_drewN))⟩⟩
      ·rw [if_neg c41] at H
       have c41b0 : decide (0 < (l0.length : Int)) = false := decide_eq_false c41
       have c41b1 : decide (0 < l0.length) = false := decide_eq_false (by omega)
       clear c41
       have H' := Aside0.mk H
       clear H
       try go_wp2
       have n0_ : Aside0 (Kd.V Kd.string 9 ((w14.setCell ⟨gb108, 0, none⟩ (.int .i64 t106)).setCell ⟨gb108, 1, none⟩ (.int .i64 t107)) w.heap.size (fun k_ => ((P0_ k_ ∨ P1_ k_ ∨ P2_ k_) ∨ w.heap.size ≤ k_) ∧ some k_ ≠ (.slice Ao12 y102.length co12 : Value).ownBlock ∧ k_ ≠ gb108) (.slice A0 l0.length c0) l0) := ⟨by (with_reducible skip); exact Kd.V_mono (Kd.V_far (p := ⟨gb108, 1, none⟩) (Kd.V_far (p := ⟨gb108, 0, none⟩) (Kd.V_mono HO0.out (fun k_ hk => (⟨hk, hk.2⟩ : _ ∧ k_ ≠ gb108))) (fun _ hk => hk.2) (.int .i64 t106)) (fun _ hk => hk.2) (.int .i64 t107)) (fun _ hk => ⟨hk.1.1.1, ⟨hk.1.1.2, hk.1.2⟩⟩)⟩
       have n1_ : Aside0 (Kd.V Kd.string 9 ((w14.setCell ⟨gb108, 0, none⟩ (.int .i64 t106)).setCell ⟨gb108, 1, none⟩ (.int .i64 t107)) w.heap.size (fun k_ => ((P0_ k_ ∨ P1_ k_ ∨ P2_ k_) ∨ w.heap.size ≤ k_) ∧ some k_ ≠ (.slice Ao12 y102.length co12 : Value).ownBlock ∧ k_ ≠ gb108) (.slice A1 l1.length c1) l1) := ⟨by (with_reducible skip); exact Kd.V_mono (Kd.V_far (p := ⟨gb108, 1, none⟩) (Kd.V_far (p := ⟨gb108, 0, none⟩) (Kd.V_mono HO1.out (fun k_ hk => (⟨hk, hk.2⟩ : _ ∧ k_ ≠ gb108))) (fun _ hk => hk.2) (.int .i64 t106)) (fun _ hk => hk.2) (.int .i64 t107)) (fun _ hk => ⟨hk.1.1.1, ⟨hk.1.1.2, hk.1.2⟩⟩)⟩
       have n2_ : Aside0 (Kd.V Kd.string 9 ((w14.setCell ⟨gb108, 0, none⟩ (.int .i64 t106)).setCell ⟨gb108, 1, none⟩ (.int .i64 t107)) w.heap.size (fun k_ => ((P0_ k_ ∨ P1_ k_ ∨ P2_ k_) ∨ w.heap.size ≤ k_) ∧ some k_ ≠ (.slice Ao12 y102.length co12 : Value).ownBlock ∧ k_ ≠ gb108) (.slice A2 l2.length c2) l2) := ⟨by (with_reducible skip); exact Kd.V_mono (Kd.V_far (p := ⟨gb108, 1, none⟩) (Kd.V_far (p := ⟨gb108, 0, none⟩) (Kd.V_mono HO2.out (fun k_ hk => (⟨hk, hk.2⟩ : _ ∧ k_ ≠ gb108))) (fun _ hk => hk.2) (.int .i64 t106)) (fun _ hk => hk.2) (.int .i64 t107)) (fun _ hk => ⟨hk.1.1.1, ⟨hk.1.1.2, hk.1.2⟩⟩)⟩
       have n3_ : Aside0 (Kd.N (Kd.slice 9 Kd.string) 22 ((w14.setCell ⟨gb108, 0, none⟩ (.int .i64 t106)).setCell ⟨gb108, 1, none⟩ (.int .i64 t107)) w.heap.size (fun k_ => ((P0_ k_ ∨ P1_ k_ ∨ P2_ k_) ∨ w.heap.size ≤ k_) ∧ k_ ≠ gb108) (.slice Ao12 y102.length co12) y102) := ⟨by (with_reducible skip); exact Kd.N_mono (Kd.N_far (p := ⟨gb108, 1, none⟩) (Kd.N_far (p := ⟨gb108, 0, none⟩) (Kd.N_mono HO104.out (fun k_ hk => (⟨hk, hk.2⟩ : _ ∧ k_ ≠ gb108))) (fun _ hk => hk.2) (.int .i64 t106)) (fun _ hk => hk.2) (.int .i64 t107)) (fun _ hk => ⟨hk.1.1, hk.1.2⟩)⟩
       have n4_ : Aside0 (((w14.setCell ⟨gb108, 0, none⟩ (.int .i64 t106)).setCell ⟨gb108, 1, none⟩ (.int .i64 t107)).heap[gb108]? = some (.cells #[.int .i64 t106, .int .i64 t107] 32 (0, 0))) := ⟨by (with_reducible skip); refine blk_put (cs := #[.int .i64 t106, .int .i64 0]) ?_ 1 _ rfl; (with_reducible skip); refine blk_put (cs := #[.int .i64 0, .int .i64 0]) ?_ 0 _ rfl; (with_reducible skip); exact BK108.out⟩
       have n5_ : Aside0 (Below w.heap.size w ((w14.setCell ⟨gb108, 0, none⟩ (.int .i64 t106)).setCell ⟨gb108, 1, none⟩ (.int .i64 t107))) := ⟨by repeat ((with_reducible first | exact HB.out | refine below_set ?_ GE108.out))⟩
       (try clear HO0)
       (try clear HO1)
       (try clear HO2)
       (try clear HO104)
       (try clear BK108)
       (try clear HB)
       generalize ((w14.setCell ⟨gb108, 0, none⟩ (.int .i64 t106)).setCell ⟨gb108, 1, none⟩ (.int .i64 t107)) = w46 at n0_ n1_ n2_ n3_ n4_ n5_ ⊢
       have HO0 := n0_
       have HO1 := n1_
       have HO2 := n2_
       have HO104 := n3_
       have BK108 := n4_
       have HB := n5_
       clear n0_ n1_ n2_ n3_ n4_ n5_
       have n0_ := Aside0.mk (Kd.V_drew HO0.out)
       have n1_ := Aside0.mk (Kd.V_drew HO1.out)
       have n2_ := Aside0.mk (Kd.V_drew HO2.out)
       have n3_ := Aside0.mk (Kd.N_drew HO104.out)
       have n4_ := Aside0.mk (blk_drew BK108.out)
       have n5_ := Aside0.mk (below_drew1 HB.out)
       clear HO0
       clear HO1
       clear HO2
       clear HO104
       clear BK108
       clear HB
       have HO0 := n0_
       have HO1 := n1_
       have HO2 := n2_
       have HO104 := n3_
       have BK108 := n4_
       have HB := n5_
       clear n0_ n1_ n2_ n3_ n4_ n5_
       refine start_ (n := 31) (S := fun w' => w'.cell? ⟨gb108, 0, none⟩ = some (.int .i64 t106) ∧ w'.cell? ⟨gb108, 1, none⟩ = some (.int .i64 t107)) (ds := []) #[false, false, false, false, false, false, false, false, false, false, false, false, false, false, false, false, false, false, false, false, false, false, false, false, false, false, false, false, false, false, false] (by kernel_rfl) rfl rfl ⟨(blk_cell BK108.out 0).trans rfl, (blk_cell BK108.out 1).trans rfl⟩ (fun hHeld => ?_); refine with_tabW cleanselaw04_MeasureSets.tab5 cleanselaw04_MeasureSets.bits5 (fun HT_ HW_ => ?_)
       generalize w46.drew = w47 at HO0 HO1 HO2 HO104 BK108 HB hHeld ⊢
       refine pure_ (i := 3) (N := some 29) (v := ?_) (a' := ?_) #[false, false, false, true, false, false, false, false, false, false, false, false, false, false, false, false, false, false, false, false, false, false, false, false, false, false, false, false, false, false, false] rfl rfl (any_of HT_.out (by kernel_rfl)) (fun _ _ _ h => h) (Or.inl ⟨by rfl, ?_⟩) ?_ ?_
       rotate_left
       ·intro w'
        go_simp
        with_reducible rfl
       rotate_left
       ·simp only [Act.put, List.setIfInBounds_toArray, List.set_cons_zero, List.set_cons_succ, i64_w, i32_w]
        rfl
       refine pure_ (i := 4) (N := some 30) (v := ?_) (a' := ?_) #[false, false, false, true, true, false, false, false, false, false, false, false, false, false, false, false, false, false, false, false, false, false, false, false, false, false, false, false, false, false, false] rfl rfl (any_of HT_.out (by kernel_rfl)) (fun _ _ _ h => h) (Or.inl ⟨by rfl, ?_⟩) ?_ ?_
       rotate_left
       ·intro w'
        go_simp
        with_reducible rfl
       rotate_left
       ·simp only [Act.put, List.setIfInBounds_toArray, List.set_cons_zero, List.set_cons_succ, i64_w, i32_w]
        rfl
       refine take_ (i := 0) (N := some 26) (v := ?_) (a' := ?_) #[true, false, false, true, true, false, false, false, false, false, false, false, false, false, false, false, false, false, false, false, false, false, false, false, false, false, false, false, false, false, false] rfl rfl (take_ofW HT_.out HW_.out (by kernel_rfl)) (fun _ _ _ h => h) (Or.inl ⟨by rfl, ?_⟩) hHeld ?_ ?_
       rotate_left
       ·rintro w' ⟨s0, s1⟩
        go_simp
        with_reducible rfl
       rotate_left
       ·simp only [Act.put, List.setIfInBounds_toArray, List.set_cons_zero, List.set_cons_succ, i64_w, i32_w]
        rfl
       refine one_ (i := 1) (N := some 27) #[true, true, false, true, true, false, false, false, false, false, false, false, false, false, false, false, false, false, false, false, false, false, false, false, false, false, false, false, false, false, false] rfl rfl (one_of HT_.out (by kernel_rfl)) (by decide) (fun K hK => ?_)
       refine goes_ Tryd.func27 (by kernel_rfl) rfl #[.int .i64 1, .int .i64 1] (by rfl) rfl rfl (by (try simp only [List.map_toArray, List.map_cons, List.map_nil]); rfl) ?_
       with_reducible refine (cleanselaw04_of.calls 1 1 t109 t110 _ A16.out).mono ?_
       rintro e w48 ⟨rfl, hb⟩
       refine ⟨_, rfl, ?_⟩
       have n0_ := Aside0.mk (Kd.V_below (by (with_reducible skip); exact HO0.out) hb)
       have n1_ := Aside0.mk (Kd.V_below (by (with_reducible skip); exact HO1.out) hb)
       have n2_ := Aside0.mk (Kd.V_below (by (with_reducible skip); exact HO2.out) hb)
       have n3_ := Aside0.mk (Kd.N_below (by (with_reducible skip); exact HO104.out) hb)
       have n4_ := Aside0.mk (blk_below (g := gb108) (o := .cells #[.int .i64 t106, .int .i64 t107] 32 (0, 0)) (by (with_reducible skip); exact BK108.out) hb)
       have n5_ := Aside0.mk (below_step (by repeat ((with_reducible (exact HB.out)))) hb)
       clear HO0
       clear HO1
       clear HO2
       clear HO104
       clear BK108
       clear HB
       have HO0 := n0_
       have HO1 := n1_
       have HO2 := n2_
       have HO104 := n3_
       have BK108 := n4_
       have HB := n5_
       clear n0_ n1_ n2_ n3_ n4_ n5_
       (try clear hb)
       refine hK.out _ _ ⟨(blk_cell BK108.out 0).trans rfl, (blk_cell BK108.out 1).trans rfl⟩ (fun hHeld => ?_)
       clear hK K
       refine norm_ (a' := ?_) ?_ ?_
       rotate_left
       ·show Act.put _ (some 27) _ = _
        simp only [Act.put, List.setIfInBounds_toArray, List.set_cons_zero, List.set_cons_succ, i64_w, i32_w]
        rfl
       refine pure_ (i := 2) (N := some 28) (v := ?_) (a' := ?_) #[true, true, true, true, true, false, false, false, false, false, false, false, false, false, false, false, false, false, false, false, false, false, false, false, false, false, false, false, false, false, false] rfl rfl (any_of HT_.out (by kernel_rfl)) (fun _ _ _ h => h) (Or.inl ⟨by rfl, ?_⟩) ?_ ?_
       rotate_left
       ·intro w'
        go_simp
        with_reducible rfl
       rotate_left
       ·simp only [Act.put, List.setIfInBounds_toArray, List.set_cons_zero, List.set_cons_succ, i64_w, i32_w]
        rfl
       refine one_ (i := 5) (N := some 31) #[true, true, true, true, true, true, false, false, false, false, false, false, false, false, false, false, false, false, false, false, false, false, false, false, false, false, false, false, false, false, false] rfl rfl (one_of HT_.out (by kernel_rfl)) (by decide) (fun K hK => ?_)
       refine goes_ Tryd.func30 (by kernel_rfl) rfl #[.slice A0 l0.length c0, .slice A1 l1.length c1] (by rfl) rfl rfl (by (try simp only [List.map_toArray, List.map_cons, List.map_nil]); rfl) ?_
       with_reducible refine (cleanselaw04_within.calls k _ _ l0 _ _ l1 false _ ?side1 ?side2 ?side3 ?side4 A17.out).mono ?_
       (case side1 => repeat ((exact (Kd.V_reads' HO0.out).2.2)))
       (case side2 => exact (Kd.V_reads' HO0.out).2.1)
       (case side3 => repeat ((exact (Kd.V_reads' HO1.out).2.2)))
       (case side4 => exact (Kd.V_reads' HO1.out).2.1)
       rintro e w' ⟨rfl, ⟨nd, rfl⟩⟩
       refine ⟨_, rfl, ?_⟩
       refine hK.out _ _ ⟨(blk_cell BK108.out 0).trans rfl, (blk_cell BK108.out 1).trans rfl⟩ (fun hHeld => ?_)
       clear hK K
       refine norm_ (a' := ?_) ?_ ?_
       rotate_left
       ·show Act.put _ (some 31) _ = _
        simp only [Act.put, List.setIfInBounds_toArray, List.set_cons_zero, List.set_cons_succ, i64_w, i32_w]
        rfl
       refine pure_ (i := 6) (N := some 32) (v := ?_) (a' := ?_) #[true, true, true, true, true, true, true, false, false, false, false, false, false, false, false, false, false, false, false, false, false, false, false, false, false, false, false, false, false, false, false] rfl rfl (any_of HT_.out (by kernel_rfl)) (fun _ _ _ h => h) (Or.inl ⟨by rfl, ?_⟩) ?_ ?_
       rotate_left
       ·intro w'
        go_simp
        with_reducible rfl
       rotate_left
       ·simp only [Act.put, List.setIfInBounds_toArray, List.set_cons_zero, List.set_cons_succ, i64_w, i32_w]
        rfl
       refine pure_ (i := 7) (N := some 33) (v := undef) (a' := ?_) #[true, true, true, true, true, true, true, true, false, false, false, false, false, false, false, false, false, false, false, false, false, false, false, false, false, false, false, false, false, false, false] rfl rfl (any_of HT_.out (by kernel_rfl)) (fun _ _ _ h => h) (Or.inr ⟨by rfl, rfl⟩) ?_ ?_
       rotate_left
       ·simp only [Act.put, List.setIfInBounds_toArray, List.set_cons_zero, List.set_cons_succ, i64_w, i32_w]
        rfl
       refine pure_ (i := 8) (N := some 34) (v := undef) (a' := ?_) #[true, true, true, true, true, true, true, true, true, false, false, false, false, false, false, false, false, false, false, false, false, false, false, false, false, false, false, false, false, false, false] rfl rfl (any_of HT_.out (by kernel_rfl)) (fun _ _ _ h => h) (Or.inr ⟨by rfl, rfl⟩) ?_ ?_
       rotate_left
       ·simp only [Act.put, List.setIfInBounds_toArray, List.set_cons_zero, List.set_cons_succ, i64_w, i32_w]
        rfl
       refine pure_ (i := 9) (N := some 35) (v := undef) (a' := ?_) #[true, true, true, true, true, true, true, true, true, true, false, false, false, false, false, false, false, false, false, false, false, false, false, false, false, false, false, false, false, false, false] rfl rfl (any_of HT_.out (by kernel_rfl)) (fun _ _ _ h => h) (Or.inr ⟨by rfl, rfl⟩) ?_ ?_
       rotate_left
       ·simp only [Act.put, List.setIfInBounds_toArray, List.set_cons_zero, List.set_cons_succ, i64_w, i32_w]
        rfl
       refine pure_ (i := 10) (N := some 36) (v := ?_) (a' := ?_) #[true, true, true, true, true, true, true, true, true, true, true, false, false, false, false, false, false, false, false, false, false, false, false, false, false, false, false, false, false, false, false] rfl rfl (any_of HT_.out (by kernel_rfl)) (fun _ _ _ h => h) (Or.inl ⟨by rfl, ?_⟩) ?_ ?_
       rotate_left
       ·intro w'
        go_simp
        with_reducible rfl
       rotate_left
       ·simp only [Act.put, List.setIfInBounds_toArray, List.set_cons_zero, List.set_cons_succ, i64_w, i32_w]
        rfl
       refine pure_ (i := 11) (N := some 37) (v := ?_) (a' := ?_) #[true, true, true, true, true, true, true, true, true, true, true, true, false, false, false, false, false, false, false, false, false, false, false, false, false, false, false, false, false, false, false] rfl rfl (any_of HT_.out (by kernel_rfl)) (fun _ _ _ h => h) (Or.inl ⟨by rfl, ?_⟩) ?_ ?_
       rotate_left
       ·intro w'
        go_simp
        with_reducible rfl
       rotate_left
       ·simp only [Act.put, List.setIfInBounds_toArray, List.set_cons_zero, List.set_cons_succ, i64_w, i32_w]
        rfl
       refine pure_ (i := 12) (N := some 38) (v := ?_) (a' := ?_) #[true, true, true, true, true, true, true, true, true, true, true, true, true, false, false, false, false, false, false, false, false, false, false, false, false, false, false, false, false, false, false] rfl rfl (any_of HT_.out (by kernel_rfl)) (fun _ _ _ h => h) (Or.inl ⟨by rfl, ?_⟩) ?_ ?_
       rotate_left
       ·intro w'
        go_simp
        with_reducible rfl
       rotate_left
       ·simp only [Act.put, List.setIfInBounds_toArray, List.set_cons_zero, List.set_cons_succ, i64_w, i32_w]
        rfl
       refine pure_ (i := 16) (N := some 42) (v := ?_) (a' := ?_) #[true, true, true, true, true, true, true, true, true, true, true, true, true, false, false, false, true, false, false, false, false, false, false, false, false, false, false, false, false, false, false] rfl rfl (any_of HT_.out (by kernel_rfl)) (fun _ _ _ h => h) (Or.inl ⟨by rfl, ?_⟩) ?_ ?_
       rotate_left
       ·intro w'
        go_simp
        with_reducible rfl
       rotate_left
       ·simp only [Act.put, List.setIfInBounds_toArray, List.set_cons_zero, List.set_cons_succ, i64_w, i32_w]
        rfl
       refine pure_ (i := 17) (N := some 43) (v := ?_) (a' := ?_) #[true, true, true, true, true, true, true, true, true, true, true, true, true, false, false, false, true, true, false, false, false, false, false, false, false, false, false, false, false, false, false] rfl rfl (any_of HT_.out (by kernel_rfl)) (fun _ _ _ h => h) (Or.inl ⟨by rfl, ?_⟩) ?_ ?_
       rotate_left
       ·intro w'
        go_simp
        with_reducible rfl
       rotate_left
       ·simp only [Act.put, List.setIfInBounds_toArray, List.set_cons_zero, List.set_cons_succ, i64_w, i32_w]
        rfl
       refine take_ (i := 13) (N := some 39) (v := ?_) (a' := ?_) #[true, true, true, true, true, true, true, true, true, true, true, true, true, true, false, false, true, true, false, false, false, false, false, false, false, false, false, false, false, false, false] rfl rfl (take_ofW HT_.out HW_.out (by kernel_rfl)) (fun _ _ _ h => h) (Or.inl ⟨by rfl, ?_⟩) hHeld ?_ ?_
       rotate_left
       ·rintro w' ⟨s0, s1⟩
        go_simp
        with_reducible rfl
       rotate_left
       ·simp only [Act.put, List.setIfInBounds_toArray, List.set_cons_zero, List.set_cons_succ, i64_w, i32_w]
        rfl
       refine one_ (i := 14) (N := some 40) #[true, true, true, true, true, true, true, true, true, true, true, true, true, true, true, false, true, true, false, false, false, false, false, false, false, false, false, false, false, false, false] rfl rfl (one_of HT_.out (by kernel_rfl)) (by decide) (fun K hK => ?_)
       refine goes_ Tryd.func27 (by kernel_rfl) rfl #[.int .i64 0, .int .i64 1] (by rfl) rfl rfl (by (try simp only [List.map_toArray, List.map_cons, List.map_nil]); rfl) ?_
       with_reducible refine (cleanselaw04_of.calls 0 1 t116 t117 _ A38.out).mono ?_
       rintro e w49 ⟨rfl, hb⟩
       refine ⟨_, rfl, ?_⟩
       have n0_ := Aside0.mk (Kd.V_below (by (with_reducible repeat ((apply Kd.V_drewN))); exact HO0.out) hb)
       have n1_ := Aside0.mk (Kd.V_below (by (with_reducible repeat ((apply Kd.V_drewN))); exact HO1.out) hb)
       have n2_ := Aside0.mk (Kd.V_below (by (with_reducible repeat ((apply Kd.V_drewN))); exact HO2.out) hb)
       have n3_ := Aside0.mk (Kd.N_below (by (with_reducible repeat ((apply Kd.N_drewN))); exact HO104.out) hb)
       have n4_ := Aside0.mk (blk_below (g := gb108) (o := .cells #[.int .i64 t106, .int .i64 t107] 32 (0, 0)) (by (with_reducible repeat ((refine blk_drewN ?_ _))); exact BK108.out) hb)
       have n5_ := Aside0.mk (below_step (by repeat ((with_reducible first | exact HB.out | apply pw_below_drewN))) hb)
       clear HO0
       clear HO1
       clear HO2
       clear HO104
       clear BK108
       clear HB
       have HO0 := n0_
       have HO1 := n1_
       have HO2 := n2_
       have HO104 := n3_
       have BK108 := n4_
       have HB := n5_
       clear n0_ n1_ n2_ n3_ n4_ n5_
       (try clear hb)
       refine hK.out _ _ ⟨(blk_cell BK108.out 0).trans rfl, (blk_cell BK108.out 1).trans rfl⟩ (fun hHeld => ?_)
       clear hK K
       refine norm_ (a' := ?_) ?_ ?_
       rotate_left
       ·show Act.put _ (some 40) _ = _
        simp only [Act.put, List.setIfInBounds_toArray, List.set_cons_zero, List.set_cons_succ, i64_w, i32_w]
        rfl
       refine pure_ (i := 15) (N := some 41) (v := ?_) (a' := ?_) #[true, true, true, true, true, true, true, true, true, true, true, true, true, true, true, true, true, true, false, false, false, false, false, false, false, false, false, false, false, false, false] rfl rfl (any_of HT_.out (by kernel_rfl)) (fun _ _ _ h => h) (Or.inl ⟨by rfl, ?_⟩) ?_ ?_
       rotate_left
       ·intro w'
        go_simp
        with_reducible rfl
       rotate_left
       ·simp only [Act.put, List.setIfInBounds_toArray, List.set_cons_zero, List.set_cons_succ, i64_w, i32_w]
        rfl
       refine one_ (i := 18) (N := some 44) #[true, true, true, true, true, true, true, true, true, true, true, true, true, true, true, true, true, true, true, false, false, false, false, false, false, false, false, false, false, false, false] rfl rfl (one_of HT_.out (by kernel_rfl)) (by decide) (fun K hK => ?_)
       refine goes_ Tryd.func31 (by kernel_rfl) rfl #[.slice A0 l0.length c0, .slice A1 l1.length c1] (by rfl) rfl rfl (by (try simp only [List.map_toArray, List.map_cons, List.map_nil]); rfl) ?_
       with_reducible refine (cleanselaw04_apart.calls k _ _ l0 _ _ l1 true _ ?side1 ?side2 ?side3 ?side4 A39.out).mono ?_
       (case side1 => repeat ((exact (Kd.V_reads' HO0.out).2.2)))
       (case side2 => exact (Kd.V_reads' HO0.out).2.1)
       (case side3 => repeat ((exact (Kd.V_reads' HO1.out).2.2)))
       (case side4 => exact (Kd.V_reads' HO1.out).2.1)
       rintro e w' ⟨rfl, ⟨nd, rfl⟩⟩
       refine ⟨_, rfl, ?_⟩
       refine hK.out _ _ ⟨(blk_cell BK108.out 0).trans rfl, (blk_cell BK108.out 1).trans rfl⟩ (fun hHeld => ?_)
       clear hK K
       refine norm_ (a' := ?_) ?_ ?_
       rotate_left
       ·show Act.put _ (some 44) _ = _
        simp only [Act.put, List.setIfInBounds_toArray, List.set_cons_zero, List.set_cons_succ, i64_w, i32_w]
        rfl
       refine pure_ (i := 19) (N := some 45) (v := ?_) (a' := ?_) #[true, true, true, true, true, true, true, true, true, true, true, true, true, true, true, true, true, true, true, true, false, false, false, false, false, false, false, false, false, false, false] rfl rfl (any_of HT_.out (by kernel_rfl)) (fun _ _ _ h => h) (Or.inl ⟨by rfl, ?_⟩) ?_ ?_
       rotate_left
       ·intro w'
        go_simp
        with_reducible rfl
       rotate_left
       ·simp only [Act.put, List.setIfInBounds_toArray, List.set_cons_zero, List.set_cons_succ, i64_w, i32_w]
        rfl
       refine pure_ (i := 20) (N := some 46) (v := ?_) (a' := ?_) #[true, true, true, true, true, true, true, true, true, true, true, true, true, true, true, true, true, true, true, true, true, false, false, false, false, false, false, false, false, false, false] rfl rfl (any_of HT_.out (by kernel_rfl)) (fun _ _ _ h => h) (Or.inl ⟨by rfl, ?_⟩) ?_ ?_
       rotate_left
       ·intro w'
        go_simp
        with_reducible rfl
       rotate_left
       ·simp only [Act.put, List.setIfInBounds_toArray, List.set_cons_zero, List.set_cons_succ, i64_w, i32_w]
        rfl
       refine pure_ (i := 21) (N := some 47) (v := ?_) (a' := ?_) #[true, true, true, true, true, true, true, true, true, true, true, true, true, true, true, true, true, true, true, true, true, true, false, false, false, false, false, false, false, false, false] rfl rfl (any_of HT_.out (by kernel_rfl)) (fun _ _ _ h => h) (Or.inl ⟨by rfl, ?_⟩) ?_ ?_
       rotate_left
       ·intro w'
        go_simp
        with_reducible rfl
       rotate_left
       ·simp only [Act.put, List.setIfInBounds_toArray, List.set_cons_zero, List.set_cons_succ, i64_w, i32_w]
        rfl
       refine pure_ (i := 22) (N := some 48) (v := ?_) (a' := ?_) #[true, true, true, true, true, true, true, true, true, true, true, true, true, true, true, true, true, true, true, true, true, true, true, false, false, false, false, false, false, false, false] rfl rfl (any_of HT_.out (by kernel_rfl)) (fun _ _ _ h => h) (Or.inl ⟨by rfl, ?_⟩) ?_ ?_
       rotate_left
       ·intro w'
        go_simp
        with_reducible rfl
       rotate_left
       ·simp only [Act.put, List.setIfInBounds_toArray, List.set_cons_zero, List.set_cons_succ, i64_w, i32_w]
        rfl
       refine pure_ (i := 23) (N := some 49) (v := ?_) (a' := ?_) #[true, true, true, true, true, true, true, true, true, true, true, true, true, true, true, true, true, true, true, true, true, true, true, true, false, false, false, false, false, false, false] rfl rfl (any_of HT_.out (by kernel_rfl)) (fun _ _ _ h => h) (Or.inl ⟨by rfl, ?_⟩) ?_ ?_
       rotate_left
       ·intro w'
        go_simp
        with_reducible rfl
       rotate_left
       ·simp only [Act.put, List.setIfInBounds_toArray, List.set_cons_zero, List.set_cons_succ, i64_w, i32_w]
        rfl
       refine pure_ (i := 24) (N := some 50) (v := ?_) (a' := ?_) #[true, true, true, true, true, true, true, true, true, true, true, true, true, true, true, true, true, true, true, true, true, true, true, true, true, false, false, false, false, false, false] rfl rfl (any_of HT_.out (by kernel_rfl)) (fun _ _ _ h => h) (Or.inl ⟨by rfl, ?_⟩) ?_ ?_
       rotate_left
       ·intro w'
        go_simp
        with_reducible rfl
       rotate_left
       ·simp only [Act.put, List.setIfInBounds_toArray, List.set_cons_zero, List.set_cons_succ, i64_w, i32_w]
        rfl
       refine pure_ (i := 25) (N := some 51) (v := ?_) (a' := ?_) #[true, true, true, true, true, true, true, true, true, true, true, true, true, true, true, true, true, true, true, true, true, true, true, true, true, true, false, false, false, false, false] rfl rfl (any_of HT_.out (by kernel_rfl)) (fun _ _ _ h => h) (Or.inl ⟨by rfl, ?_⟩) ?_ ?_
       rotate_left
       ·intro w'
        go_simp
        with_reducible rfl
       rotate_left
       ·simp only [Act.put, List.setIfInBounds_toArray, List.set_cons_zero, List.set_cons_succ, i64_w, i32_w]
        rfl
       refine pure_ (i := 26) (N := some 52) (v := ?_) (a' := ?_) #[true, true, true, true, true, true, true, true, true, true, true, true, true, true, true, true, true, true, true, true, true, true, true, true, true, true, true, false, false, false, false] rfl rfl (any_of HT_.out (by kernel_rfl)) (fun _ _ _ h => h) (Or.inl ⟨by rfl, ?_⟩) ?_ ?_
       rotate_left
       ·intro w'
        go_simp
        with_reducible rfl
       rotate_left
       ·simp only [Act.put, List.setIfInBounds_toArray, List.set_cons_zero, List.set_cons_succ, i64_w, i32_w]
        rfl
       refine pure_ (i := 27) (N := some 53) (v := ?_) (a' := ?_) #[true, true, true, true, true, true, true, true, true, true, true, true, true, true, true, true, true, true, true, true, true, true, true, true, true, true, true, true, false, false, false] rfl rfl (any_of HT_.out (by kernel_rfl)) (fun _ _ _ h => h) (Or.inl ⟨by rfl, ?_⟩) ?_ ?_
       rotate_left
       ·intro w'
        go_simp
        with_reducible rfl
       rotate_left
       ·simp only [Act.put, List.setIfInBounds_toArray, List.set_cons_zero, List.set_cons_succ, i64_w, i32_w]
        rfl
       refine pure_ (i := 28) (N := some 54) (v := ?_) (a' := ?_) #[true, true, true, true, true, true, true, true, true, true, true, true, true, true, true, true, true, true, true, true, true, true, true, true, true, true, true, true, true, false, false] rfl rfl (any_of HT_.out (by kernel_rfl)) (fun _ _ _ h => h) (Or.inl ⟨by rfl, ?_⟩) ?_ ?_
       rotate_left
       ·intro w'
        go_simp
        with_reducible rfl
       rotate_left
       ·simp only [Act.put, List.setIfInBounds_toArray, List.set_cons_zero, List.set_cons_succ, i64_w, i32_w]
        rfl
       refine pure_ (i := 29) (N := some 55) (v := ?_) (a' := ?_) #[true, true, true, true, true, true, true, true, true, true, true, true, true, true, true, true, true, true, true, true, true, true, true, true, true, true, true, true, true, true, false] rfl rfl (any_of HT_.out (by kernel_rfl)) (fun _ _ _ h => h) (Or.inl ⟨by rfl, ?_⟩) ?_ ?_
       rotate_left
       ·intro w'
        go_simp
        with_reducible rfl
       rotate_left
       ·simp only [Act.put, List.setIfInBounds_toArray, List.set_cons_zero, List.set_cons_succ, i64_w, i32_w]
        rfl
       refine pure_ (i := 30) (N := some 56) (v := ?_) (a' := ?_) #[true, true, true, true, true, true, true, true, true, true, true, true, true, true, true, true, true, true, true, true, true, true, true, true, true, true, true, true, true, true, true] rfl rfl (any_of HT_.out (by kernel_rfl)) (fun _ _ _ h => h) (Or.inl ⟨by rfl, ?_⟩) ?_ ?_
       rotate_left
       ·intro w'
        go_simp
        with_reducible rfl
       rotate_left
       ·simp only [Act.put, List.setIfInBounds_toArray, List.set_cons_zero, List.set_cons_succ, i64_w, i32_w]
        rfl
       refine done_ (done_of HT_.out (by kernel_rfl)) ?_
       try go_wp2
       go_meet
       case rel => exact ⟨_, (((t106 == t116 && (t107 == t117)) != (decide ((l1.length : Int) > 0)))), (by (simp [bne]; done)), H', ⟨by omega⟩, ⟨by (with_reducible repeat ((apply Kd.V_drewN))); exact Kd.V_mono HO0.out (fun _ hk => ⟨hk.1, hk.2.2⟩)⟩, ⟨by (with_reducible repeat ((apply Kd.V_drewN))); exact Kd.V_mono HO1.out (fun _ hk => ⟨hk.1, hk.2.2⟩)⟩, ⟨by (with_reducible repeat ((apply Kd.V_drewN))); exact Kd.V_mono HO2.out (fun _ hk => ⟨hk.1, hk.2.2⟩)⟩, ⟨by (with_reducible repeat ((refine blk_drewN ?_ _))); exact BK108.out⟩, ⟨by repeat ((with_reducible first | exact HB.out | apply pw_below_drewN))⟩⟩
     ·replace c40 := Bool.eq_false_iff.mpr c40
      subst c40
      have H1 : (cleanselaw04_MeasureSets.j0 k l0 l1 l2 t101 ((t106 == t116 && (t107 == t117)) != false) t106 t107) = some r := by rw [if_neg (show ¬ (false = true) by decide)] at H; exact H
      clear H
      have H := H1
      clear H1
      have H' := Aside0.mk H
      clear H
      try go_wp2
      have n0_ : Aside0 (Kd.V Kd.string 9 ((w14.setCell ⟨gb108, 0, none⟩ (.int .i64 t106)).setCell ⟨gb108, 1, none⟩ (.int .i64 t107)) w.heap.size (fun k_ => ((P0_ k_ ∨ P1_ k_ ∨ P2_ k_) ∨ w.heap.size ≤ k_) ∧ some k_ ≠ (.slice Ao12 y102.length co12 : Value).ownBlock ∧ k_ ≠ gb108) (.slice A0 l0.length c0) l0) := ⟨by (with_reducible skip); exact Kd.V_mono (Kd.V_far (p := ⟨gb108, 1, none⟩) (Kd.V_far (p := ⟨gb108, 0, none⟩) (Kd.V_mono HO0.out (fun k_ hk => (⟨hk, hk.2⟩ : _ ∧ k_ ≠ gb108))) (fun _ hk => hk.2) (.int .i64 t106)) (fun _ hk => hk.2) (.int .i64 t107)) (fun _ hk => ⟨hk.1.1.1, ⟨hk.1.1.2, hk.1.2⟩⟩)⟩
      have n1_ : Aside0 (Kd.V Kd.string 9 ((w14.setCell ⟨gb108, 0, none⟩ (.int .i64 t106)).setCell ⟨gb108, 1, none⟩ (.int .i64 t107)) w.heap.size (fun k_ => ((P0_ k_ ∨ P1_ k_ ∨ P2_ k_) ∨ w.heap.size ≤ k_) ∧ some k_ ≠ (.slice Ao12 y102.length co12 : Value).ownBlock ∧ k_ ≠ gb108) (.slice A1 l1.length c1) l1) := ⟨by (with_reducible skip); exact Kd.V_mono (Kd.V_far (p := ⟨gb108, 1, none⟩) (Kd.V_far (p := ⟨gb108, 0, none⟩) (Kd.V_mono HO1.out (fun k_ hk => (⟨hk, hk.2⟩ : _ ∧ k_ ≠ gb108))) (fun _ hk => hk.2) (.int .i64 t106)) (fun _ hk => hk.2) (.int .i64 t107)) (fun _ hk => ⟨hk.1.1.1, ⟨hk.1.1.2, hk.1.2⟩⟩)⟩
      have n2_ : Aside0 (Kd.V Kd.string 9 ((w14.setCell ⟨gb108, 0, none⟩ (.int .i64 t106)).setCell ⟨gb108, 1, none⟩ (.int .i64 t107)) w.heap.size (fun k_ => ((P0_ k_ ∨ P1_ k_ ∨ P2_ k_) ∨ w.heap.size ≤ k_) ∧ some k_ ≠ (.slice Ao12 y102.length co12 : Value).ownBlock ∧ k_ ≠ gb108) (.slice A2 l2.length c2) l2) := ⟨by (with_reducible skip); exact Kd.V_mono (Kd.V_far (p := ⟨gb108, 1, none⟩) (Kd.V_far (p := ⟨gb108, 0, none⟩) (Kd.V_mono HO2.out (fun k_ hk => (⟨hk, hk.2⟩ : _ ∧ k_ ≠ gb108))) (fun _ hk => hk.2) (.int .i64 t106)) (fun _ hk => hk.2) (.int .i64 t107)) (fun _ hk => ⟨hk.1.1.1, ⟨hk.1.1.2, hk.1.2⟩⟩)⟩
      have n3_ : Aside0 (Kd.N (Kd.slice 9 Kd.string) 22 ((w14.setCell ⟨gb108, 0, none⟩ (.int .i64 t106)).setCell ⟨gb108, 1, none⟩ (.int .i64 t107)) w.heap.size (fun k_ => ((P0_ k_ ∨ P1_ k_ ∨ P2_ k_) ∨ w.heap.size ≤ k_) ∧ k_ ≠ gb108) (.slice Ao12 y102.length co12) y102) := ⟨by (with_reducible skip); exact Kd.N_mono (Kd.N_far (p := ⟨gb108, 1, none⟩) (Kd.N_far (p := ⟨gb108, 0, none⟩) (Kd.N_mono HO104.out (fun k_ hk => (⟨hk, hk.2⟩ : _ ∧ k_ ≠ gb108))) (fun _ hk => hk.2) (.int .i64 t106)) (fun _ hk => hk.2) (.int .i64 t107)) (fun _ hk => ⟨hk.1.1, hk.1.2⟩)⟩
      have n4_ : Aside0 (((w14.setCell ⟨gb108, 0, none⟩ (.int .i64 t106)).setCell ⟨gb108, 1, none⟩ (.int .i64 t107)).heap[gb108]? = some (.cells #[.int .i64 t106, .int .i64 t107] 32 (0, 0))) := ⟨by (with_reducible skip); refine blk_put (cs := #[.int .i64 t106, .int .i64 0]) ?_ 1 _ rfl; (with_reducible skip); refine blk_put (cs := #[.int .i64 0, .int .i64 0]) ?_ 0 _ rfl; (with_reducible skip); exact BK108.out⟩
      have n5_ : Aside0 (Below w.heap.size w ((w14.setCell ⟨gb108, 0, none⟩ (.int .i64 t106)).setCell ⟨gb108, 1, none⟩ (.int .i64 t107))) := ⟨by repeat ((with_reducible first | exact HB.out | refine below_set ?_ GE108.out))⟩
      (try clear HO0)
      (try clear HO1)
      (try clear HO2)
      (try clear HO104)
      (try clear BK108)
      (try clear HB)
      generalize ((w14.setCell ⟨gb108, 0, none⟩ (.int .i64 t106)).setCell ⟨gb108, 1, none⟩ (.int .i64 t107)) = w50 at n0_ n1_ n2_ n3_ n4_ n5_ ⊢
      have HO0 := n0_
      have HO1 := n1_
      have HO2 := n2_
      have HO104 := n3_
      have BK108 := n4_
      have HB := n5_
      clear n0_ n1_ n2_ n3_ n4_ n5_
      have n0_ := Aside0.mk (Kd.V_drew HO0.out)
      have n1_ := Aside0.mk (Kd.V_drew HO1.out)
      have n2_ := Aside0.mk (Kd.V_drew HO2.out)
      have n3_ := Aside0.mk (Kd.N_drew HO104.out)
      have n4_ := Aside0.mk (blk_drew BK108.out)
      have n5_ := Aside0.mk (below_drew1 HB.out)
      clear HO0
      clear HO1
      clear HO2
      clear HO104
      clear BK108
      clear HB
      have HO0 := n0_
      have HO1 := n1_
      have HO2 := n2_
      have HO104 := n3_
      have BK108 := n4_
      have HB := n5_
      clear n0_ n1_ n2_ n3_ n4_ n5_
      refine start_ (n := 31) (S := fun w' => w'.cell? ⟨gb108, 0, none⟩ = some (.int .i64 t106) ∧ w'.cell? ⟨gb108, 1, none⟩ = some (.int .i64 t107)) (ds := []) #[false, false, false, false, false, false, false, false, false, false, false, false, false, false, false, false, false, false, false, false, false, false, false, false, false, false, false, false, false, false, false] (by kernel_rfl) rfl rfl ⟨(blk_cell BK108.out 0).trans rfl, (blk_cell BK108.out 1).trans rfl⟩ (fun hHeld => ?_); refine with_tabW cleanselaw04_MeasureSets.tab5 cleanselaw04_MeasureSets.bits5 (fun HT_ HW_ => ?_)
      generalize w50.drew = w51 at HO0 HO1 HO2 HO104 BK108 HB hHeld ⊢
      refine pure_ (i := 3) (N := some 29) (v := ?_) (a' := ?_) #[false, false, false, true, false, false, false, false, false, false, false, false, false, false, false, false, false, false, false, false, false, false, false, false, false, false, false, false, false, false, false] rfl rfl (any_of HT_.out (by kernel_rfl)) (fun _ _ _ h => h) (Or.inl ⟨by rfl, ?_⟩) ?_ ?_
      rotate_left
      ·intro w'
       go_simp
       with_reducible rfl
      rotate_left
      ·simp only [Act.put, List.setIfInBounds_toArray, List.set_cons_zero, List.set_cons_succ, i64_w, i32_w]
       rfl
      refine pure_ (i := 4) (N := some 30) (v := ?_) (a' := ?_) #[false, false, false, true, true, false, false, false, false, false, false, false, false, false, false, false, false, false, false, false, false, false, false, false, false, false, false, false, false, false, false] rfl rfl (any_of HT_.out (by kernel_rfl)) (fun _ _ _ h => h) (Or.inl ⟨by rfl, ?_⟩) ?_ ?_
      rotate_left
      ·intro w'
       go_simp
       with_reducible rfl
      rotate_left
      ·simp only [Act.put, List.setIfInBounds_toArray, List.set_cons_zero, List.set_cons_succ, i64_w, i32_w]
       rfl
      refine take_ (i := 0) (N := some 26) (v := ?_) (a' := ?_) #[true, false, false, true, true, false, false, false, false, false, false, false, false, false, false, false, false, false, false, false, false, false, false, false, false, false, false, false, false, false, false] rfl rfl (take_ofW HT_.out HW_.out (by kernel_rfl)) (fun _ _ _ h => h) (Or.inl ⟨by rfl, ?_⟩) hHeld ?_ ?_
      rotate_left
      ·rintro w' ⟨s0, s1⟩
       go_simp
       with_reducible rfl
      rotate_left
      ·simp only [Act.put, List.setIfInBounds_toArray, List.set_cons_zero, List.set_cons_succ, i64_w, i32_w]
       rfl
      refine one_ (i := 1) (N := some 27) #[true, true, false, true, true, false, false, false, false, false, false, false, false, false, false, false, false, false, false, false, false, false, false, false, false, false, false, false, false, false, false] rfl rfl (one_of HT_.out (by kernel_rfl)) (by decide) (fun K hK => ?_)
      refine goes_ Tryd.func27 (by kernel_rfl) rfl #[.int .i64 1, .int .i64 1] (by rfl) rfl rfl (by (try simp only [List.map_toArray, List.map_cons, List.map_nil]); rfl) ?_
      with_reducible refine (cleanselaw04_of.calls 1 1 t109 t110 _ A16.out).mono ?_
      rintro e w52 ⟨rfl, hb⟩
      refine ⟨_, rfl, ?_⟩
      have n0_ := Aside0.mk (Kd.V_below (by (with_reducible skip); exact HO0.out) hb)
      have n1_ := Aside0.mk (Kd.V_below (by (with_reducible skip); exact HO1.out) hb)
      have n2_ := Aside0.mk (Kd.V_below (by (with_reducible skip); exact HO2.out) hb)
      have n3_ := Aside0.mk (Kd.N_below (by (with_reducible skip); exact HO104.out) hb)
      have n4_ := Aside0.mk (blk_below (g := gb108) (o := .cells #[.int .i64 t106, .int .i64 t107] 32 (0, 0)) (by (with_reducible skip); exact BK108.out) hb)
      have n5_ := Aside0.mk (below_step (by repeat ((with_reducible (exact HB.out)))) hb)
      clear HO0
      clear HO1
      clear HO2
      clear HO104
      clear BK108
      clear HB
      have HO0 := n0_
      have HO1 := n1_
      have HO2 := n2_
      have HO104 := n3_
      have BK108 := n4_
      have HB := n5_
      clear n0_ n1_ n2_ n3_ n4_ n5_
      (try clear hb)
      refine hK.out _ _ ⟨(blk_cell BK108.out 0).trans rfl, (blk_cell BK108.out 1).trans rfl⟩ (fun hHeld => ?_)
      clear hK K
      refine norm_ (a' := ?_) ?_ ?_
      rotate_left
      ·show Act.put _ (some 27) _ = _
       simp only [Act.put, List.setIfInBounds_toArray, List.set_cons_zero, List.set_cons_succ, i64_w, i32_w]
       rfl
      refine pure_ (i := 2) (N := some 28) (v := ?_) (a' := ?_) #[true, true, true, true, true, false, false, false, false, false, false, false, false, false, false, false, false, false, false, false, false, false, false, false, false, false, false, false, false, false, false] rfl rfl (any_of HT_.out (by kernel_rfl)) (fun _ _ _ h => h) (Or.inl ⟨by rfl, ?_⟩) ?_ ?_
      rotate_left
      ·intro w'
       go_simp
       with_reducible rfl
      rotate_left
      ·simp only [Act.put, List.setIfInBounds_toArray, List.set_cons_zero, List.set_cons_succ, i64_w, i32_w]
       rfl
      refine one_ (i := 5) (N := some 31) #[true, true, true, true, true, true, false, false, false, false, false, false, false, false, false, false, false, false, false, false, false, false, false, false, false, false, false, false, false, false, false] rfl rfl (one_of HT_.out (by kernel_rfl)) (by decide) (fun K hK => ?_)
      refine goes_ Tryd.func30 (by kernel_rfl) rfl #[.slice A0 l0.length c0, .slice A1 l1.length c1] (by rfl) rfl rfl (by (try simp only [List.map_toArray, List.map_cons, List.map_nil]); rfl) ?_
      with_reducible refine (cleanselaw04_within.calls k _ _ l0 _ _ l1 false _ ?side1 ?side2 ?side3 ?side4 A17.out).mono ?_
      (case side1 => repeat ((exact (Kd.V_reads' HO0.out).2.2)))
      (case side2 => exact (Kd.V_reads' HO0.out).2.1)
      (case side3 => repeat ((exact (Kd.V_reads' HO1.out).2.2)))
      (case side4 => exact (Kd.V_reads' HO1.out).2.1)
      rintro e w' ⟨rfl, ⟨nd, rfl⟩⟩
      refine ⟨_, rfl, ?_⟩
      refine hK.out _ _ ⟨(blk_cell BK108.out 0).trans rfl, (blk_cell BK108.out 1).trans rfl⟩ (fun hHeld => ?_)
      clear hK K
      refine norm_ (a' := ?_) ?_ ?_
      rotate_left
      ·show Act.put _ (some 31) _ = _
       simp only [Act.put, List.setIfInBounds_toArray, List.set_cons_zero, List.set_cons_succ, i64_w, i32_w]
       rfl
      refine pure_ (i := 6) (N := some 32) (v := ?_) (a' := ?_) #[true, true, true, true, true, true, true, false, false, false, false, false, false, false, false, false, false, false, false, false, false, false, false, false, false, false, false, false, false, false, false] rfl rfl (any_of HT_.out (by kernel_rfl)) (fun _ _ _ h => h) (Or.inl ⟨by rfl, ?_⟩) ?_ ?_
      rotate_left
      ·intro w'
       go_simp
       with_reducible rfl
      rotate_left
      ·simp only [Act.put, List.setIfInBounds_toArray, List.set_cons_zero, List.set_cons_succ, i64_w, i32_w]
       rfl
      refine pure_ (i := 7) (N := some 33) (v := undef) (a' := ?_) #[true, true, true, true, true, true, true, true, false, false, false, false, false, false, false, false, false, false, false, false, false, false, false, false, false, false, false, false, false, false, false] rfl rfl (any_of HT_.out (by kernel_rfl)) (fun _ _ _ h => h) (Or.inr ⟨by rfl, rfl⟩) ?_ ?_
      rotate_left
      ·simp only [Act.put, List.setIfInBounds_toArray, List.set_cons_zero, List.set_cons_succ, i64_w, i32_w]
       rfl
      refine pure_ (i := 8) (N := some 34) (v := undef) (a' := ?_) #[true, true, true, true, true, true, true, true, true, false, false, false, false, false, false, false, false, false, false, false, false, false, false, false, false, false, false, false, false, false, false] rfl rfl (any_of HT_.out (by kernel_rfl)) (fun _ _ _ h => h) (Or.inr ⟨by rfl, rfl⟩) ?_ ?_
      rotate_left
      ·simp only [Act.put, List.setIfInBounds_toArray, List.set_cons_zero, List.set_cons_succ, i64_w, i32_w]
       rfl
      refine pure_ (i := 9) (N := some 35) (v := undef) (a' := ?_) #[true, true, true, true, true, true, true, true, true, true, false, false, false, false, false, false, false, false, false, false, false, false, false, false, false, false, false, false, false, false, false] rfl rfl (any_of HT_.out (by kernel_rfl)) (fun _ _ _ h => h) (Or.inr ⟨by rfl, rfl⟩) ?_ ?_
      rotate_left
      ·simp only [Act.put, List.setIfInBounds_toArray, List.set_cons_zero, List.set_cons_succ, i64_w, i32_w]
       rfl
      refine pure_ (i := 10) (N := some 36) (v := ?_) (a' := ?_) #[true, true, true, true, true, true, true, true, true, true, true, false, false, false, false, false, false, false, false, false, false, false, false, false, false, false, false, false, false, false, false] rfl rfl (any_of HT_.out (by kernel_rfl)) (fun _ _ _ h => h) (Or.inl ⟨by rfl, ?_⟩) ?_ ?_
      rotate_left
      ·intro w'
       go_simp
       with_reducible rfl
      rotate_left
      ·simp only [Act.put, List.setIfInBounds_toArray, List.set_cons_zero, List.set_cons_succ, i64_w, i32_w]
       rfl
      refine pure_ (i := 11) (N := some 37) (v := ?_) (a' := ?_) #[true, true, true, true, true, true, true, true, true, true, true, true, false, false, false, false, false, false, false, false, false, false, false, false, false, false, false, false, false, false, false] rfl rfl (any_of HT_.out (by kernel_rfl)) (fun _ _ _ h => h) (Or.inl ⟨by rfl, ?_⟩) ?_ ?_
      rotate_left
      ·intro w'
       go_simp
       with_reducible rfl
      rotate_left
      ·simp only [Act.put, List.setIfInBounds_toArray, List.set_cons_zero, List.set_cons_succ, i64_w, i32_w]
       rfl
      refine pure_ (i := 12) (N := some 38) (v := ?_) (a' := ?_) #[true, true, true, true, true, true, true, true, true, true, true, true, true, false, false, false, false, false, false, false, false, false, false, false, false, false, false, false, false, false, false] rfl rfl (any_of HT_.out (by kernel_rfl)) (fun _ _ _ h => h) (Or.inl ⟨by rfl, ?_⟩) ?_ ?_
      rotate_left
      ·intro w'
       go_simp
       with_reducible rfl
      rotate_left
      ·simp only [Act.put, List.setIfInBounds_toArray, List.set_cons_zero, List.set_cons_succ, i64_w, i32_w]
       rfl
      refine pure_ (i := 16) (N := some 42) (v := ?_) (a' := ?_) #[true, true, true, true, true, true, true, true, true, true, true, true, true, false, false, false, true, false, false, false, false, false, false, false, false, false, false, false, false, false, false] rfl rfl (any_of HT_.out (by kernel_rfl)) (fun _ _ _ h => h) (Or.inl ⟨by rfl, ?_⟩) ?_ ?_
      rotate_left
      ·intro w'
       go_simp
       with_reducible rfl
      rotate_left
      ·simp only [Act.put, List.setIfInBounds_toArray, List.set_cons_zero, List.set_cons_succ, i64_w, i32_w]
       rfl
      refine pure_ (i := 17) (N := some 43) (v := ?_) (a' := ?_) #[true, true, true, true, true, true, true, true, true, true, true, true, true, false, false, false, true, true, false, false, false, false, false, false, false, false, false, false, false, false, false] rfl rfl (any_of HT_.out (by kernel_rfl)) (fun _ _ _ h => h) (Or.inl ⟨by rfl, ?_⟩) ?_ ?_
      rotate_left
      ·intro w'
       go_simp
       with_reducible rfl
      rotate_left
      ·simp only [Act.put, List.setIfInBounds_toArray, List.set_cons_zero, List.set_cons_succ, i64_w, i32_w]
       rfl
      refine take_ (i := 13) (N := some 39) (v := ?_) (a' := ?_) #[true, true, true, true, true, true, true, true, true, true, true, true, true, true, false, false, true, true, false, false, false, false, false, false, false, false, false, false, false, false, false] rfl rfl (take_ofW HT_.out HW_.out (by kernel_rfl)) (fun _ _ _ h => h) (Or.inl ⟨by rfl, ?_⟩) hHeld ?_ ?_
      rotate_left
      ·rintro w' ⟨s0, s1⟩
       go_simp
       with_reducible rfl
      rotate_left
      ·simp only [Act.put, List.setIfInBounds_toArray, List.set_cons_zero, List.set_cons_succ, i64_w, i32_w]
       rfl
      refine one_ (i := 14) (N := some 40) #[true, true, true, true, true, true, true, true, true, true, true, true, true, true, true, false, true, true, false, false, false, false, false, false, false, false, false, false, false, false, false] rfl rfl (one_of HT_.out (by kernel_rfl)) (by decide) (fun K hK => ?_)
      refine goes_ Tryd.func27 (by kernel_rfl) rfl #[.int .i64 0, .int .i64 1] (by rfl) rfl rfl (by (try simp only [List.map_toArray, List.map_cons, List.map_nil]); rfl) ?_
      with_reducible refine (cleanselaw04_of.calls 0 1 t116 t117 _ A38.out).mono ?_
      rintro e w53 ⟨rfl, hb⟩
      refine ⟨_, rfl, ?_⟩
      have n0_ := Aside0.mk (Kd.V_below (by (with_reducible repeat ((apply Kd.V_drewN))); exact HO0.out) hb)
      have n1_ := Aside0.mk (Kd.V_below (by (with_reducible repeat ((apply Kd.V_drewN))); exact HO1.out) hb)
      have n2_ := Aside0.mk (Kd.V_below (by (with_reducible repeat ((apply Kd.V_drewN))); exact HO2.out) hb)
      have n3_ := Aside0.mk (Kd.N_below (by (with_reducible repeat ((apply Kd.N_drewN))); exact HO104.out) hb)
      have n4_ := Aside0.mk (blk_below (g := gb108) (o := .cells #[.int .i64 t106, .int .i64 t107] 32 (0, 0)) (by (with_reducible repeat ((refine blk_drewN ?_ _))); exact BK108.out) hb)
      have n5_ := Aside0.mk (below_step (by repeat ((with_reducible first | exact HB.out | apply pw_below_drewN))) hb)
      clear HO0
      clear HO1
      clear HO2
      clear HO104
      clear BK108
      clear HB
      have HO0 := n0_
      have HO1 := n1_
      have HO2 := n2_
      have HO104 := n3_
      have BK108 := n4_
      have HB := n5_
      clear n0_ n1_ n2_ n3_ n4_ n5_
      (try clear hb)
      refine hK.out _ _ ⟨(blk_cell BK108.out 0).trans rfl, (blk_cell BK108.out 1).trans rfl⟩ (fun hHeld => ?_)
      clear hK K
      refine norm_ (a' := ?_) ?_ ?_
      rotate_left
      ·show Act.put _ (some 40) _ = _
       simp only [Act.put, List.setIfInBounds_toArray, List.set_cons_zero, List.set_cons_succ, i64_w, i32_w]
       rfl
      refine pure_ (i := 15) (N := some 41) (v := ?_) (a' := ?_) #[true, true, true, true, true, true, true, true, true, true, true, true, true, true, true, true, true, true, false, false, false, false, false, false, false, false, false, false, false, false, false] rfl rfl (any_of HT_.out (by kernel_rfl)) (fun _ _ _ h => h) (Or.inl ⟨by rfl, ?_⟩) ?_ ?_
      rotate_left
      ·intro w'
       go_simp
       with_reducible rfl
      rotate_left
      ·simp only [Act.put, List.setIfInBounds_toArray, List.set_cons_zero, List.set_cons_succ, i64_w, i32_w]
       rfl
      refine one_ (i := 18) (N := some 44) #[true, true, true, true, true, true, true, true, true, true, true, true, true, true, true, true, true, true, true, false, false, false, false, false, false, false, false, false, false, false, false] rfl rfl (one_of HT_.out (by kernel_rfl)) (by decide) (fun K hK => ?_)
      refine goes_ Tryd.func31 (by kernel_rfl) rfl #[.slice A0 l0.length c0, .slice A1 l1.length c1] (by rfl) rfl rfl (by (try simp only [List.map_toArray, List.map_cons, List.map_nil]); rfl) ?_
      with_reducible refine (cleanselaw04_apart.calls k _ _ l0 _ _ l1 false _ ?side1 ?side2 ?side3 ?side4 A39.out).mono ?_
      (case side1 => repeat ((exact (Kd.V_reads' HO0.out).2.2)))
      (case side2 => exact (Kd.V_reads' HO0.out).2.1)
      (case side3 => repeat ((exact (Kd.V_reads' HO1.out).2.2)))
      (case side4 => exact (Kd.V_reads' HO1.out).2.1)
      rintro e w' ⟨rfl, ⟨nd, rfl⟩⟩
      refine ⟨_, rfl, ?_⟩
      refine hK.out _ _ ⟨(blk_cell BK108.out 0).trans rfl, (blk_cell BK108.out 1).trans rfl⟩ (fun hHeld => ?_)
      clear hK K
      refine norm_ (a' := ?_) ?_ ?_
      rotate_left
      ·show Act.put _ (some 44) _ = _
       simp only [Act.put, List.setIfInBounds_toArray, List.set_cons_zero, List.set_cons_succ, i64_w, i32_w]
       rfl
      refine pure_ (i := 19) (N := some 45) (v := ?_) (a' := ?_) #[true, true, true, true, true, true, true, true, true, true, true, true, true, true, true, true, true, true, true, true, false, false, false, false, false, false, false, false, false, false, false] rfl rfl (any_of HT_.out (by kernel_rfl)) (fun _ _ _ h => h) (Or.inl ⟨by rfl, ?_⟩) ?_ ?_
      rotate_left
      ·intro w'
       go_simp
       with_reducible rfl
      rotate_left
      ·simp only [Act.put, List.setIfInBounds_toArray, List.set_cons_zero, List.set_cons_succ, i64_w, i32_w]
       rfl
      refine pure_ (i := 20) (N := some 46) (v := undef) (a' := ?_) #[true, true, true, true, true, true, true, true, true, true, true, true, true, true, true, true, true, true, true, true, true, false, false, false, false, false, false, false, false, false, false] rfl rfl (any_of HT_.out (by kernel_rfl)) (fun _ _ _ h => h) (Or.inr ⟨by rfl, rfl⟩) ?_ ?_
      rotate_left
      ·simp only [Act.put, List.setIfInBounds_toArray, List.set_cons_zero, List.set_cons_succ, i64_w, i32_w]
       rfl
      refine pure_ (i := 21) (N := some 47) (v := undef) (a' := ?_) #[true, true, true, true, true, true, true, true, true, true, true, true, true, true, true, true, true, true, true, true, true, true, false, false, false, false, false, false, false, false, false] rfl rfl (any_of HT_.out (by kernel_rfl)) (fun _ _ _ h => h) (Or.inr ⟨by rfl, rfl⟩) ?_ ?_
      rotate_left
      ·simp only [Act.put, List.setIfInBounds_toArray, List.set_cons_zero, List.set_cons_succ, i64_w, i32_w]
       rfl
      refine pure_ (i := 22) (N := some 48) (v := undef) (a' := ?_) #[true, true, true, true, true, true, true, true, true, true, true, true, true, true, true, true, true, true, true, true, true, true, true, false, false, false, false, false, false, false, false] rfl rfl (any_of HT_.out (by kernel_rfl)) (fun _ _ _ h => h) (Or.inr ⟨by rfl, rfl⟩) ?_ ?_
      rotate_left
      ·simp only [Act.put, List.setIfInBounds_toArray, List.set_cons_zero, List.set_cons_succ, i64_w, i32_w]
       rfl
      refine pure_ (i := 23) (N := some 49) (v := undef) (a' := ?_) #[true, true, true, true, true, true, true, true, true, true, true, true, true, true, true, true, true, true, true, true, true, true, true, true, false, false, false, false, false, false, false] rfl rfl (any_of HT_.out (by kernel_rfl)) (fun _ _ _ h => h) (Or.inr ⟨by rfl, rfl⟩) ?_ ?_
      rotate_left
      ·simp only [Act.put, List.setIfInBounds_toArray, List.set_cons_zero, List.set_cons_succ, i64_w, i32_w]
       rfl
      refine pure_ (i := 24) (N := some 50) (v := undef) (a' := ?_) #[true, true, true, true, true, true, true, true, true, true, true, true, true, true, true, true, true, true, true, true, true, true, true, true, true, false, false, false, false, false, false] rfl rfl (any_of HT_.out (by kernel_rfl)) (fun _ _ _ h => h) (Or.inr ⟨by rfl, rfl⟩) ?_ ?_
      rotate_left
      ·simp only [Act.put, List.setIfInBounds_toArray, List.set_cons_zero, List.set_cons_succ, i64_w, i32_w]
       rfl
      refine pure_ (i := 25) (N := some 51) (v := undef) (a' := ?_) #[true, true, true, true, true, true, true, true, true, true, true, true, true, true, true, true, true, true, true, true, true, true, true, true, true, true, false, false, false, false, false] rfl rfl (any_of HT_.out (by kernel_rfl)) (fun _ _ _ h => h) (Or.inr ⟨by rfl, rfl⟩) ?_ ?_
      rotate_left
      ·simp only [Act.put, List.setIfInBounds_toArray, List.set_cons_zero, List.set_cons_succ, i64_w, i32_w]
       rfl
      refine pure_ (i := 26) (N := some 52) (v := undef) (a' := ?_) #[true, true, true, true, true, true, true, true, true, true, true, true, true, true, true, true, true, true, true, true, true, true, true, true, true, true, true, false, false, false, false] rfl rfl (any_of HT_.out (by kernel_rfl)) (fun _ _ _ h => h) (Or.inr ⟨by rfl, rfl⟩) ?_ ?_
      rotate_left
      ·simp only [Act.put, List.setIfInBounds_toArray, List.set_cons_zero, List.set_cons_succ, i64_w, i32_w]
       rfl
      refine pure_ (i := 27) (N := some 53) (v := undef) (a' := ?_) #[true, true, true, true, true, true, true, true, true, true, true, true, true, true, true, true, true, true, true, true, true, true, true, true, true, true, true, true, false, false, false] rfl rfl (any_of HT_.out (by kernel_rfl)) (fun _ _ _ h => h) (Or.inr ⟨by rfl, rfl⟩) ?_ ?_
      rotate_left
      ·simp only [Act.put, List.setIfInBounds_toArray, List.set_cons_zero, List.set_cons_succ, i64_w, i32_w]
       rfl
      refine pure_ (i := 28) (N := some 54) (v := ?_) (a' := ?_) #[true, true, true, true, true, true, true, true, true, true, true, true, true, true, true, true, true, true, true, true, true, true, true, true, true, true, true, true, true, false, false] rfl rfl (any_of HT_.out (by kernel_rfl)) (fun _ _ _ h => h) (Or.inl ⟨by rfl, ?_⟩) ?_ ?_
      rotate_left
      ·intro w'
       go_simp
       with_reducible rfl
      rotate_left
      ·simp only [Act.put, List.setIfInBounds_toArray, List.set_cons_zero, List.set_cons_succ, i64_w, i32_w]
       rfl
      refine pure_ (i := 29) (N := some 55) (v := ?_) (a' := ?_) #[true, true, true, true, true, true, true, true, true, true, true, true, true, true, true, true, true, true, true, true, true, true, true, true, true, true, true, true, true, true, false] rfl rfl (any_of HT_.out (by kernel_rfl)) (fun _ _ _ h => h) (Or.inl ⟨by rfl, ?_⟩) ?_ ?_
      rotate_left
      ·intro w'
       go_simp
       with_reducible rfl
      rotate_left
      ·simp only [Act.put, List.setIfInBounds_toArray, List.set_cons_zero, List.set_cons_succ, i64_w, i32_w]
       rfl
      refine pure_ (i := 30) (N := some 56) (v := ?_) (a' := ?_) #[true, true, true, true, true, true, true, true, true, true, true, true, true, true, true, true, true, true, true, true, true, true, true, true, true, true, true, true, true, true, true] rfl rfl (any_of HT_.out (by kernel_rfl)) (fun _ _ _ h => h) (Or.inl ⟨by rfl, ?_⟩) ?_ ?_
      rotate_left
      ·intro w'
       go_simp
       with_reducible rfl
      rotate_left
      ·simp only [Act.put, List.setIfInBounds_toArray, List.set_cons_zero, List.set_cons_succ, i64_w, i32_w]
       rfl
      refine done_ (done_of HT_.out (by kernel_rfl)) ?_
      try go_wp2
      go_meet
      case rel => exact ⟨_, (((t106 == t116 && (t107 == t117)) != false)), (by (simp; done)), H', ⟨by omega⟩, ⟨by (with_reducible repeat ((apply Kd.V_drewN))); exact Kd.V_mono HO0.out (fun _ hk => ⟨hk.1, hk.2.2⟩)⟩, ⟨by (with_reducible repeat ((apply Kd.V_drewN))); exact Kd.V_mono HO1.out (fun _ hk => ⟨hk.1, hk.2.2⟩)⟩, ⟨by (with_reducible repeat ((apply Kd.V_drewN))); exact Kd.V_mono HO2.out (fun _ hk => ⟨hk.1, hk.2.2⟩)⟩, ⟨by (with_reducible repeat ((refine blk_drewN ?_ _))); exact BK108.out⟩, ⟨by repeat ((with_reducible first | exact HB.out | apply pw_below_drewN))⟩⟩
  case rest =>
   clear HC8
   obtain ⟨kq, x56_7, rfl, HA, HJ7, HO_0, HO_1, HO_2, BK108, HB⟩ := hcut
   cases kq with
   | zero => exact absurd HA.out (by simp [cleanselaw04_MeasureSets.j0])
   | succ kj7 =>
    have H := HA.out
    clear HA
    simp only [cleanselaw04_MeasureSets.j0] at H
    by_cases c54 : x56_7 = true
    ·subst c54
     have H1 : (some false) = some r := by rw [if_pos rfl] at H; exact H
     clear H
     have H := H1
     clear H1
     exact absurd ((Option.some.inj H).trans HT.out) (by decide)
    ·replace c54 := Bool.eq_false_iff.mpr c54
     subst c54
     have H1 : ((measure_Jaccard.f kj7 l0 l2).bind fun bt119 => ((measure_Jaccard.f kj7 l2 l1).bind fun bt122 => ((cleanselaw04_of.f 1 1).bind fun bt125 => ((ratio_Add.f kj7 bt125.1 bt125.2 t106 t107).bind fun bt127 => ((ratio_Add.f kj7 bt119.1 bt119.2 bt122.1 bt122.2).bind fun bt131 => (if t101 = true then (if bt127.2.2 = 0 then (if bt131.2.2 = 0 then ((ratio_Cmp.f kj7 bt127.1 bt127.2.1 bt131.1 bt131.2.1).bind fun t135 => (some (decide (t135 ≥ 0)))) else (some false)) else (some false)) else (some false))))))) = some r := by rw [if_neg (show ¬ (false = true) by decide)] at H; exact H
     clear H
     have H := H1
     clear H1
     replace H := Option.bind_eq_some_iff.mp H
     obtain ⟨⟨t119, t120⟩, A550, H⟩ := H
     replace H : ((measure_Jaccard.f kj7 l2 l1).bind fun bt122 => ((cleanselaw04_of.f 1 1).bind fun bt125 => ((ratio_Add.f kj7 bt125.1 bt125.2 t106 t107).bind fun bt127 => ((ratio_Add.f kj7 t119 t120 bt122.1 bt122.2).bind fun bt131 => (if t101 = true then (if bt127.2.2 = 0 then (if bt131.2.2 = 0 then ((ratio_Cmp.f kj7 bt127.1 bt127.2.1 bt131.1 bt131.2.1).bind fun t135 => (some (decide (t135 ≥ 0)))) else (some false)) else (some false)) else (some false)))))) = some r := H
     have A55 := Aside0.mk A550
     clear A550
     replace H := Option.bind_eq_some_iff.mp H
     obtain ⟨⟨t122, t123⟩, A560, H⟩ := H
     replace H : ((cleanselaw04_of.f 1 1).bind fun bt125 => ((ratio_Add.f kj7 bt125.1 bt125.2 t106 t107).bind fun bt127 => ((ratio_Add.f kj7 t119 t120 t122 t123).bind fun bt131 => (if t101 = true then (if bt127.2.2 = 0 then (if bt131.2.2 = 0 then ((ratio_Cmp.f kj7 bt127.1 bt127.2.1 bt131.1 bt131.2.1).bind fun t135 => (some (decide (t135 ≥ 0)))) else (some false)) else (some false)) else (some false))))) = some r := H
     have A56 := Aside0.mk A560
     clear A560
     replace H := Option.bind_eq_some_iff.mp H
     obtain ⟨⟨t125, t126⟩, A570, H⟩ := H
     replace H : ((ratio_Add.f kj7 t125 t126 t106 t107).bind fun bt127 => ((ratio_Add.f kj7 t119 t120 t122 t123).bind fun bt131 => (if t101 = true then (if bt127.2.2 = 0 then (if bt131.2.2 = 0 then ((ratio_Cmp.f kj7 bt127.1 bt127.2.1 bt131.1 bt131.2.1).bind fun t135 => (some (decide (t135 ≥ 0)))) else (some false)) else (some false)) else (some false)))) = some r := H
     have A57 := Aside0.mk A570
     clear A570
     replace H := Option.bind_eq_some_iff.mp H
     obtain ⟨⟨t127, t128, t129⟩, A580, H⟩ := H
     replace H : ((ratio_Add.f kj7 t119 t120 t122 t123).bind fun bt131 => (if t101 = true then (if t129 = 0 then (if bt131.2.2 = 0 then ((ratio_Cmp.f kj7 t127 t128 bt131.1 bt131.2.1).bind fun t135 => (some (decide (t135 ≥ 0)))) else (some false)) else (some false)) else (some false))) = some r := H
     have A58 := Aside0.mk A580
     clear A580
     replace H := Option.bind_eq_some_iff.mp H
     obtain ⟨⟨t131, t132, t133⟩, A590, H⟩ := H
     replace H : (if t101 = true then (if t129 = 0 then (if t133 = 0 then ((ratio_Cmp.f kj7 t127 t128 t131 t132).bind fun t135 => (some (decide (t135 ≥ 0)))) else (some false)) else (some false)) else (some false)) = some r := H
     have A59 := Aside0.mk A590
     clear A590
     by_cases c60 : t101 = true
     ·subst c60
      have H1 : (if t129 = 0 then (if t133 = 0 then ((ratio_Cmp.f kj7 t127 t128 t131 t132).bind fun t135 => (some (decide (t135 ≥ 0)))) else (some false)) else (some false)) = some r := by rw [if_pos rfl] at H; exact H
      clear H
      have H := H1
      clear H1
      by_cases c61 : t129 = 0
      ·rw [if_pos c61] at H
       have c61b0 : (t129 == 0) = true := beq_iff_eq.mpr c61
       have c61b1 : (t129 != 0) = false := bne_eq_false_iff_eq.mpr c61
       clear c61
       by_cases c62 : t133 = 0
       ·rw [if_pos c62] at H
        have c62b0 : (t133 == 0) = true := beq_iff_eq.mpr c62
        have c62b1 : (t133 != 0) = false := bne_eq_false_iff_eq.mpr c62
        clear c62
        replace H := Option.bind_eq_some_iff.mp H
        obtain ⟨t135, A630, H⟩ := H
        replace H : (some (decide (t135 ≥ 0))) = some r := H
        have A63 := Aside0.mk A630
        clear A630
        obtain rfl := Option.some.inj H
        try go_wp2_with (first | ((with_reducible refine gate_callee (f := 18) rfl ?_); refine goesL_ (some 59) rfl rfl Tryd.func18 (by kernel_rfl) rfl #[.slice A0 l0.length c0, .slice A2 l2.length c2] rfl (by (try simp only [List.map_toArray, List.map_cons, List.map_nil]); rfl) ?_; (with_reducible refine (measure_Jaccard.calls kj7 _ _ l0 _ _ l2 t119 t120 _ ?side1 ?side2 ?side3 ?side4 ?sGl A55.out).mono ?_); (case sGl => exact Gl.below HGl.out (by repeat ((with_reducible (exact HB.out))))); (case side1 => repeat ((exact (Kd.V_reads' HO_0.out).2.2))); (case side2 => exact (Kd.V_reads' HO_0.out).2.1); (case side3 => repeat ((exact (Kd.V_reads' HO_2.out).2.2))); (case side4 => exact (Kd.V_reads' HO_2.out).2.1); rintro e w64 ⟨rfl, hb⟩; refine ⟨_, rfl, ?_⟩; have n0_ := Aside0.mk (Kd.V_below (by (with_reducible skip); exact HO_0.out) hb); have n1_ := Aside0.mk (Kd.V_below (by (with_reducible skip); exact HO_1.out) hb); have n2_ := Aside0.mk (Kd.V_below (by (with_reducible skip); exact HO_2.out) hb); have n3_ := Aside0.mk (blk_below (g := gb108) (o := .cells #[.int .i64 t106, .int .i64 t107] 32 (0, 0)) (by (with_reducible skip); exact BK108.out) hb); have n4_ := Aside0.mk (below_step (by repeat ((with_reducible (exact HB.out)))) hb); clear HO_0; clear HO_1; clear HO_2; clear BK108; clear HB; have HO_0 := n0_; have HO_1 := n1_; have HO_2 := n2_; have BK108 := n3_; have HB := n4_; clear n0_ n1_ n2_ n3_ n4_; (try clear hb)) | ((with_reducible refine gate_dst (N := 9) rfl ?_); (try (refine gate_guard (by rfl) ?_; dsimp only)); refine box_event ?hg (N := 9) ?hd (cs := #[.int .i64 0, .int .i64 0]) (t := 32) ?hr ?_; (case hd => rfl); (case hg => rfl); (case hr => (go_simp; done)); intro gb121 hg w65 hbox hb; have n0_ := Aside0.mk (Kd.V_below (Kd.V_elderB (by (with_reducible skip); exact HO_0.out) gb121 (Nat.le_of_eq hg.symm)) hb); have n1_ := Aside0.mk (Kd.V_below (Kd.V_elderB (by (with_reducible skip); exact HO_1.out) gb121 (Nat.le_of_eq hg.symm)) hb); have n2_ := Aside0.mk (Kd.V_below (Kd.V_elderB (by (with_reducible skip); exact HO_2.out) gb121 (Nat.le_of_eq hg.symm)) hb); have n3_ := Aside0.mk (blk_below (g := gb108) (o := .cells #[.int .i64 t106, .int .i64 t107] 32 (0, 0)) (by (with_reducible skip); exact BK108.out) hb); have n4_ := Aside0.mk (below_step (by repeat ((with_reducible (exact HB.out)))) hb); have n5_ := Aside0.mk (hbox); have n6_ := Aside0.mk ((by rw [hg]; exact (below_size (by repeat ((with_reducible (exact HB.out))))) : w.heap.size ≤ gb121)); have n7_ := Aside0.mk ((by rw [hg]; exact (below_size (by repeat ((with_reducible (exact HB.out))))) : w.heap.size ≤ gb121)); have n8_ := Aside0.mk ((by rw [hg]; exact Nat.ne_of_lt (blk_lt (g := gb108) (o := .cells #[.int .i64 t106, .int .i64 t107] 32 (0, 0)) (by (with_reducible skip); exact BK108.out)) : gb108 ≠ gb121)); have n9_ := Aside0.mk ((by rw [hg]; exact Nat.ne_of_gt (blk_lt (g := gb108) (o := .cells #[.int .i64 t106, .int .i64 t107] 32 (0, 0)) (by (with_reducible skip); exact BK108.out)) : gb121 ≠ gb108)); clear HO_0; clear HO_1; clear HO_2; clear BK108; clear HB; have HO_0 := n0_; have HO_1 := n1_; have HO_2 := n2_; have BK108 := n3_; have HB := n4_; have BK121 := n5_; have GW121 := n6_; have GE121 := n7_; have NB108_121 := n8_; have NB121_108 := n9_; clear n0_ n1_ n2_ n3_ n4_ n5_ n6_ n7_ n8_ n9_; clear hb hbox hg; have hnb66 := NB121_108.out; have hnc66 := NB108_121.out; have hcz67_0 : w65.cell? ⟨gb121, 0, none⟩ = some (.int .i64 0) := (blk_cell BK121.out 0).trans rfl; have hcz67_1 : w65.cell? ⟨gb121, 1, none⟩ = some (.int .i64 0) := (blk_cell BK121.out 1).trans rfl; have hfz67_0 := blk_frozen BK121.out 0; have hfz67_1 := blk_frozen BK121.out 1) | ((with_reducible refine gate_callee (f := 18) rfl ?_); refine goesL_ (some 62) rfl rfl Tryd.func18 (by kernel_rfl) rfl #[.slice A2 l2.length c2, .slice A1 l1.length c1] rfl (by (try simp only [List.map_toArray, List.map_cons, List.map_nil]); rfl) ?_; (with_reducible refine (measure_Jaccard.calls kj7 _ _ l2 _ _ l1 t122 t123 _ ?side1 ?side2 ?side3 ?side4 ?sGl A56.out).mono ?_); (case sGl => exact Gl.below HGl.out (by repeat ((with_reducible first | exact HB.out | refine below_set ?_ (Aside0.out (by assumption)))))); (case side1 => refine (Kd.V_reads' (e := 9) (base := w.heap.size) (ok := fun k_ => ((((P0_ k_ ∨ P1_ k_ ∨ P2_ k_) ∨ w.heap.size ≤ k_) ∧ k_ ≠ gb108) ∧ k_ ≠ gb121)) (n := l2.length) (c := c2) ?_).2.2; exact (by (with_reducible skip); exact (Kd.V_mono (Kd.V_far (p := ⟨gb121, 1, none⟩) (Kd.V_far (p := ⟨gb121, 0, none⟩) (Kd.V_mono HO_2.out (fun k_ hk => (⟨hk, hk.2⟩ : _ ∧ k_ ≠ gb121))) (fun _ hk => hk.2) (.int .i64 t119)) (fun _ hk => hk.2) (.int .i64 t120)) (fun _ h_ => h_.1)))); (case side2 => exact (Kd.V_reads' HO_2.out).2.1); (case side3 => refine (Kd.V_reads' (e := 9) (base := w.heap.size) (ok := fun k_ => ((((P0_ k_ ∨ P1_ k_ ∨ P2_ k_) ∨ w.heap.size ≤ k_) ∧ k_ ≠ gb108) ∧ k_ ≠ gb121)) (n := l1.length) (c := c1) ?_).2.2; exact (by (with_reducible skip); exact (Kd.V_mono (Kd.V_far (p := ⟨gb121, 1, none⟩) (Kd.V_far (p := ⟨gb121, 0, none⟩) (Kd.V_mono HO_1.out (fun k_ hk => (⟨hk, hk.2⟩ : _ ∧ k_ ≠ gb121))) (fun _ hk => hk.2) (.int .i64 t119)) (fun _ hk => hk.2) (.int .i64 t120)) (fun _ h_ => h_.1)))); (case side4 => exact (Kd.V_reads' HO_1.out).2.1); rintro e w68 ⟨rfl, hb⟩; refine ⟨_, rfl, ?_⟩; have n0_ := Aside0.mk (Kd.V_below (by (with_reducible skip); exact (Kd.V_mono (Kd.V_far (p := ⟨gb121, 1, none⟩) (Kd.V_far (p := ⟨gb121, 0, none⟩) (Kd.V_mono HO_0.out (fun k_ hk => (⟨hk, hk.2⟩ : _ ∧ k_ ≠ gb121))) (fun _ hk => hk.2) (.int .i64 t119)) (fun _ hk => hk.2) (.int .i64 t120)) (fun _ h_ => h_.1))) hb); have n1_ := Aside0.mk (Kd.V_below (by (with_reducible skip); exact (Kd.V_mono (Kd.V_far (p := ⟨gb121, 1, none⟩) (Kd.V_far (p := ⟨gb121, 0, none⟩) (Kd.V_mono HO_1.out (fun k_ hk => (⟨hk, hk.2⟩ : _ ∧ k_ ≠ gb121))) (fun _ hk => hk.2) (.int .i64 t119)) (fun _ hk => hk.2) (.int .i64 t120)) (fun _ h_ => h_.1))) hb); have n2_ := Aside0.mk (Kd.V_below (by (with_reducible skip); exact (Kd.V_mono (Kd.V_far (p := ⟨gb121, 1, none⟩) (Kd.V_far (p := ⟨gb121, 0, none⟩) (Kd.V_mono HO_2.out (fun k_ hk => (⟨hk, hk.2⟩ : _ ∧ k_ ≠ gb121))) (fun _ hk => hk.2) (.int .i64 t119)) (fun _ hk => hk.2) (.int .i64 t120)) (fun _ h_ => h_.1))) hb); have n3_ := Aside0.mk (blk_below (g := gb108) (o := .cells #[.int .i64 t106, .int .i64 t107] 32 (0, 0)) (by (with_reducible skip); refine blk_far ?_ NB108_121.out _; (with_reducible skip); refine blk_far ?_ NB108_121.out _; (with_reducible skip); exact BK108.out) hb); have n4_ := Aside0.mk (blk_below (g := gb121) (o := .cells #[.int .i64 t119, .int .i64 t120] 32 (0, 0)) (by (with_reducible skip); refine blk_put (cs := #[.int .i64 t119, .int .i64 0]) ?_ 1 _ rfl; (with_reducible skip); refine blk_put (cs := #[.int .i64 0, .int .i64 0]) ?_ 0 _ rfl; (with_reducible skip); exact BK121.out) hb); have n5_ := Aside0.mk (below_step (by repeat ((with_reducible first | exact HB.out | refine below_set ?_ GE121.out))) hb); clear HO_0; clear HO_1; clear HO_2; clear BK108; clear BK121; clear HB; have HO_0 := n0_; have HO_1 := n1_; have HO_2 := n2_; have BK108 := n3_; have BK121 := n4_; have HB := n5_; clear n0_ n1_ n2_ n3_ n4_ n5_; (try clear hb)) | ((with_reducible refine gate_dst (N := 10) rfl ?_); (try (refine gate_guard (by rfl) ?_; dsimp only)); refine box_event ?hg (N := 10) ?hd (cs := #[.int .i64 0, .int .i64 0]) (t := 32) ?hr ?_; (case hd => rfl); (case hg => rfl); (case hr => (go_simp; done)); intro gb124 hg w69 hbox hb; have n0_ := Aside0.mk (Kd.V_below (Kd.V_elderB (by (with_reducible skip); exact HO_0.out) gb124 (Nat.le_of_eq hg.symm)) hb); have n1_ := Aside0.mk (Kd.V_below (Kd.V_elderB (by (with_reducible skip); exact HO_1.out) gb124 (Nat.le_of_eq hg.symm)) hb); have n2_ := Aside0.mk (Kd.V_below (Kd.V_elderB (by (with_reducible skip); exact HO_2.out) gb124 (Nat.le_of_eq hg.symm)) hb); have n3_ := Aside0.mk (blk_below (g := gb108) (o := .cells #[.int .i64 t106, .int .i64 t107] 32 (0, 0)) (by (with_reducible skip); exact BK108.out) hb); have n4_ := Aside0.mk (blk_below (g := gb121) (o := .cells #[.int .i64 t119, .int .i64 t120] 32 (0, 0)) (by (with_reducible skip); exact BK121.out) hb); have n5_ := Aside0.mk (below_step (by repeat ((with_reducible (exact HB.out)))) hb); have n6_ := Aside0.mk (hbox); have n7_ := Aside0.mk ((by rw [hg]; exact (below_size (by repeat ((with_reducible (exact HB.out))))) : w.heap.size ≤ gb124)); have n8_ := Aside0.mk ((by rw [hg]; exact (below_size (by repeat ((with_reducible (exact HB.out))))) : w.heap.size ≤ gb124)); have n9_ := Aside0.mk ((by rw [hg]; exact Nat.ne_of_lt (blk_lt (g := gb108) (o := .cells #[.int .i64 t106, .int .i64 t107] 32 (0, 0)) (by (with_reducible skip); exact BK108.out)) : gb108 ≠ gb124)); have n10_ := Aside0.mk ((by rw [hg]; exact Nat.ne_of_gt (blk_lt (g := gb108) (o := .cells #[.int .i64 t106, .int .i64 t107] 32 (0, 0)) (by (with_reducible skip); exact BK108.out)) : gb124 ≠ gb108)); have n11_ := Aside0.mk ((by rw [hg]; exact Nat.ne_of_lt (blk_lt (g := gb121) (o := .cells #[.int .i64 t119, .int .i64 t120] 32 (0, 0)) (by (with_reducible skip); exact BK121.out)) : gb121 ≠ gb124)); have n12_ := Aside0.mk ((by rw [hg]; exact Nat.ne_of_gt (blk_lt (g := gb121) (o := .cells #[.int .i64 t119, .int .i64 t120] 32 (0, 0)) (by (with_reducible skip); exact BK121.out)) : gb124 ≠ gb121)); clear HO_0; clear HO_1; clear HO_2; clear BK108; clear BK121; clear HB; have HO_0 := n0_; have HO_1 := n1_; have HO_2 := n2_; have BK108 := n3_; have BK121 := n4_; have HB := n5_; have BK124 := n6_; have GW124 := n7_; have GE124 := n8_; have NB108_124 := n9_; have NB124_108 := n10_; have NB121_124 := n11_; have NB124_121 := n12_; clear n0_ n1_ n2_ n3_ n4_ n5_ n6_ n7_ n8_ n9_ n10_ n11_ n12_; clear hb hbox hg; have hnb70 := NB124_108.out; have hnc70 := NB108_124.out; have hnb71 := NB124_121.out; have hnc71 := NB121_124.out; have hcz72_0 : w69.cell? ⟨gb124, 0, none⟩ = some (.int .i64 0) := (blk_cell BK124.out 0).trans rfl; have hcz72_1 : w69.cell? ⟨gb124, 1, none⟩ = some (.int .i64 0) := (blk_cell BK124.out 1).trans rfl; have hfz72_0 := blk_frozen BK124.out 0; have hfz72_1 := blk_frozen BK124.out 1))
        have n0_ : Aside0 (Kd.V Kd.string 9 ((w69.setCell ⟨gb124, 0, none⟩ (.int .i64 t122)).setCell ⟨gb124, 1, none⟩ (.int .i64 t123)) w.heap.size (fun k_ => ((P0_ k_ ∨ P1_ k_ ∨ P2_ k_) ∨ w.heap.size ≤ k_) ∧ k_ ≠ gb108 ∧ k_ ≠ gb121 ∧ k_ ≠ gb124) (.slice A0 l0.length c0) l0) := ⟨by (with_reducible skip); exact Kd.V_mono (Kd.V_far (p := ⟨gb124, 1, none⟩) (Kd.V_far (p := ⟨gb124, 0, none⟩) (Kd.V_mono HO_0.out (fun k_ hk => (⟨hk, hk.2⟩ : _ ∧ k_ ≠ gb124))) (fun _ hk => hk.2) (.int .i64 t122)) (fun _ hk => hk.2) (.int .i64 t123)) (fun _ hk => ⟨hk.1.1.1.1, ⟨hk.1.1.1.2, ⟨hk.1.1.2, hk.1.2⟩⟩⟩)⟩
        have n1_ : Aside0 (Kd.V Kd.string 9 ((w69.setCell ⟨gb124, 0, none⟩ (.int .i64 t122)).setCell ⟨gb124, 1, none⟩ (.int .i64 t123)) w.heap.size (fun k_ => ((P0_ k_ ∨ P1_ k_ ∨ P2_ k_) ∨ w.heap.size ≤ k_) ∧ k_ ≠ gb108 ∧ k_ ≠ gb121 ∧ k_ ≠ gb124) (.slice A1 l1.length c1) l1) := ⟨by (with_reducible skip); exact Kd.V_mono (Kd.V_far (p := ⟨gb124, 1, none⟩) (Kd.V_far (p := ⟨gb124, 0, none⟩) (Kd.V_mono HO_1.out (fun k_ hk => (⟨hk, hk.2⟩ : _ ∧ k_ ≠ gb124))) (fun _ hk => hk.2) (.int .i64 t122)) (fun _ hk => hk.2) (.int .i64 t123)) (fun _ hk => ⟨hk.1.1.1.1, ⟨hk.1.1.1.2, ⟨hk.1.1.2, hk.1.2⟩⟩⟩)⟩
        have n2_ : Aside0 (Kd.V Kd.string 9 ((w69.setCell ⟨gb124, 0, none⟩ (.int .i64 t122)).setCell ⟨gb124, 1, none⟩ (.int .i64 t123)) w.heap.size (fun k_ => ((P0_ k_ ∨ P1_ k_ ∨ P2_ k_) ∨ w.heap.size ≤ k_) ∧ k_ ≠ gb108 ∧ k_ ≠ gb121 ∧ k_ ≠ gb124) (.slice A2 l2.length c2) l2) := ⟨by (with_reducible skip); exact Kd.V_mono (Kd.V_far (p := ⟨gb124, 1, none⟩) (Kd.V_far (p := ⟨gb124, 0, none⟩) (Kd.V_mono HO_2.out (fun k_ hk => (⟨hk, hk.2⟩ : _ ∧ k_ ≠ gb124))) (fun _ hk => hk.2) (.int .i64 t122)) (fun _ hk => hk.2) (.int .i64 t123)) (fun _ hk => ⟨hk.1.1.1.1, ⟨hk.1.1.1.2, ⟨hk.1.1.2, hk.1.2⟩⟩⟩)⟩
        have n3_ : Aside0 (((w69.setCell ⟨gb124, 0, none⟩ (.int .i64 t122)).setCell ⟨gb124, 1, none⟩ (.int .i64 t123)).heap[gb108]? = some (.cells #[.int .i64 t106, .int .i64 t107] 32 (0, 0))) := ⟨by (with_reducible skip); refine blk_far ?_ NB108_124.out _; (with_reducible skip); refine blk_far ?_ NB108_124.out _; (with_reducible skip); exact BK108.out⟩
        have n4_ : Aside0 (((w69.setCell ⟨gb124, 0, none⟩ (.int .i64 t122)).setCell ⟨gb124, 1, none⟩ (.int .i64 t123)).heap[gb121]? = some (.cells #[.int .i64 t119, .int .i64 t120] 32 (0, 0))) := ⟨by (with_reducible skip); refine blk_far ?_ NB121_124.out _; (with_reducible skip); refine blk_far ?_ NB121_124.out _; (with_reducible skip); exact BK121.out⟩
        have n5_ : Aside0 (((w69.setCell ⟨gb124, 0, none⟩ (.int .i64 t122)).setCell ⟨gb124, 1, none⟩ (.int .i64 t123)).heap[gb124]? = some (.cells #[.int .i64 t122, .int .i64 t123] 32 (0, 0))) := ⟨by (with_reducible skip); refine blk_put (cs := #[.int .i64 t122, .int .i64 0]) ?_ 1 _ rfl; (with_reducible skip); refine blk_put (cs := #[.int .i64 0, .int .i64 0]) ?_ 0 _ rfl; (with_reducible skip); exact BK124.out⟩
        have n6_ : Aside0 (Below w.heap.size w ((w69.setCell ⟨gb124, 0, none⟩ (.int .i64 t122)).setCell ⟨gb124, 1, none⟩ (.int .i64 t123))) := ⟨by repeat ((with_reducible first | exact HB.out | refine below_set ?_ GE124.out))⟩
        (try clear HO_0)
        (try clear HO_1)
        (try clear HO_2)
        (try clear BK108)
        (try clear BK121)
        (try clear BK124)
        (try clear HB)
        generalize ((w69.setCell ⟨gb124, 0, none⟩ (.int .i64 t122)).setCell ⟨gb124, 1, none⟩ (.int .i64 t123)) = w73 at n0_ n1_ n2_ n3_ n4_ n5_ n6_ ⊢
        have HO_0 := n0_
        have HO_1 := n1_
        have HO_2 := n2_
        have BK108 := n3_
        have BK121 := n4_
        have BK124 := n5_
        have HB := n6_
        clear n0_ n1_ n2_ n3_ n4_ n5_ n6_
        have n0_ := Aside0.mk (Kd.V_drew HO_0.out)
        have n1_ := Aside0.mk (Kd.V_drew HO_1.out)
        have n2_ := Aside0.mk (Kd.V_drew HO_2.out)
        have n3_ := Aside0.mk (blk_drew BK108.out)
        have n4_ := Aside0.mk (blk_drew BK121.out)
        have n5_ := Aside0.mk (blk_drew BK124.out)
        have n6_ := Aside0.mk (below_drew1 HB.out)
        clear HO_0
        clear HO_1
        clear HO_2
        clear BK108
        clear BK121
        clear BK124
        clear HB
        have HO_0 := n0_
        have HO_1 := n1_
        have HO_2 := n2_
        have BK108 := n3_
        have BK121 := n4_
        have BK124 := n5_
        have HB := n6_
        clear n0_ n1_ n2_ n3_ n4_ n5_ n6_
        refine start_ (n := 9) (S := fun w' => w'.cell? ⟨gb108, 0, none⟩ = some (.int .i64 t106) ∧ w'.cell? ⟨gb108, 1, none⟩ = some (.int .i64 t107)) (ds := []) #[false, false, false, false, false, false, false, false, false] (by kernel_rfl) rfl rfl ⟨(blk_cell BK108.out 0).trans rfl, (blk_cell BK108.out 1).trans rfl⟩ (fun hHeld => ?_); refine with_tabW cleanselaw04_MeasureSets.tab9 cleanselaw04_MeasureSets.bits9 (fun HT_ HW_ => ?_)
        generalize w73.drew = w74 at HO_0 HO_1 HO_2 BK108 BK121 BK124 HB hHeld ⊢
        refine take_ (i := 1) (N := some 65) (v := ?_) (a' := ?_) #[false, true, false, false, false, false, false, false, false] rfl rfl (take_ofW HT_.out HW_.out (by kernel_rfl)) (fun _ _ _ h => h) (Or.inl ⟨by rfl, ?_⟩) hHeld ?_ ?_
        rotate_left
        ·rintro w' ⟨s0, s1⟩
         go_simp
         with_reducible rfl
        rotate_left
        ·simp only [Act.put, List.setIfInBounds_toArray, List.set_cons_zero, List.set_cons_succ, i64_w, i32_w]
         rfl
        refine join_ (σ := Nat) 2 #[true, true, true, true, true, true, true, false, false] (fun s_ => [(64, .agg #[.int .i64 t125, .int .i64 t126]), (66, .tuple #[.agg #[.int .i64 t127, .int .i64 t128], .int .i64 t129]), (11, .pointer (some ⟨s_, 0, none⟩)), (63, .tuple #[.agg #[.int .i64 t127, .int .i64 t128], .int .i64 t129]), (67, .agg #[.int .i64 t127, .int .i64 t128]), (68, .int .i64 t129)]) (fun s_ w' => (w'.cell? ⟨gb108, 0, none⟩ = some (.int .i64 t106) ∧ w'.cell? ⟨gb108, 1, none⟩ = some (.int .i64 t107)) ∧ (Kd.V Kd.string 9 w' w.heap.size (fun k_ => ((P0_ k_ ∨ P1_ k_ ∨ P2_ k_) ∨ w.heap.size ≤ k_) ∧ k_ ≠ gb108 ∧ k_ ≠ gb121 ∧ k_ ≠ gb124 ∧ k_ ≠ s_) (.slice A0 l0.length c0) l0) ∧ (Kd.V Kd.string 9 w' w.heap.size (fun k_ => ((P0_ k_ ∨ P1_ k_ ∨ P2_ k_) ∨ w.heap.size ≤ k_) ∧ k_ ≠ gb108 ∧ k_ ≠ gb121 ∧ k_ ≠ gb124 ∧ k_ ≠ s_) (.slice A1 l1.length c1) l1) ∧ (Kd.V Kd.string 9 w' w.heap.size (fun k_ => ((P0_ k_ ∨ P1_ k_ ∨ P2_ k_) ∨ w.heap.size ≤ k_) ∧ k_ ≠ gb108 ∧ k_ ≠ gb121 ∧ k_ ≠ gb124 ∧ k_ ≠ s_) (.slice A2 l2.length c2) l2) ∧ (w'.heap[gb108]? = some (.cells #[.int .i64 t106, .int .i64 t107] 32 (0, 0))) ∧ (w'.heap[gb121]? = some (.cells #[.int .i64 t119, .int .i64 t120] 32 (0, 0))) ∧ (w'.heap[gb124]? = some (.cells #[.int .i64 t122, .int .i64 t123] 32 (0, 0))) ∧ (w'.heap[s_]? = some (.cells #[.int .i64 0, .int .i64 0] 32 (0, 0))) ∧ (w.heap.size ≤ s_) ∧ (w.heap.size ≤ s_) ∧ (gb108 ≠ s_) ∧ (s_ ≠ gb108) ∧ (gb121 ≠ s_) ∧ (s_ ≠ gb121) ∧ (gb124 ≠ s_) ∧ (s_ ≠ gb124) ∧ (Below w.heap.size w w')) ?_ ?_
        rotate_left
        ·intro hCont
         refine two_ (i := 0) (j := 6) (Ni := some 64) (Nj := some 11) #[true, true, false, false, false, false, false, false, false] #[false, true, false, false, false, false, true, false, false] rfl rfl rfl rfl (two_of HT_.out (by kernel_rfl)) (by decide) (by decide) (fun K hK => ?_) (fun K hK => ?_)
         ·skip
          refine goes_ Tryd.func27 (by kernel_rfl) rfl #[.int .i64 1, .int .i64 1] (by rfl) rfl rfl (by (try simp only [List.map_toArray, List.map_cons, List.map_nil]); rfl) ?_
          with_reducible refine (cleanselaw04_of.calls 1 1 t125 t126 _ A57.out).mono ?_
          rintro e w75 ⟨rfl, hb⟩
          refine ⟨_, rfl, ?_⟩
          have n0_ := Aside0.mk (Kd.V_below (by (with_reducible skip); exact HO_0.out) hb)
          have n1_ := Aside0.mk (Kd.V_below (by (with_reducible skip); exact HO_1.out) hb)
          have n2_ := Aside0.mk (Kd.V_below (by (with_reducible skip); exact HO_2.out) hb)
          have n3_ := Aside0.mk (blk_below (g := gb108) (o := .cells #[.int .i64 t106, .int .i64 t107] 32 (0, 0)) (by (with_reducible skip); exact BK108.out) hb)
          have n4_ := Aside0.mk (blk_below (g := gb121) (o := .cells #[.int .i64 t119, .int .i64 t120] 32 (0, 0)) (by (with_reducible skip); exact BK121.out) hb)
          have n5_ := Aside0.mk (blk_below (g := gb124) (o := .cells #[.int .i64 t122, .int .i64 t123] 32 (0, 0)) (by (with_reducible skip); exact BK124.out) hb)
          have n6_ := Aside0.mk (below_step (by repeat ((with_reducible (exact HB.out)))) hb)
          clear HO_0
          clear HO_1
          clear HO_2
          clear BK108
          clear BK121
          clear BK124
          clear HB
          have HO_0 := n0_
          have HO_1 := n1_
          have HO_2 := n2_
          have BK108 := n3_
          have BK121 := n4_
          have BK124 := n5_
          have HB := n6_
          clear n0_ n1_ n2_ n3_ n4_ n5_ n6_
          (try clear hb)
          refine hK.out _ _ ⟨(blk_cell BK108.out 0).trans rfl, (blk_cell BK108.out 1).trans rfl⟩ (fun hHeld => ?_)
          clear hK K
          refine norm_ (a' := ?_) ?_ ?_
          rotate_left
          ·show Act.put _ (some 64) _ = _
           simp only [Act.put, List.setIfInBounds_toArray, List.set_cons_zero, List.set_cons_succ, i64_w, i32_w]
           rfl
          refine two_ (i := 2) (j := 6) (Ni := some 66) (Nj := some 11) #[true, true, true, false, false, false, false, false, false] #[true, true, false, false, false, false, true, false, false] rfl rfl rfl rfl (two_of HT_.out (by kernel_rfl)) (by decide) (by decide) (fun K hK => ?_) (fun K hK => ?_)
          ·skip
           refine goes_ Tryd.func32 (by kernel_rfl) rfl #[.agg #[.int .i64 t125, .int .i64 t126], .agg #[.int .i64 t106, .int .i64 t107]] (by rfl) rfl rfl (by (try simp only [List.map_toArray, List.map_cons, List.map_nil]); rfl) ?_
           with_reducible refine (ratio_Add.calls kj7 t125 t126 t106 t107 t127 t128 t129 _ A58.out).mono ?_
           rintro e w76 ⟨rfl, hb⟩
           refine ⟨_, rfl, ?_⟩
           have n0_ := Aside0.mk (Kd.V_below (by (with_reducible skip); exact HO_0.out) hb)
           have n1_ := Aside0.mk (Kd.V_below (by (with_reducible skip); exact HO_1.out) hb)
           have n2_ := Aside0.mk (Kd.V_below (by (with_reducible skip); exact HO_2.out) hb)
           have n3_ := Aside0.mk (blk_below (g := gb108) (o := .cells #[.int .i64 t106, .int .i64 t107] 32 (0, 0)) (by (with_reducible skip); exact BK108.out) hb)
           have n4_ := Aside0.mk (blk_below (g := gb121) (o := .cells #[.int .i64 t119, .int .i64 t120] 32 (0, 0)) (by (with_reducible skip); exact BK121.out) hb)
           have n5_ := Aside0.mk (blk_below (g := gb124) (o := .cells #[.int .i64 t122, .int .i64 t123] 32 (0, 0)) (by (with_reducible skip); exact BK124.out) hb)
           have n6_ := Aside0.mk (below_step (by repeat ((with_reducible (exact HB.out)))) hb)
           clear HO_0
           clear HO_1
           clear HO_2
           clear BK108
           clear BK121
           clear BK124
           clear HB
           have HO_0 := n0_
           have HO_1 := n1_
           have HO_2 := n2_
           have BK108 := n3_
           have BK121 := n4_
           have BK124 := n5_
           have HB := n6_
           clear n0_ n1_ n2_ n3_ n4_ n5_ n6_
           (try clear hb)
           refine hK.out _ _ ⟨(blk_cell BK108.out 0).trans rfl, (blk_cell BK108.out 1).trans rfl⟩ (fun hHeld => ?_)
           clear hK K
           refine norm_ (a' := ?_) ?_ ?_
           rotate_left
           ·show Act.put _ (some 66) _ = _
            simp only [Act.put, List.setIfInBounds_toArray, List.set_cons_zero, List.set_cons_succ, i64_w, i32_w]
            rfl
           refine pure_ (i := 3) (N := some 63) (v := ?_) (a' := ?_) #[true, true, true, true, false, false, false, false, false] rfl rfl (any_of HT_.out (by kernel_rfl)) (fun _ _ _ h => h) (Or.inl ⟨by rfl, ?_⟩) ?_ ?_
           rotate_left
           ·intro w'
            go_simp
            with_reducible rfl
           rotate_left
           ·simp only [Act.put, List.setIfInBounds_toArray, List.set_cons_zero, List.set_cons_succ, i64_w, i32_w]
            rfl
           refine pure_ (i := 4) (N := some 67) (v := ?_) (a' := ?_) #[true, true, true, true, true, false, false, false, false] rfl rfl (any_of HT_.out (by kernel_rfl)) (fun _ _ _ h => h) (Or.inl ⟨by rfl, ?_⟩) ?_ ?_
           rotate_left
           ·intro w'
            go_simp
            with_reducible rfl
           rotate_left
           ·simp only [Act.put, List.setIfInBounds_toArray, List.set_cons_zero, List.set_cons_succ, i64_w, i32_w]
            rfl
           refine pure_ (i := 5) (N := some 68) (v := ?_) (a' := ?_) #[true, true, true, true, true, true, false, false, false] rfl rfl (any_of HT_.out (by kernel_rfl)) (fun _ _ _ h => h) (Or.inl ⟨by rfl, ?_⟩) ?_ ?_
           rotate_left
           ·intro w'
            go_simp
            with_reducible rfl
           rotate_left
           ·simp only [Act.put, List.setIfInBounds_toArray, List.set_cons_zero, List.set_cons_succ, i64_w, i32_w]
            rfl
           refine one_ (i := 6) (N := some 11) #[true, true, true, true, true, true, true, false, false] rfl rfl (one_of HT_.out (by kernel_rfl)) (by decide) (fun K hK => ?_)
           refine box_step ?hg (N := 11) ?hd (cs := #[.int .i64 0, .int .i64 0]) (t := 32) ?hr ?_; (case hd => rfl); (case hg => rfl); (case hr => (go_simp; done))
           intro gb130 hg w77 hbox hb
           have n0_ := Aside0.mk (Kd.V_below (Kd.V_elderB (by (with_reducible skip); exact HO_0.out) gb130 (Nat.le_of_eq hg.symm)) hb)
           have n1_ := Aside0.mk (Kd.V_below (Kd.V_elderB (by (with_reducible skip); exact HO_1.out) gb130 (Nat.le_of_eq hg.symm)) hb)
           have n2_ := Aside0.mk (Kd.V_below (Kd.V_elderB (by (with_reducible skip); exact HO_2.out) gb130 (Nat.le_of_eq hg.symm)) hb)
           have n3_ := Aside0.mk (blk_below (g := gb108) (o := .cells #[.int .i64 t106, .int .i64 t107] 32 (0, 0)) (by (with_reducible skip); exact BK108.out) hb)
           have n4_ := Aside0.mk (blk_below (g := gb121) (o := .cells #[.int .i64 t119, .int .i64 t120] 32 (0, 0)) (by (with_reducible skip); exact BK121.out) hb)
           have n5_ := Aside0.mk (blk_below (g := gb124) (o := .cells #[.int .i64 t122, .int .i64 t123] 32 (0, 0)) (by (with_reducible skip); exact BK124.out) hb)
           have n6_ := Aside0.mk (below_step (by repeat ((with_reducible (exact HB.out)))) hb)
           have n7_ := Aside0.mk (hbox)
           have n8_ := Aside0.mk ((by rw [hg]; exact (below_size (by repeat ((with_reducible (exact HB.out))))) : w.heap.size ≤ gb130))
           have n9_ := Aside0.mk ((by rw [hg]; exact (below_size (by repeat ((with_reducible (exact HB.out))))) : w.heap.size ≤ gb130))
           have n10_ := Aside0.mk ((by rw [hg]; exact Nat.ne_of_lt (blk_lt (g := gb108) (o := .cells #[.int .i64 t106, .int .i64 t107] 32 (0, 0)) (by (with_reducible skip); exact BK108.out)) : gb108 ≠ gb130))
           have n11_ := Aside0.mk ((by rw [hg]; exact Nat.ne_of_gt (blk_lt (g := gb108) (o := .cells #[.int .i64 t106, .int .i64 t107] 32 (0, 0)) (by (with_reducible skip); exact BK108.out)) : gb130 ≠ gb108))
           have n12_ := Aside0.mk ((by rw [hg]; exact Nat.ne_of_lt (blk_lt (g := gb121) (o := .cells #[.int .i64 t119, .int .i64 t120] 32 (0, 0)) (by (with_reducible skip); exact BK121.out)) : gb121 ≠ gb130))
           have n13_ := Aside0.mk ((by rw [hg]; exact Nat.ne_of_gt (blk_lt (g := gb121) (o := .cells #[.int .i64 t119, .int .i64 t120] 32 (0, 0)) (by (with_reducible skip); exact BK121.out)) : gb130 ≠ gb121))
           have n14_ := Aside0.mk ((by rw [hg]; exact Nat.ne_of_lt (blk_lt (g := gb124) (o := .cells #[.int .i64 t122, .int .i64 t123] 32 (0, 0)) (by (with_reducible skip); exact BK124.out)) : gb124 ≠ gb130))
           have n15_ := Aside0.mk ((by rw [hg]; exact Nat.ne_of_gt (blk_lt (g := gb124) (o := .cells #[.int .i64 t122, .int .i64 t123] 32 (0, 0)) (by (with_reducible skip); exact BK124.out)) : gb130 ≠ gb124))
           clear HO_0
           clear HO_1
           clear HO_2
           clear BK108
           clear BK121
           clear BK124
           clear HB
           have HO_0 := n0_
           have HO_1 := n1_
           have HO_2 := n2_
           have BK108 := n3_
           have BK121 := n4_
           have BK124 := n5_
           have HB := n6_
           have BK130 := n7_
           have GW130 := n8_
           have GE130 := n9_
           have NB108_130 := n10_
           have NB130_108 := n11_
           have NB121_130 := n12_
           have NB130_121 := n13_
           have NB124_130 := n14_
           have NB130_124 := n15_
           clear n0_ n1_ n2_ n3_ n4_ n5_ n6_ n7_ n8_ n9_ n10_ n11_ n12_ n13_ n14_ n15_
           clear hb hbox hg
           refine hK.out _ _ ⟨(blk_cell BK108.out 0).trans rfl, (blk_cell BK108.out 1).trans rfl⟩ (fun hHeld => ?_)
           clear hK K
           refine norm_ (a' := ?_) ?_ ?_
           rotate_left
           ·show Act.put _ (some 11) _ = _
            simp only [Act.put, List.setIfInBounds_toArray, List.set_cons_zero, List.set_cons_succ, i64_w, i32_w]
            rfl
           exact norm_ (by simp only [putAll, Act.put, List.setIfInBounds_toArray, List.set_cons_zero, List.set_cons_succ]) (hCont (gb130) _ ⟨hHeld, (by (with_reducible skip); exact Kd.V_mono HO_0.out (fun _ hk => ⟨hk.1.1, ⟨hk.1.2.1, ⟨hk.1.2.2.1, ⟨hk.1.2.2.2, hk.2⟩⟩⟩⟩)), (by (with_reducible skip); exact Kd.V_mono HO_1.out (fun _ hk => ⟨hk.1.1, ⟨hk.1.2.1, ⟨hk.1.2.2.1, ⟨hk.1.2.2.2, hk.2⟩⟩⟩⟩)), (by (with_reducible skip); exact Kd.V_mono HO_2.out (fun _ hk => ⟨hk.1.1, ⟨hk.1.2.1, ⟨hk.1.2.2.1, ⟨hk.1.2.2.2, hk.2⟩⟩⟩⟩)), (by (with_reducible skip); exact BK108.out), (by (with_reducible skip); exact BK121.out), (by (with_reducible skip); exact BK124.out), (by (with_reducible skip); exact BK130.out), GW130.out, GE130.out, NB108_130.out, NB130_108.out, NB121_130.out, NB130_121.out, NB124_130.out, NB130_124.out, (by repeat ((with_reducible (exact HB.out))))⟩)
          ·skip
           refine box_step ?hg (N := 11) ?hd (cs := #[.int .i64 0, .int .i64 0]) (t := 32) ?hr ?_; (case hd => rfl); (case hg => rfl); (case hr => (go_simp; done))
           intro gb130 hg w76 hbox hb
           have n0_ := Aside0.mk (Kd.V_below (Kd.V_elderB (by (with_reducible skip); exact HO_0.out) gb130 (Nat.le_of_eq hg.symm)) hb)
           have n1_ := Aside0.mk (Kd.V_below (Kd.V_elderB (by (with_reducible skip); exact HO_1.out) gb130 (Nat.le_of_eq hg.symm)) hb)
           have n2_ := Aside0.mk (Kd.V_below (Kd.V_elderB (by (with_reducible skip); exact HO_2.out) gb130 (Nat.le_of_eq hg.symm)) hb)
           have n3_ := Aside0.mk (blk_below (g := gb108) (o := .cells #[.int .i64 t106, .int .i64 t107] 32 (0, 0)) (by (with_reducible skip); exact BK108.out) hb)
           have n4_ := Aside0.mk (blk_below (g := gb121) (o := .cells #[.int .i64 t119, .int .i64 t120] 32 (0, 0)) (by (with_reducible skip); exact BK121.out) hb)
           have n5_ := Aside0.mk (blk_below (g := gb124) (o := .cells #[.int .i64 t122, .int .i64 t123] 32 (0, 0)) (by (with_reducible skip); exact BK124.out) hb)
           have n6_ := Aside0.mk (below_step (by repeat ((with_reducible (exact HB.out)))) hb)
           have n7_ := Aside0.mk (hbox)
           have n8_ := Aside0.mk ((by rw [hg]; exact (below_size (by repeat ((with_reducible (exact HB.out))))) : w.heap.size ≤ gb130))
           have n9_ := Aside0.mk ((by rw [hg]; exact (below_size (by repeat ((with_reducible (exact HB.out))))) : w.heap.size ≤ gb130))
           have n10_ := Aside0.mk ((by rw [hg]; exact Nat.ne_of_lt (blk_lt (g := gb108) (o := .cells #[.int .i64 t106, .int .i64 t107] 32 (0, 0)) (by (with_reducible skip); exact BK108.out)) : gb108 ≠ gb130))
           have n11_ := Aside0.mk ((by rw [hg]; exact Nat.ne_of_gt (blk_lt (g := gb108) (o := .cells #[.int .i64 t106, .int .i64 t107] 32 (0, 0)) (by (with_reducible skip); exact BK108.out)) : gb130 ≠ gb108))
           have n12_ := Aside0.mk ((by rw [hg]; exact Nat.ne_of_lt (blk_lt (g := gb121) (o := .cells #[.int .i64 t119, .int .i64 t120] 32 (0, 0)) (by (with_reducible skip); exact BK121.out)) : gb121 ≠ gb130))
           have n13_ := Aside0.mk ((by rw [hg]; exact Nat.ne_of_gt (blk_lt (g := gb121) (o := .cells #[.int .i64 t119, .int .i64 t120] 32 (0, 0)) (by (with_reducible skip); exact BK121.out)) : gb130 ≠ gb121))
           have n14_ := Aside0.mk ((by rw [hg]; exact Nat.ne_of_lt (blk_lt (g := gb124) (o := .cells #[.int .i64 t122, .int .i64 t123] 32 (0, 0)) (by (with_reducible skip); exact BK124.out)) : gb124 ≠ gb130))
           have n15_ := Aside0.mk ((by rw [hg]; exact Nat.ne_of_gt (blk_lt (g := gb124) (o := .cells #[.int .i64 t122, .int .i64 t123] 32 (0, 0)) (by (with_reducible skip); exact BK124.out)) : gb130 ≠ gb124))
           clear HO_0
           clear HO_1
           clear HO_2
           clear BK108
           clear BK121
           clear BK124
           clear HB
           have HO_0 := n0_
           have HO_1 := n1_
           have HO_2 := n2_
           have BK108 := n3_
           have BK121 := n4_
           have BK124 := n5_
           have HB := n6_
           have BK130 := n7_
           have GW130 := n8_
           have GE130 := n9_
           have NB108_130 := n10_
           have NB130_108 := n11_
           have NB121_130 := n12_
           have NB130_121 := n13_
           have NB124_130 := n14_
           have NB130_124 := n15_
           clear n0_ n1_ n2_ n3_ n4_ n5_ n6_ n7_ n8_ n9_ n10_ n11_ n12_ n13_ n14_ n15_
           clear hb hbox hg
           refine hK.out _ _ ⟨(blk_cell BK108.out 0).trans rfl, (blk_cell BK108.out 1).trans rfl⟩ (fun hHeld => ?_)
           clear hK K
           refine norm_ (a' := ?_) ?_ ?_
           rotate_left
           ·show Act.put _ (some 11) _ = _
            simp only [Act.put, List.setIfInBounds_toArray, List.set_cons_zero, List.set_cons_succ, i64_w, i32_w]
            rfl
           refine one_ (i := 2) (N := some 66) #[true, true, true, false, false, false, true, false, false] rfl rfl (one_of HT_.out (by kernel_rfl)) (by decide) (fun K hK => ?_)
           refine goes_ Tryd.func32 (by kernel_rfl) rfl #[.agg #[.int .i64 t125, .int .i64 t126], .agg #[.int .i64 t106, .int .i64 t107]] (by rfl) rfl rfl (by (try simp only [List.map_toArray, List.map_cons, List.map_nil]); rfl) ?_
           with_reducible refine (ratio_Add.calls kj7 t125 t126 t106 t107 t127 t128 t129 _ A58.out).mono ?_
           rintro e w77 ⟨rfl, hb⟩
           refine ⟨_, rfl, ?_⟩
           have n0_ := Aside0.mk (Kd.V_below (by (with_reducible skip); exact HO_0.out) hb)
           have n1_ := Aside0.mk (Kd.V_below (by (with_reducible skip); exact HO_1.out) hb)
           have n2_ := Aside0.mk (Kd.V_below (by (with_reducible skip); exact HO_2.out) hb)
           have n3_ := Aside0.mk (blk_below (g := gb108) (o := .cells #[.int .i64 t106, .int .i64 t107] 32 (0, 0)) (by (with_reducible skip); exact BK108.out) hb)
           have n4_ := Aside0.mk (blk_below (g := gb121) (o := .cells #[.int .i64 t119, .int .i64 t120] 32 (0, 0)) (by (with_reducible skip); exact BK121.out) hb)
           have n5_ := Aside0.mk (blk_below (g := gb124) (o := .cells #[.int .i64 t122, .int .i64 t123] 32 (0, 0)) (by (with_reducible skip); exact BK124.out) hb)
           have n6_ := Aside0.mk (blk_below (g := gb130) (o := .cells #[.int .i64 0, .int .i64 0] 32 (0, 0)) (by (with_reducible skip); exact BK130.out) hb)
           have n7_ := Aside0.mk (below_step (by repeat ((with_reducible (exact HB.out)))) hb)
           clear HO_0
           clear HO_1
           clear HO_2
           clear BK108
           clear BK121
           clear BK124
           clear BK130
           clear HB
           have HO_0 := n0_
           have HO_1 := n1_
           have HO_2 := n2_
           have BK108 := n3_
           have BK121 := n4_
           have BK124 := n5_
           have BK130 := n6_
           have HB := n7_
           clear n0_ n1_ n2_ n3_ n4_ n5_ n6_ n7_
           (try clear hb)
           refine hK.out _ _ ⟨(blk_cell BK108.out 0).trans rfl, (blk_cell BK108.out 1).trans rfl⟩ (fun hHeld => ?_)
           clear hK K
           refine norm_ (a' := ?_) ?_ ?_
           rotate_left
           ·show Act.put _ (some 66) _ = _
            simp only [Act.put, List.setIfInBounds_toArray, List.set_cons_zero, List.set_cons_succ, i64_w, i32_w]
            rfl
           refine pure_ (i := 3) (N := some 63) (v := ?_) (a' := ?_) #[true, true, true, true, false, false, true, false, false] rfl rfl (any_of HT_.out (by kernel_rfl)) (fun _ _ _ h => h) (Or.inl ⟨by rfl, ?_⟩) ?_ ?_
           rotate_left
           ·intro w'
            go_simp
            with_reducible rfl
           rotate_left
           ·simp only [Act.put, List.setIfInBounds_toArray, List.set_cons_zero, List.set_cons_succ, i64_w, i32_w]
            rfl
           refine pure_ (i := 4) (N := some 67) (v := ?_) (a' := ?_) #[true, true, true, true, true, false, true, false, false] rfl rfl (any_of HT_.out (by kernel_rfl)) (fun _ _ _ h => h) (Or.inl ⟨by rfl, ?_⟩) ?_ ?_
           rotate_left
           ·intro w'
            go_simp
            with_reducible rfl
           rotate_left
           ·simp only [Act.put, List.setIfInBounds_toArray, List.set_cons_zero, List.set_cons_succ, i64_w, i32_w]
            rfl
           refine pure_ (i := 5) (N := some 68) (v := ?_) (a' := ?_) #[true, true, true, true, true, true, true, false, false] rfl rfl (any_of HT_.out (by kernel_rfl)) (fun _ _ _ h => h) (Or.inl ⟨by rfl, ?_⟩) ?_ ?_
           rotate_left
           ·intro w'
            go_simp
            with_reducible rfl
           rotate_left
           ·simp only [Act.put, List.setIfInBounds_toArray, List.set_cons_zero, List.set_cons_succ, i64_w, i32_w]
            rfl
           exact norm_ (by simp only [putAll, Act.put, List.setIfInBounds_toArray, List.set_cons_zero, List.set_cons_succ]) (hCont (gb130) _ ⟨hHeld, (by (with_reducible skip); exact Kd.V_mono HO_0.out (fun _ hk => ⟨hk.1.1, ⟨hk.1.2.1, ⟨hk.1.2.2.1, ⟨hk.1.2.2.2, hk.2⟩⟩⟩⟩)), (by (with_reducible skip); exact Kd.V_mono HO_1.out (fun _ hk => ⟨hk.1.1, ⟨hk.1.2.1, ⟨hk.1.2.2.1, ⟨hk.1.2.2.2, hk.2⟩⟩⟩⟩)), (by (with_reducible skip); exact Kd.V_mono HO_2.out (fun _ hk => ⟨hk.1.1, ⟨hk.1.2.1, ⟨hk.1.2.2.1, ⟨hk.1.2.2.2, hk.2⟩⟩⟩⟩)), (by (with_reducible skip); exact BK108.out), (by (with_reducible skip); exact BK121.out), (by (with_reducible skip); exact BK124.out), (by (with_reducible skip); exact BK130.out), GW130.out, GE130.out, NB108_130.out, NB130_108.out, NB121_130.out, NB130_121.out, NB124_130.out, NB130_124.out, (by repeat ((with_reducible (exact HB.out))))⟩)
         ·skip
          refine box_step ?hg (N := 11) ?hd (cs := #[.int .i64 0, .int .i64 0]) (t := 32) ?hr ?_; (case hd => rfl); (case hg => rfl); (case hr => (go_simp; done))
          intro gb130 hg w75 hbox hb
          have n0_ := Aside0.mk (Kd.V_below (Kd.V_elderB (by (with_reducible skip); exact HO_0.out) gb130 (Nat.le_of_eq hg.symm)) hb)
          have n1_ := Aside0.mk (Kd.V_below (Kd.V_elderB (by (with_reducible skip); exact HO_1.out) gb130 (Nat.le_of_eq hg.symm)) hb)
          have n2_ := Aside0.mk (Kd.V_below (Kd.V_elderB (by (with_reducible skip); exact HO_2.out) gb130 (Nat.le_of_eq hg.symm)) hb)
          have n3_ := Aside0.mk (blk_below (g := gb108) (o := .cells #[.int .i64 t106, .int .i64 t107] 32 (0, 0)) (by (with_reducible skip); exact BK108.out) hb)
          have n4_ := Aside0.mk (blk_below (g := gb121) (o := .cells #[.int .i64 t119, .int .i64 t120] 32 (0, 0)) (by (with_reducible skip); exact BK121.out) hb)
          have n5_ := Aside0.mk (blk_below (g := gb124) (o := .cells #[.int .i64 t122, .int .i64 t123] 32 (0, 0)) (by (with_reducible skip); exact BK124.out) hb)
          have n6_ := Aside0.mk (below_step (by repeat ((with_reducible (exact HB.out)))) hb)
          have n7_ := Aside0.mk (hbox)
          have n8_ := Aside0.mk ((by rw [hg]; exact (below_size (by repeat ((with_reducible (exact HB.out))))) : w.heap.size ≤ gb130))
          have n9_ := Aside0.mk ((by rw [hg]; exact (below_size (by repeat ((with_reducible (exact HB.out))))) : w.heap.size ≤ gb130))
          have n10_ := Aside0.mk ((by rw [hg]; exact Nat.ne_of_lt (blk_lt (g := gb108) (o := .cells #[.int .i64 t106, .int .i64 t107] 32 (0, 0)) (by (with_reducible skip); exact BK108.out)) : gb108 ≠ gb130))
          have n11_ := Aside0.mk ((by rw [hg]; exact Nat.ne_of_gt (blk_lt (g := gb108) (o := .cells #[.int .i64 t106, .int .i64 t107] 32 (0, 0)) (by (with_reducible skip); exact BK108.out)) : gb130 ≠ gb108))
          have n12_ := Aside0.mk ((by rw [hg]; exact Nat.ne_of_lt (blk_lt (g := gb121) (o := .cells #[.int .i64 t119, .int .i64 t120] 32 (0, 0)) (by (with_reducible skip); exact BK121.out)) : gb121 ≠ gb130))
          have n13_ := Aside0.mk ((by rw [hg]; exact Nat.ne_of_gt (blk_lt (g := gb121) (o := .cells #[.int .i64 t119, .int .i64 t120] 32 (0, 0)) (by (with_reducible skip); exact BK121.out)) : gb130 ≠ gb121))
          have n14_ := Aside0.mk ((by rw [hg]; exact Nat.ne_of_lt (blk_lt (g := gb124) (o := .cells #[.int .i64 t122, .int .i64 t123] 32 (0, 0)) (by (with_reducible skip); exact BK124.out)) : gb124 ≠ gb130))
          have n15_ := Aside0.mk ((by rw [hg]; exact Nat.ne_of_gt (blk_lt (g := gb124) (o := .cells #[.int .i64 t122, .int .i64 t123] 32 (0, 0)) (by (with_reducible skip); exact BK124.out)) : gb130 ≠ gb124))
          clear HO_0
          clear HO_1
          clear HO_2
          clear BK108
          clear BK121
          clear BK124
          clear HB
          have HO_0 := n0_
          have HO_1 := n1_
          have HO_2 := n2_
          have BK108 := n3_
          have BK121 := n4_
          have BK124 := n5_
          have HB := n6_
          have BK130 := n7_
          have GW130 := n8_
          have GE130 := n9_
          have NB108_130 := n10_
          have NB130_108 := n11_
          have NB121_130 := n12_
          have NB130_121 := n13_
          have NB124_130 := n14_
          have NB130_124 := n15_
          clear n0_ n1_ n2_ n3_ n4_ n5_ n6_ n7_ n8_ n9_ n10_ n11_ n12_ n13_ n14_ n15_
          clear hb hbox hg
          refine hK.out _ _ ⟨(blk_cell BK108.out 0).trans rfl, (blk_cell BK108.out 1).trans rfl⟩ (fun hHeld => ?_)
          clear hK K
          refine norm_ (a' := ?_) ?_ ?_
          rotate_left
          ·show Act.put _ (some 11) _ = _
           simp only [Act.put, List.setIfInBounds_toArray, List.set_cons_zero, List.set_cons_succ, i64_w, i32_w]
           rfl
          refine one_ (i := 0) (N := some 64) #[true, true, false, false, false, false, true, false, false] rfl rfl (one_of HT_.out (by kernel_rfl)) (by decide) (fun K hK => ?_)
          refine goes_ Tryd.func27 (by kernel_rfl) rfl #[.int .i64 1, .int .i64 1] (by rfl) rfl rfl (by (try simp only [List.map_toArray, List.map_cons, List.map_nil]); rfl) ?_
          with_reducible refine (cleanselaw04_of.calls 1 1 t125 t126 _ A57.out).mono ?_
          rintro e w76 ⟨rfl, hb⟩
          refine ⟨_, rfl, ?_⟩
          have n0_ := Aside0.mk (Kd.V_below (by (with_reducible skip); exact HO_0.out) hb)
          have n1_ := Aside0.mk (Kd.V_below (by (with_reducible skip); exact HO_1.out) hb)
          have n2_ := Aside0.mk (Kd.V_below (by (with_reducible skip); exact HO_2.out) hb)
          have n3_ := Aside0.mk (blk_below (g := gb108) (o := .cells #[.int .i64 t106, .int .i64 t107] 32 (0, 0)) (by (with_reducible skip); exact BK108.out) hb)
          have n4_ := Aside0.mk (blk_below (g := gb121) (o := .cells #[.int .i64 t119, .int .i64 t120] 32 (0, 0)) (by (with_reducible skip); exact BK121.out) hb)
          have n5_ := Aside0.mk (blk_below (g := gb124) (o := .cells #[.int .i64 t122, .int .i64 t123] 32 (0, 0)) (by (with_reducible skip); exact BK124.out) hb)
          have n6_ := Aside0.mk (blk_below (g := gb130) (o := .cells #[.int .i64 0, .int .i64 0] 32 (0, 0)) (by (with_reducible skip); exact BK130.out) hb)
          have n7_ := Aside0.mk (below_step (by repeat ((with_reducible (exact HB.out)))) hb)
          clear HO_0
          clear HO_1
          clear HO_2
          clear BK108
          clear BK121
          clear BK124
          clear BK130
          clear HB
          have HO_0 := n0_
          have HO_1 := n1_
          have HO_2 := n2_
          have BK108 := n3_
          have BK121 := n4_
          have BK124 := n5_
          have BK130 := n6_
          have HB := n7_
          clear n0_ n1_ n2_ n3_ n4_ n5_ n6_ n7_
          (try clear hb)
          refine hK.out _ _ ⟨(blk_cell BK108.out 0).trans rfl, (blk_cell BK108.out 1).trans rfl⟩ (fun hHeld => ?_)
          clear hK K
          refine norm_ (a' := ?_) ?_ ?_
          rotate_left
          ·show Act.put _ (some 64) _ = _
           simp only [Act.put, List.setIfInBounds_toArray, List.set_cons_zero, List.set_cons_succ, i64_w, i32_w]
           rfl
          refine one_ (i := 2) (N := some 66) #[true, true, true, false, false, false, true, false, false] rfl rfl (one_of HT_.out (by kernel_rfl)) (by decide) (fun K hK => ?_)
          refine goes_ Tryd.func32 (by kernel_rfl) rfl #[.agg #[.int .i64 t125, .int .i64 t126], .agg #[.int .i64 t106, .int .i64 t107]] (by rfl) rfl rfl (by (try simp only [List.map_toArray, List.map_cons, List.map_nil]); rfl) ?_
          with_reducible refine (ratio_Add.calls kj7 t125 t126 t106 t107 t127 t128 t129 _ A58.out).mono ?_
          rintro e w77 ⟨rfl, hb⟩
          refine ⟨_, rfl, ?_⟩
          have n0_ := Aside0.mk (Kd.V_below (by (with_reducible skip); exact HO_0.out) hb)
          have n1_ := Aside0.mk (Kd.V_below (by (with_reducible skip); exact HO_1.out) hb)
          have n2_ := Aside0.mk (Kd.V_below (by (with_reducible skip); exact HO_2.out) hb)
          have n3_ := Aside0.mk (blk_below (g := gb108) (o := .cells #[.int .i64 t106, .int .i64 t107] 32 (0, 0)) (by (with_reducible skip); exact BK108.out) hb)
          have n4_ := Aside0.mk (blk_below (g := gb121) (o := .cells #[.int .i64 t119, .int .i64 t120] 32 (0, 0)) (by (with_reducible skip); exact BK121.out) hb)
          have n5_ := Aside0.mk (blk_below (g := gb124) (o := .cells #[.int .i64 t122, .int .i64 t123] 32 (0, 0)) (by (with_reducible skip); exact BK124.out) hb)
          have n6_ := Aside0.mk (blk_below (g := gb130) (o := .cells #[.int .i64 0, .int .i64 0] 32 (0, 0)) (by (with_reducible skip); exact BK130.out) hb)
          have n7_ := Aside0.mk (below_step (by repeat ((with_reducible (exact HB.out)))) hb)
          clear HO_0
          clear HO_1
          clear HO_2
          clear BK108
          clear BK121
          clear BK124
          clear BK130
          clear HB
          have HO_0 := n0_
          have HO_1 := n1_
          have HO_2 := n2_
          have BK108 := n3_
          have BK121 := n4_
          have BK124 := n5_
          have BK130 := n6_
          have HB := n7_
          clear n0_ n1_ n2_ n3_ n4_ n5_ n6_ n7_
          (try clear hb)
          refine hK.out _ _ ⟨(blk_cell BK108.out 0).trans rfl, (blk_cell BK108.out 1).trans rfl⟩ (fun hHeld => ?_)
          clear hK K
          refine norm_ (a' := ?_) ?_ ?_
          rotate_left
          ·show Act.put _ (some 66) _ = _
           simp only [Act.put, List.setIfInBounds_toArray, List.set_cons_zero, List.set_cons_succ, i64_w, i32_w]
           rfl
          refine pure_ (i := 3) (N := some 63) (v := ?_) (a' := ?_) #[true, true, true, true, false, false, true, false, false] rfl rfl (any_of HT_.out (by kernel_rfl)) (fun _ _ _ h => h) (Or.inl ⟨by rfl, ?_⟩) ?_ ?_
          rotate_left
          ·intro w'
           go_simp
           with_reducible rfl
          rotate_left
          ·simp only [Act.put, List.setIfInBounds_toArray, List.set_cons_zero, List.set_cons_succ, i64_w, i32_w]
           rfl
          refine pure_ (i := 4) (N := some 67) (v := ?_) (a' := ?_) #[true, true, true, true, true, false, true, false, false] rfl rfl (any_of HT_.out (by kernel_rfl)) (fun _ _ _ h => h) (Or.inl ⟨by rfl, ?_⟩) ?_ ?_
          rotate_left
          ·intro w'
           go_simp
           with_reducible rfl
          rotate_left
          ·simp only [Act.put, List.setIfInBounds_toArray, List.set_cons_zero, List.set_cons_succ, i64_w, i32_w]
           rfl
          refine pure_ (i := 5) (N := some 68) (v := ?_) (a' := ?_) #[true, true, true, true, true, true, true, false, false] rfl rfl (any_of HT_.out (by kernel_rfl)) (fun _ _ _ h => h) (Or.inl ⟨by rfl, ?_⟩) ?_ ?_
          rotate_left
          ·intro w'
           go_simp
           with_reducible rfl
          rotate_left
          ·simp only [Act.put, List.setIfInBounds_toArray, List.set_cons_zero, List.set_cons_succ, i64_w, i32_w]
           rfl
          exact norm_ (by simp only [putAll, Act.put, List.setIfInBounds_toArray, List.set_cons_zero, List.set_cons_succ]) (hCont (gb130) _ ⟨hHeld, (by (with_reducible skip); exact Kd.V_mono HO_0.out (fun _ hk => ⟨hk.1.1, ⟨hk.1.2.1, ⟨hk.1.2.2.1, ⟨hk.1.2.2.2, hk.2⟩⟩⟩⟩)), (by (with_reducible skip); exact Kd.V_mono HO_1.out (fun _ hk => ⟨hk.1.1, ⟨hk.1.2.1, ⟨hk.1.2.2.1, ⟨hk.1.2.2.2, hk.2⟩⟩⟩⟩)), (by (with_reducible skip); exact Kd.V_mono HO_2.out (fun _ hk => ⟨hk.1.1, ⟨hk.1.2.1, ⟨hk.1.2.2.1, ⟨hk.1.2.2.2, hk.2⟩⟩⟩⟩)), (by (with_reducible skip); exact BK108.out), (by (with_reducible skip); exact BK121.out), (by (with_reducible skip); exact BK124.out), (by (with_reducible skip); exact BK130.out), GW130.out, GE130.out, NB108_130.out, NB130_108.out, NB121_130.out, NB130_121.out, NB124_130.out, NB130_124.out, (by repeat ((with_reducible (exact HB.out))))⟩)
        rintro gb130 w78 ⟨hS_, h0_, h1_, h2_, h3_, h4_, h5_, h6_, h7_, h8_, h9_, h10_, h11_, h12_, h13_, h14_, h15_⟩
        have n0_ : Aside0 (Kd.V Kd.string 9 w78 w.heap.size (fun k_ => ((P0_ k_ ∨ P1_ k_ ∨ P2_ k_) ∨ w.heap.size ≤ k_) ∧ k_ ≠ gb108 ∧ k_ ≠ gb121 ∧ k_ ≠ gb124 ∧ k_ ≠ gb130) (.slice A0 l0.length c0) l0) := ⟨h0_⟩
        have n1_ : Aside0 (Kd.V Kd.string 9 w78 w.heap.size (fun k_ => ((P0_ k_ ∨ P1_ k_ ∨ P2_ k_) ∨ w.heap.size ≤ k_) ∧ k_ ≠ gb108 ∧ k_ ≠ gb121 ∧ k_ ≠ gb124 ∧ k_ ≠ gb130) (.slice A1 l1.length c1) l1) := ⟨h1_⟩
        have n2_ : Aside0 (Kd.V Kd.string 9 w78 w.heap.size (fun k_ => ((P0_ k_ ∨ P1_ k_ ∨ P2_ k_) ∨ w.heap.size ≤ k_) ∧ k_ ≠ gb108 ∧ k_ ≠ gb121 ∧ k_ ≠ gb124 ∧ k_ ≠ gb130) (.slice A2 l2.length c2) l2) := ⟨h2_⟩
        have n3_ : Aside0 (w78.heap[gb108]? = some (.cells #[.int .i64 t106, .int .i64 t107] 32 (0, 0))) := ⟨h3_⟩
        have n4_ : Aside0 (w78.heap[gb121]? = some (.cells #[.int .i64 t119, .int .i64 t120] 32 (0, 0))) := ⟨h4_⟩
        have n5_ : Aside0 (w78.heap[gb124]? = some (.cells #[.int .i64 t122, .int .i64 t123] 32 (0, 0))) := ⟨h5_⟩
        have n6_ : Aside0 (w78.heap[gb130]? = some (.cells #[.int .i64 0, .int .i64 0] 32 (0, 0))) := ⟨h6_⟩
        have n7_ : Aside0 (w.heap.size ≤ gb130) := ⟨h7_⟩
        have n8_ : Aside0 (w.heap.size ≤ gb130) := ⟨h8_⟩
        have n9_ : Aside0 (gb108 ≠ gb130) := ⟨h9_⟩
        have n10_ : Aside0 (gb130 ≠ gb108) := ⟨h10_⟩
        have n11_ : Aside0 (gb121 ≠ gb130) := ⟨h11_⟩
        have n12_ : Aside0 (gb130 ≠ gb121) := ⟨h12_⟩
        have n13_ : Aside0 (gb124 ≠ gb130) := ⟨h13_⟩
        have n14_ : Aside0 (gb130 ≠ gb124) := ⟨h14_⟩
        have n15_ : Aside0 (Below w.heap.size w w78) := ⟨h15_⟩
        clear HO_0
        clear HO_1
        clear HO_2
        clear BK108
        clear BK121
        clear BK124
        clear HB
        clear h0_ h1_ h2_ h3_ h4_ h5_ h6_ h7_ h8_ h9_ h10_ h11_ h12_ h13_ h14_ h15_
        have HO_0 := n0_
        have HO_1 := n1_
        have HO_2 := n2_
        have BK108 := n3_
        have BK121 := n4_
        have BK124 := n5_
        have BK130 := n6_
        have GW130 := n7_
        have GE130 := n8_
        have NB108_130 := n9_
        have NB130_108 := n10_
        have NB121_130 := n11_
        have NB130_121 := n12_
        have NB124_130 := n13_
        have NB130_124 := n14_
        have HB := n15_
        clear n0_ n1_ n2_ n3_ n4_ n5_ n6_ n7_ n8_ n9_ n10_ n11_ n12_ n13_ n14_ n15_
        have hHeld : w78.cell? ⟨gb108, 0, none⟩ = some (.int .i64 t106) ∧ w78.cell? ⟨gb108, 1, none⟩ = some (.int .i64 t107) := hS_
        refine norm_ (a' := ?_) ?_ ?_
        rotate_left
        ·simp only [putAll, Act.put, List.setIfInBounds_toArray, List.set_cons_zero, List.set_cons_succ]
         rfl
        refine one_ (i := 7) (N := none) #[true, true, true, true, true, true, true, true, false] rfl rfl (one_of HT_.out (by kernel_rfl)) (by decide) (fun K hK => ?_)
        have hs79 : w78.cell? ⟨gb130, 0, none⟩ = some (.int .i64 0) := (blk_cell BK130.out 0).trans rfl
        have hfs79 := blk_frozen BK130.out 0
        have hns79_0 := NB108_130.out
        have hns79_1 := NB121_130.out
        have hns79_2 := NB124_130.out
        have hms79_0 := NB130_108.out
        have hms79_1 := NB130_121.out
        have hms79_2 := NB130_124.out
        have hs80 : w78.cell? ⟨gb130, 1, none⟩ = some (.int .i64 0) := (blk_cell BK130.out 1).trans rfl
        have hfs80 := blk_frozen BK130.out 1
        have hns80_0 := NB108_130.out
        have hns80_1 := NB121_130.out
        have hns80_2 := NB124_130.out
        have hms80_0 := NB130_108.out
        have hms80_1 := NB130_121.out
        have hms80_2 := NB130_124.out
        refine skip_ (w1 := ?_) (by rfl) rfl ?_ ?_
        rotate_left
        ·go_simp
         rfl
        refine hK.out _ _ ⟨((cell_far (p := ⟨gb130, _, none⟩) NB108_130.out _).trans (((cell_far (p := ⟨gb130, _, none⟩) NB108_130.out _).trans (hHeld.1)))), ((cell_far (p := ⟨gb130, _, none⟩) NB108_130.out _).trans (((cell_far (p := ⟨gb130, _, none⟩) NB108_130.out _).trans (hHeld.2))))⟩ (fun hHeld => ?_)
        clear hK K
        refine pure_ (i := 8) (N := some 12) (v := ?_) (a' := ?_) #[true, true, true, true, true, true, true, true, true] rfl rfl (any_of HT_.out (by kernel_rfl)) (fun _ _ _ h => h) (Or.inl ⟨by rfl, ?_⟩) ?_ ?_
        rotate_left
        ·intro w'
         go_simp
         with_reducible rfl
        rotate_left
        ·simp only [Act.put, List.setIfInBounds_toArray, List.set_cons_zero, List.set_cons_succ, i64_w, i32_w]
         rfl
        refine done_ (done_of HT_.out (by kernel_rfl)) ?_
        have hnb81 := NB121_130.out
        have hnc81 := NB130_121.out
        have hcz82_0 : w78.cell? ⟨gb121, 0, none⟩ = some (.int .i64 t119) := (blk_cell BK121.out 0).trans rfl
        have hcz82_1 : w78.cell? ⟨gb121, 1, none⟩ = some (.int .i64 t120) := (blk_cell BK121.out 1).trans rfl
        have hfz82_0 := blk_frozen BK121.out 0
        have hfz82_1 := blk_frozen BK121.out 1
        have hnb83 := NB124_130.out
        have hnc83 := NB130_124.out
        have hcz84_0 : w78.cell? ⟨gb124, 0, none⟩ = some (.int .i64 t122) := (blk_cell BK124.out 0).trans rfl
        have hcz84_1 : w78.cell? ⟨gb124, 1, none⟩ = some (.int .i64 t123) := (blk_cell BK124.out 1).trans rfl
        have hfz84_0 := blk_frozen BK124.out 0
        have hfz84_1 := blk_frozen BK124.out 1
        try go_wp2_with (first | ((with_reducible refine gate_callee (f := 32) rfl ?_); refine goesL_ (some 72) rfl rfl Tryd.func32 (by kernel_rfl) rfl #[.agg #[.int .i64 t119, .int .i64 t120], .agg #[.int .i64 t122, .int .i64 t123]] rfl (by (try simp only [List.map_toArray, List.map_cons, List.map_nil]); rfl) ?_; (with_reducible refine (ratio_Add.calls kj7 t119 t120 t122 t123 t131 t132 t133 _ A59.out).mono ?_); rintro e w85 ⟨rfl, hb⟩; refine ⟨_, rfl, ?_⟩; have n0_ := Aside0.mk (Kd.V_below (by (with_reducible skip); exact (Kd.V_mono (Kd.V_far (p := ⟨gb130, 1, none⟩) (Kd.V_far (p := ⟨gb130, 0, none⟩) (Kd.V_mono HO_0.out (fun k_ hk => (⟨hk, hk.2.2.2.2⟩ : _ ∧ k_ ≠ gb130))) (fun _ hk => hk.2) (.int .i64 t127)) (fun _ hk => hk.2) (.int .i64 t128)) (fun _ h_ => h_.1))) hb); have n1_ := Aside0.mk (Kd.V_below (by (with_reducible skip); exact (Kd.V_mono (Kd.V_far (p := ⟨gb130, 1, none⟩) (Kd.V_far (p := ⟨gb130, 0, none⟩) (Kd.V_mono HO_1.out (fun k_ hk => (⟨hk, hk.2.2.2.2⟩ : _ ∧ k_ ≠ gb130))) (fun _ hk => hk.2) (.int .i64 t127)) (fun _ hk => hk.2) (.int .i64 t128)) (fun _ h_ => h_.1))) hb); have n2_ := Aside0.mk (Kd.V_below (by (with_reducible skip); exact (Kd.V_mono (Kd.V_far (p := ⟨gb130, 1, none⟩) (Kd.V_far (p := ⟨gb130, 0, none⟩) (Kd.V_mono HO_2.out (fun k_ hk => (⟨hk, hk.2.2.2.2⟩ : _ ∧ k_ ≠ gb130))) (fun _ hk => hk.2) (.int .i64 t127)) (fun _ hk => hk.2) (.int .i64 t128)) (fun _ h_ => h_.1))) hb); have n3_ := Aside0.mk (blk_below (g := gb108) (o := .cells #[.int .i64 t106, .int .i64 t107] 32 (0, 0)) (by (with_reducible skip); refine blk_far ?_ NB108_130.out _; (with_reducible skip); refine blk_far ?_ NB108_130.out _; (with_reducible skip); exact BK108.out) hb); have n4_ := Aside0.mk (blk_below (g := gb121) (o := .cells #[.int .i64 t119, .int .i64 t120] 32 (0, 0)) (by (with_reducible skip); refine blk_far ?_ NB121_130.out _; (with_reducible skip); refine blk_far ?_ NB121_130.out _; (with_reducible skip); exact BK121.out) hb); have n5_ := Aside0.mk (blk_below (g := gb124) (o := .cells #[.int .i64 t122, .int .i64 t123] 32 (0, 0)) (by (with_reducible skip); refine blk_far ?_ NB124_130.out _; (with_reducible skip); refine blk_far ?_ NB124_130.out _; (with_reducible skip); exact BK124.out) hb); have n6_ := Aside0.mk (blk_below (g := gb130) (o := .cells #[.int .i64 t127, .int .i64 t128] 32 (0, 0)) (by (with_reducible skip); refine blk_put (cs := #[.int .i64 t127, .int .i64 0]) ?_ 1 _ rfl; (with_reducible skip); refine blk_put (cs := #[.int .i64 0, .int .i64 0]) ?_ 0 _ rfl; (with_reducible skip); exact BK130.out) hb); have n7_ := Aside0.mk (below_step (by repeat ((with_reducible first | exact HB.out | refine below_set ?_ GE130.out))) hb); clear HO_0; clear HO_1; clear HO_2; clear BK108; clear BK121; clear BK124; clear BK130; clear HB; have HO_0 := n0_; have HO_1 := n1_; have HO_2 := n2_; have BK108 := n3_; have BK121 := n4_; have BK124 := n5_; have BK130 := n6_; have HB := n7_; clear n0_ n1_ n2_ n3_ n4_ n5_ n6_ n7_; (try clear hb)) | ((with_reducible refine gate_dst (N := 13) rfl ?_); (try (refine gate_guard (by rfl) ?_; dsimp only)); refine box_event ?hg (N := 13) ?hd (cs := #[.int .i64 0, .int .i64 0]) (t := 32) ?hr ?_; (case hd => rfl); (case hg => rfl); (case hr => (go_simp; done)); intro gb134 hg w86 hbox hb; have n0_ := Aside0.mk (Kd.V_below (Kd.V_elderB (by (with_reducible skip); exact HO_0.out) gb134 (Nat.le_of_eq hg.symm)) hb); have n1_ := Aside0.mk (Kd.V_below (Kd.V_elderB (by (with_reducible skip); exact HO_1.out) gb134 (Nat.le_of_eq hg.symm)) hb); have n2_ := Aside0.mk (Kd.V_below (Kd.V_elderB (by (with_reducible skip); exact HO_2.out) gb134 (Nat.le_of_eq hg.symm)) hb); have n3_ := Aside0.mk (blk_below (g := gb108) (o := .cells #[.int .i64 t106, .int .i64 t107] 32 (0, 0)) (by (with_reducible skip); exact BK108.out) hb); have n4_ := Aside0.mk (blk_below (g := gb121) (o := .cells #[.int .i64 t119, .int .i64 t120] 32 (0, 0)) (by (with_reducible skip); exact BK121.out) hb); have n5_ := Aside0.mk (blk_below (g := gb124) (o := .cells #[.int .i64 t122, .int .i64 t123] 32 (0, 0)) (by (with_reducible skip); exact BK124.out) hb); have n6_ := Aside0.mk (blk_below (g := gb130) (o := .cells #[.int .i64 t127, .int .i64 t128] 32 (0, 0)) (by (with_reducible skip); exact BK130.out) hb); have n7_ := Aside0.mk (below_step (by repeat ((with_reducible (exact HB.out)))) hb); have n8_ := Aside0.mk (hbox); have n9_ := Aside0.mk ((by rw [hg]; exact (below_size (by repeat ((with_reducible (exact HB.out))))) : w.heap.size ≤ gb134)); have n10_ := Aside0.mk ((by rw [hg]; exact (below_size (by repeat ((with_reducible (exact HB.out))))) : w.heap.size ≤ gb134)); have n11_ := Aside0.mk ((by rw [hg]; exact Nat.ne_of_lt (blk_lt (g := gb108) (o := .cells #[.int .i64 t106, .int .i64 t107] 32 (0, 0)) (by (with_reducible skip); exact BK108.out)) : gb108 ≠ gb134)); have n12_ := Aside0.mk ((by rw [hg]; exact Nat.ne_of_gt (blk_lt (g := gb108) (o := .cells #[.int .i64 t106, .int .i64 t107] 32 (0, 0)) (by (with_reducible skip); exact BK108.out)) : gb134 ≠ gb108)); have n13_ := Aside0.mk ((by rw [hg]; exact Nat.ne_of_lt (blk_lt (g := gb121) (o := .cells #[.int .i64 t119, .int .i64 t120] 32 (0, 0)) (by (with_reducible skip); exact BK121.out)) : gb121 ≠ gb134)); have n14_ := Aside0.mk ((by rw [hg]; exact Nat.ne_of_gt (blk_lt (g := gb121) (o := .cells #[.int .i64 t119, .int .i64 t120] 32 (0, 0)) (by (with_reducible skip); exact BK121.out)) : gb134 ≠ gb121)); have n15_ := Aside0.mk ((by rw [hg]; exact Nat.ne_of_lt (blk_lt (g := gb124) (o := .cells #[.int .i64 t122, .int .i64 t123] 32 (0, 0)) (by (with_reducible skip); exact BK124.out)) : gb124 ≠ gb134)); have n16_ := Aside0.mk ((by rw [hg]; exact Nat.ne_of_gt (blk_lt (g := gb124) (o := .cells #[.int .i64 t122, .int .i64 t123] 32 (0, 0)) (by (with_reducible skip); exact BK124.out)) : gb134 ≠ gb124)); have n17_ := Aside0.mk ((by rw [hg]; exact Nat.ne_of_lt (blk_lt (g := gb130) (o := .cells #[.int .i64 t127, .int .i64 t128] 32 (0, 0)) (by (with_reducible skip); exact BK130.out)) : gb130 ≠ gb134)); have n18_ := Aside0.mk ((by rw [hg]; exact Nat.ne_of_gt (blk_lt (g := gb130) (o := .cells #[.int .i64 t127, .int .i64 t128] 32 (0, 0)) (by (with_reducible skip); exact BK130.out)) : gb134 ≠ gb130)); clear HO_0; clear HO_1; clear HO_2; clear BK108; clear BK121; clear BK124; clear BK130; clear HB; have HO_0 := n0_; have HO_1 := n1_; have HO_2 := n2_; have BK108 := n3_; have BK121 := n4_; have BK124 := n5_; have BK130 := n6_; have HB := n7_; have BK134 := n8_; have GW134 := n9_; have GE134 := n10_; have NB108_134 := n11_; have NB134_108 := n12_; have NB121_134 := n13_; have NB134_121 := n14_; have NB124_134 := n15_; have NB134_124 := n16_; have NB130_134 := n17_; have NB134_130 := n18_; clear n0_ n1_ n2_ n3_ n4_ n5_ n6_ n7_ n8_ n9_ n10_ n11_ n12_ n13_ n14_ n15_ n16_ n17_ n18_; clear hb hbox hg; have hnb87 := NB134_108.out; have hnc87 := NB108_134.out; have hnb88 := NB134_121.out; have hnc88 := NB121_134.out; have hnb89 := NB134_124.out; have hnc89 := NB124_134.out; have hnb90 := NB134_130.out; have hnc90 := NB130_134.out; have hcz91_0 : w86.cell? ⟨gb134, 0, none⟩ = some (.int .i64 0) := (blk_cell BK134.out 0).trans rfl; have hcz91_1 : w86.cell? ⟨gb134, 1, none⟩ = some (.int .i64 0) := (blk_cell BK134.out 1).trans rfl; have hfz91_0 := blk_frozen BK134.out 0; have hfz91_1 := blk_frozen BK134.out 1; have hnb92 := NB130_108.out; have hnc92 := NB108_130.out; have hcz93_0 : w86.cell? ⟨gb130, 0, none⟩ = some (.int .i64 t127) := (blk_cell BK130.out 0).trans rfl; have hcz93_1 : w86.cell? ⟨gb130, 1, none⟩ = some (.int .i64 t128) := (blk_cell BK130.out 1).trans rfl; have hfz93_0 := blk_frozen BK130.out 0; have hfz93_1 := blk_frozen BK130.out 1) | (go_at_call 28; (with_reducible refine (ratio_Cmp.calls kj7 t127 t128 t131 t132 t135 _ A63.out).mono ?_); rintro e w94 ⟨rfl, hb⟩; have n0_ := Aside0.mk (Kd.V_below (by (with_reducible skip); exact (Kd.V_mono (Kd.V_far (p := ⟨gb134, 1, none⟩) (Kd.V_far (p := ⟨gb134, 0, none⟩) (Kd.V_mono HO_0.out (fun k_ hk => (⟨hk, hk.2⟩ : _ ∧ k_ ≠ gb134))) (fun _ hk => hk.2) (.int .i64 t131)) (fun _ hk => hk.2) (.int .i64 t132)) (fun _ h_ => h_.1))) hb); have n1_ := Aside0.mk (Kd.V_below (by (with_reducible skip); exact (Kd.V_mono (Kd.V_far (p := ⟨gb134, 1, none⟩) (Kd.V_far (p := ⟨gb134, 0, none⟩) (Kd.V_mono HO_1.out (fun k_ hk => (⟨hk, hk.2⟩ : _ ∧ k_ ≠ gb134))) (fun _ hk => hk.2) (.int .i64 t131)) (fun _ hk => hk.2) (.int .i64 t132)) (fun _ h_ => h_.1))) hb); have n2_ := Aside0.mk (Kd.V_below (by (with_reducible skip); exact (Kd.V_mono (Kd.V_far (p := ⟨gb134, 1, none⟩) (Kd.V_far (p := ⟨gb134, 0, none⟩) (Kd.V_mono HO_2.out (fun k_ hk => (⟨hk, hk.2⟩ : _ ∧ k_ ≠ gb134))) (fun _ hk => hk.2) (.int .i64 t131)) (fun _ hk => hk.2) (.int .i64 t132)) (fun _ h_ => h_.1))) hb); have n3_ := Aside0.mk (blk_below (g := gb108) (o := .cells #[.int .i64 t106, .int .i64 t107] 32 (0, 0)) (by (with_reducible skip); refine blk_far ?_ NB108_134.out _; (with_reducible skip); refine blk_far ?_ NB108_134.out _; (with_reducible skip); exact BK108.out) hb); have n4_ := Aside0.mk (blk_below (g := gb121) (o := .cells #[.int .i64 t119, .int .i64 t120] 32 (0, 0)) (by (with_reducible skip); refine blk_far ?_ NB121_134.out _; (with_reducible skip); refine blk_far ?_ NB121_134.out _; (with_reducible skip); exact BK121.out) hb); have n5_ := Aside0.mk (blk_below (g := gb124) (o := .cells #[.int .i64 t122, .int .i64 t123] 32 (0, 0)) (by (with_reducible skip); refine blk_far ?_ NB124_134.out _; (with_reducible skip); refine blk_far ?_ NB124_134.out _; (with_reducible skip); exact BK124.out) hb); have n6_ := Aside0.mk (blk_below (g := gb130) (o := .cells #[.int .i64 t127, .int .i64 t128] 32 (0, 0)) (by (with_reducible skip); refine blk_far ?_ NB130_134.out _; (with_reducible skip); refine blk_far ?_ NB130_134.out _; (with_reducible skip); exact BK130.out) hb); have n7_ := Aside0.mk (blk_below (g := gb134) (o := .cells #[.int .i64 t131, .int .i64 t132] 32 (0, 0)) (by (with_reducible skip); refine blk_put (cs := #[.int .i64 t131, .int .i64 0]) ?_ 1 _ rfl; (with_reducible skip); refine blk_put (cs := #[.int .i64 0, .int .i64 0]) ?_ 0 _ rfl; (with_reducible skip); exact BK134.out) hb); have n8_ := Aside0.mk (below_step (by repeat ((with_reducible first | exact HB.out | refine below_set ?_ GE134.out))) hb); clear HO_0; clear HO_1; clear HO_2; clear BK108; clear BK121; clear BK124; clear BK130; clear BK134; clear HB; have HO_0 := n0_; have HO_1 := n1_; have HO_2 := n2_; have BK108 := n3_; have BK121 := n4_; have BK124 := n5_; have BK130 := n6_; have BK134 := n7_; have HB := n8_; clear n0_ n1_ n2_ n3_ n4_ n5_ n6_ n7_ n8_; (try clear hb)))
        go_ret
        exact ⟨by rfl, by repeat ((with_reducible (exact HB.out)))⟩
       ·rw [if_neg c62] at H
        have c62b0 : (t133 == 0) = false := beq_eq_false_iff_ne.mpr c62
        have c62b1 : (t133 != 0) = true := bne_iff_ne.mpr c62
        exact absurd ((Option.some.inj H).trans HT.out) (by decide)
      ·rw [if_neg c61] at H
       have c61b0 : (t129 == 0) = false := beq_eq_false_iff_ne.mpr c61
       have c61b1 : (t129 != 0) = true := bne_iff_ne.mpr c61
       exact absurd ((Option.some.inj H).trans HT.out) (by decide)
     ·replace c60 := Bool.eq_false_iff.mpr c60
      subst c60
      have H1 : (some false) = some r := by rw [if_neg (show ¬ (false = true) by decide)] at H; exact H
      clear H
      have H := H1
      clear H1
      exact absurd ((Option.some.inj H).trans HT.out) (by decide)
 ·replace c6 := Bool.eq_false_iff.mpr c6
  subst c6
  have H1 : (some t101) = some r := by rw [if_neg (show ¬ (false = true) by decide)] at H; exact H
  clear H
  have H := H1
  clear H1
  obtain rfl := Option.some.inj H
  go_enter Tryd.func10, Tryd.ntmps10
  go_wp2_with (first | ((with_reducible refine gate_callee (f := 11) rfl ?_); refine goesL_ (some 15) rfl rfl Tryd.func11 (by kernel_rfl) rfl #[] rfl (by (try simp only [List.map_toArray, List.map_cons, List.map_nil]); done) ?_; (with_reducible refine (cleanselaw04_head.calls  t101 _ ?sGl A4.out).mono ?_); (case sGl => exact Gl.below HGl.out (by repeat ((with_reducible (exact HB.out))))); rintro e w95 ⟨rfl, hb⟩; refine ⟨_, rfl, ?_⟩; have n0_ := Aside0.mk (Kd.V_below (by (with_reducible skip); exact HO0.out) hb); have n1_ := Aside0.mk (Kd.V_below (by (with_reducible skip); exact HO1.out) hb); have n2_ := Aside0.mk (Kd.V_below (by (with_reducible skip); exact HO2.out) hb); have n3_ := Aside0.mk (below_step (by repeat ((with_reducible (exact HB.out)))) hb); clear HO0; clear HO1; clear HO2; clear HB; have HO0 := n0_; have HO1 := n1_; have HO2 := n2_; have HB := n3_; clear n0_ n1_ n2_ n3_; (try clear hb)) | ((with_reducible refine gate_dst (N := 19) rfl ?_); (try (refine gate_guard (by rfl) ?_; dsimp only)); refine Kd.N_lit (Kd.slice 9 Kd.string) _ 22 ?hg (N' := 19) ?hd (xs := ([l0, l1, l2] : List (List ByteArray))) (inner := [.slice A0 l0.length c0, .slice A1 l1.length c1, .slice A2 l2.length c2]) (ok := (fun k_ => ((P0_ k_ ∨ P1_ k_ ∨ P2_ k_) ∨ w.heap.size ≤ k_))) (okp := (fun k_ => ((P0_ k_ ∨ P1_ k_ ∨ P2_ k_) ∨ w.heap.size ≤ k_))) ?hr ?hp (fun _ hk => hk) ((show ∀ k_, w95.heap.size ≤ k_ → (fun k_ => ((P0_ k_ ∨ P1_ k_ ∨ P2_ k_) ∨ w.heap.size ≤ k_)) k_ from fun k_ hk => (.inr (Nat.le_trans (below_size (by repeat ((with_reducible (exact HB.out))))) hk))) _ (Nat.le_refl _)) (Below.refl _ _) (Nat.le_refl _) (by simp) ?_; (case hd => rfl); (case hg => rfl); (case hr => (go_simp; done)); (case hp => (exact (Reps.one (show Kd.FK (Kd.slice 9 Kd.string) _ _ l0 [.slice A0 l0.length c0] from (Kd.FK_slice_mk (Kd.V_reads' (Kd.V_mono (ok' := (fun k_ => ((P0_ k_ ∨ P1_ k_ ∨ P2_ k_) ∨ w.heap.size ≤ k_))) (HO0.out) (fun k_ hk => hk))).2.1 (Kd.V_F (Kd.V_mono (ok' := (fun k_ => ((P0_ k_ ∨ P1_ k_ ∨ P2_ k_) ∨ w.heap.size ≤ k_))) (HO0.out) (fun k_ hk => hk))))) (Reps.one (show Kd.FK (Kd.slice 9 Kd.string) _ _ l1 [.slice A1 l1.length c1] from (Kd.FK_slice_mk (Kd.V_reads' (Kd.V_mono (ok' := (fun k_ => ((P0_ k_ ∨ P1_ k_ ∨ P2_ k_) ∨ w.heap.size ≤ k_))) (HO1.out) (fun k_ hk => hk))).2.1 (Kd.V_F (Kd.V_mono (ok' := (fun k_ => ((P0_ k_ ∨ P1_ k_ ∨ P2_ k_) ∨ w.heap.size ≤ k_))) (HO1.out) (fun k_ hk => hk))))) (Reps.one (show Kd.FK (Kd.slice 9 Kd.string) _ _ l2 [.slice A2 l2.length c2] from (Kd.FK_slice_mk (Kd.V_reads' (Kd.V_mono (ok' := (fun k_ => ((P0_ k_ ∨ P1_ k_ ∨ P2_ k_) ∨ w.heap.size ≤ k_))) (HO2.out) (fun k_ hk => hk))).2.1 (Kd.V_F (Kd.V_mono (ok' := (fun k_ => ((P0_ k_ ∨ P1_ k_ ∨ P2_ k_) ∨ w.heap.size ≤ k_))) (HO2.out) (fun k_ hk => hk))))) (Reps.none _ _)))))); intro v103 w96 ho97 hb hg_ hnew_; clear hg_ hnew_; ((rw [← Ny102.out] at ho97)); have n0_ := Aside0.mk (Kd.V_elder' (by (with_reducible skip); exact HO0.out) (Kd.N_base ho97) hb); have n1_ := Aside0.mk (Kd.V_elder' (by (with_reducible skip); exact HO1.out) (Kd.N_base ho97) hb); have n2_ := Aside0.mk (Kd.V_elder' (by (with_reducible skip); exact HO2.out) (Kd.N_base ho97) hb); have n3_ := Aside0.mk (Kd.N_lower ho97 (below_size (by repeat ((with_reducible (exact HB.out)))))); have n4_ := Aside0.mk (below_step (by repeat ((with_reducible (exact HB.out)))) hb); clear HO0; clear HO1; clear HO2; clear HB; have HO0 := n0_; have HO1 := n1_; have HO2 := n2_; have HO104 := n3_; have HB := n4_; clear n0_ n1_ n2_ n3_ n4_; clear hb ho97; obtain ⟨Ao98, co98, eo98⟩ := Kd.N_slice HO104.out; subst eo98) | ((with_reducible refine gate_callee (f := 29) rfl ?_); refine goesL_ (some 20) rfl rfl Tryd.func29 (by kernel_rfl) rfl #[.slice Ao98 y102.length co98] rfl (by (try simp only [List.map_toArray, List.map_cons, List.map_nil]); rfl) ?_; (with_reducible refine (cleanseref04_Few.calls k _ _ y102 false _ ?side1 ?side2 A5.out).mono ?_); (case side1 => repeat ((exact (Kd.N_reads' HO104.out).2.2))); (case side2 => exact (Kd.N_reads' HO104.out).2.1); rintro e w' ⟨rfl, ⟨nd, rfl⟩⟩; refine ⟨_, rfl, ?_⟩))
  go_ret
  exact ⟨by rfl, by repeat ((with_reducible first | exact HB.out | apply pw_below_drewN))⟩

end Go.Proofs.YtgomlpndoolllaaDoor.LSets

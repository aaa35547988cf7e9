-- Printed by a program of this session out of the translation (wip/tools/qprint.sh); Lean checks it.
import Derived.Test.YtgomlpndoolllaaDoorHD0
import Derived.Test.YtgomlpndoolllaaDoorHD1
import Derived.Test.YtgomlpndoolllaaDoorD1
import Derived.Test.YtgomlpndoolllaaDoorD3
import Derived.Test.YtgomlpndoolllaaDoorQ10
import Derived.Test.YtgomlpndoolllaaDoorQ3
import Derived.Test.YtgomlpndoolllaaDoorQ6
import Derived.Test.YtgomlpndoolllaaDoorQ7
import Derived.Test.YtgomlpndoolllaaDoorQ8
namespace Go.Proofs.YtgomlpndoolllaaDoor.HD
open Go.RowKit Go.Proofs.YtgomlpndoolllaaDoor.Q Go.Proofs.YtgomlpndoolllaaDoorW.PrintWords Go.Proofs.YtgomlpndoolllaaDoorW.PrintLast Go.Proofs.YtgomlpndoolllaaDoorW.PrintMore
attribute [local go_sem] max2_int min2_int max_two min_two max_three min_three max_four min_four   -- for this text's walks alone
set_option linter.unusedVariables false
set_option linter.unusedSimpArgs false

attribute [local go_sem high] eqA32
/-! ### cleanselaw04_head: function 11 -/
mutual
def cleanselaw04_head.j0 : Nat → Bool → Option (Bool)
  | 0, _ => none
  | k + 1, x1 => (measure_Jaccard.f k (([(⟨#[97]⟩ : ByteArray), (⟨#[98]⟩ : ByteArray)] : List ByteArray)) (([(⟨#[98]⟩ : ByteArray), (⟨#[99]⟩ : ByteArray), (⟨#[100]⟩ : ByteArray)] : List ByteArray))).bind fun bt117 => ((cleanselaw04_of.f 1 4).bind fun bt119 => (if (bt117.1 == bt119.1 && (bt117.2 == bt119.2)) = true then ((measure_Jaro.f k (⟨#[109, 97, 114, 116, 104, 97]⟩ : ByteArray) (⟨#[109, 97, 114, 104, 116, 97]⟩ : ByteArray)).bind fun bt121 => ((cleanselaw04_of.f 17 18).bind fun bt123 => (if (bt121.1 == bt123.1 && (bt121.2 == bt123.2)) = true then ((measure_Jaro.f k (⟨#[100, 105, 120, 111, 110]⟩ : ByteArray) (⟨#[100, 105, 99, 107, 115, 111, 110, 120]⟩ : ByteArray)).bind fun bt125 => ((cleanselaw04_of.f 23 30).bind fun bt127 => (cleanselaw04_head.j1 k x1 (bt125.1 == bt127.1 && (bt125.2 == bt127.2))))) else (cleanselaw04_head.j1 k x1 false)))) else (cleanselaw04_head.j1 k x1 false)))
def cleanselaw04_head.j1 : Nat → Bool → Bool → Option (Bool)
  | 0, _, _ => none
  | k + 1, x1, x2 => (cleanselaw04_text.f (⟨#[65, 110, 110, 32, 76, 101, 101]⟩ : ByteArray)).bind fun bt129 => ((cleanselaw04_text.f (⟨#[76, 69, 69, 44, 32, 65, 110, 110]⟩ : ByteArray)).bind fun bt132 => ((measure_Of.f k 3 0 bt129.1 bt129.2.1 bt129.2.2 bt132.1 bt132.2.1 bt132.2.2).bind fun bt135 => ((cleanselaw04_text.f (⟨#[120]⟩ : ByteArray)).bind fun bt139 => ((measure_Of.f k 2 0 bt139.1 bt139.2.1 bt139.2.2 2 0 (⟨#[]⟩ : ByteArray)).bind fun bt142 => (if x1 = true then (if x2 = true then ((measure_Near.f k 10 12 3).bind fun bt146 => ((cleanselaw04_of.f 1 2).bind fun bt148 => (if (bt146.1 == bt148.1 && (bt146.2 == bt148.2)) = true then ((measure_Near.f k 10 14 3).bind fun bt150 => ((cleanselaw04_of.f 0 1).bind fun bt152 => (if (bt150.1 == bt152.1 && (bt150.2 == bt152.2)) = true then ((cleanselaw04_of.f 1 1).bind fun bt154 => (if (bt135.1 == bt154.1 && (bt135.2.1 == bt154.2)) = true then (if bt135.2.2 = 0 then (some (bt142.2.2 == 10)) else (some false)) else (some false))) else (some false)))) else (some false)))) else (some false)) else (some false))))))
end
def cleanselaw04_head.f (k : Nat)  : Option (Bool) := (measure_Edit.f k (⟨#[107, 105, 116, 116, 101, 110]⟩ : ByteArray) (⟨#[115, 105, 116, 116, 105, 110, 103]⟩ : ByteArray)).bind fun t101 => (if t101 = 3 then ((measure_Alike.f k (⟨#[107, 105, 116, 116, 101, 110]⟩ : ByteArray) (⟨#[115, 105, 116, 116, 105, 110, 103]⟩ : ByteArray)).bind fun bt102 => ((cleanselaw04_of.f 4 7).bind fun bt104 => (if (bt102.1 == bt104.1 && (bt102.2 == bt104.2)) = true then ((measure_Edit.f k (⟨#[]⟩ : ByteArray) (⟨#[97, 98, 99]⟩ : ByteArray)).bind fun t106 => (if t106 = 3 then ((measure_Alike.f k (⟨#[]⟩ : ByteArray) (⟨#[]⟩ : ByteArray)).bind fun bt107 => ((cleanselaw04_of.f 1 1).bind fun bt109 => (cleanselaw04_head.j0 k (bt107.1 == bt109.1 && (bt107.2 == bt109.2))))) else (cleanselaw04_head.j0 k false))) else (cleanselaw04_head.j0 k false)))) else (cleanselaw04_head.j0 k false))
theorem cleanselaw04_head.mono_l : ∀ k, (∀ y0, LeO (cleanselaw04_head.j0 k y0) (cleanselaw04_head.j0 (k + 1) y0)) ∧ (∀ y0 y1, LeO (cleanselaw04_head.j1 k y0 y1) (cleanselaw04_head.j1 (k + 1) y0 y1))
  | 0 => ⟨fun _ r h => by simp [cleanselaw04_head.j0] at h, fun _ _ r h => by simp [cleanselaw04_head.j1] at h⟩
  | k + 1 => by
    obtain ⟨ih0, ih1⟩ := cleanselaw04_head.mono_l k
    refine ⟨?_, ?_⟩
    · intro y0
      unfold cleanselaw04_head.j0
      repeat' first
      | (with_reducible exact ih0 _)
      | (with_reducible exact ih1 _ _)
      | (with_reducible exact measure_Alike.mono _ _ _)
      | (with_reducible exact measure_Edit.mono _ _ _)
      | (with_reducible exact measure_Jaccard.mono _ _ _)
      | (with_reducible exact measure_Jaro.mono _ _ _)
      | (with_reducible exact measure_Near.mono _ _ _ _)
      | (with_reducible exact measure_Of.mono _ _ _ _ _ _ _ _ _)
      | (with_reducible exact LeO.refl _)
      | (with_reducible exact LeO.none _)
      | (with_reducible refine LeO.ite ?_ ?_)
      | (with_reducible refine LeO.bind ?_ (fun _ => ?_))
      | exact ih0 _
      | exact ih1 _ _
      | exact measure_Alike.mono _ _ _
      | exact measure_Edit.mono _ _ _
      | exact measure_Jaccard.mono _ _ _
      | exact measure_Jaro.mono _ _ _
      | exact measure_Near.mono _ _ _ _
      | exact measure_Of.mono _ _ _ _ _ _ _ _ _
      | exact LeO.none _
      | refine LeO.ite ?_ ?_
      | refine LeO.bind ?_ (fun _ => ?_)
    · intro y0 y1
      unfold cleanselaw04_head.j1
      repeat' first
      | (with_reducible exact ih0 _)
      | (with_reducible exact ih1 _ _)
      | (with_reducible exact measure_Alike.mono _ _ _)
      | (with_reducible exact measure_Edit.mono _ _ _)
      | (with_reducible exact measure_Jaccard.mono _ _ _)
      | (with_reducible exact measure_Jaro.mono _ _ _)
      | (with_reducible exact measure_Near.mono _ _ _ _)
      | (with_reducible exact measure_Of.mono _ _ _ _ _ _ _ _ _)
      | (with_reducible exact LeO.refl _)
      | (with_reducible exact LeO.none _)
      | (with_reducible refine LeO.ite ?_ ?_)
      | (with_reducible refine LeO.bind ?_ (fun _ => ?_))
      | exact ih0 _
      | exact ih1 _ _
      | exact measure_Alike.mono _ _ _
      | exact measure_Edit.mono _ _ _
      | exact measure_Jaccard.mono _ _ _
      | exact measure_Jaro.mono _ _ _
      | exact measure_Near.mono _ _ _ _
      | exact measure_Of.mono _ _ _ _ _ _ _ _ _
      | exact LeO.none _
      | refine LeO.ite ?_ ?_
      | refine LeO.bind ?_ (fun _ => ?_)
theorem cleanselaw04_head.mono : ∀ k, LeO (cleanselaw04_head.f k ) (cleanselaw04_head.f (k + 1) ) := by
  intro  k
  obtain ⟨ih0, ih1⟩ := cleanselaw04_head.mono_l k
  unfold cleanselaw04_head.f
  repeat' first
      | (with_reducible exact ih0 _)
      | (with_reducible exact ih1 _ _)
      | (with_reducible exact measure_Alike.mono _ _ _)
      | (with_reducible exact measure_Edit.mono _ _ _)
      | (with_reducible exact measure_Jaccard.mono _ _ _)
      | (with_reducible exact measure_Jaro.mono _ _ _)
      | (with_reducible exact measure_Near.mono _ _ _ _)
      | (with_reducible exact measure_Of.mono _ _ _ _ _ _ _ _ _)
      | (with_reducible exact LeO.refl _)
      | (with_reducible exact LeO.none _)
      | (with_reducible refine LeO.ite ?_ ?_)
      | (with_reducible refine LeO.bind ?_ (fun _ => ?_))
      | exact ih0 _
      | exact ih1 _ _
      | exact measure_Alike.mono _ _ _
      | exact measure_Edit.mono _ _ _
      | exact measure_Jaccard.mono _ _ _
      | exact measure_Jaro.mono _ _ _
      | exact measure_Near.mono _ _ _ _
      | exact measure_Of.mono _ _ _ _ _ _ _ _ _
      | exact LeO.none _
      | refine LeO.ite ?_ ?_
      | refine LeO.bind ?_ (fun _ => ?_)
def cleanselaw04_head.T5 : Bool × List (List Nat × List Nat) := (true, [([], []), ([0], [0]), ([1], [1]), ([1, 2], [1, 2]), ([3, 1], [3]), ([4, 4], [4]), ([5, 4], [4]), ([5, 6, 4], [4, 5, 6]), ([4, 7], [4, 7]), ([8, 6], [8]), ([9, 9], [9]), ([10, 9], [9]), ([10, 11, 9], [9, 10, 11]), ([9, 12], [9, 12]), ([13, 11], [13]), ([14], [14]), ([14, 14], [14]), ([15, 16, 14], [14, 15, 16]), ([14, 17], [14, 17]), ([18, 16], [18]), ([19], [19]), ([20, 19], [19, 20]), ([19, 21], [19, 21]), ([22, 19], [22]), ([23], [23]), ([24, 23], [23, 24]), ([23, 25], [23, 25]), ([26, 23, 0, 1, 2, 3, 4, 5, 6, 7, 8, 9, 10, 11, 12, 13, 14, 15, 16, 17, 18, 19, 20, 21, 22, 23, 24, 25, 26], [26])])
def cleanselaw04_head.B5 : List Nat := [0, 1, 3, 7, 15, 31, 63, 127, 255, 511, 1023, 2047, 4095, 8191, 16383, 32767, 32767, 131071, 262143, 524287, 1048575, 2097151, 4194303, 8388607, 16777215, 33554431, 67108863, 134217727]
theorem cleanselaw04_head.tab5 : rtab .any (opsOf Tryd.f11 5) = cleanselaw04_head.T5 := by kernel_rfl
theorem cleanselaw04_head.bits5 : waitsOk cleanselaw04_head.T5.2 cleanselaw04_head.B5 = true := by kernel_rfl
set_option maxHeartbeats 8000000 in
set_option maxRecDepth 100000 in
theorem cleanselaw04_head.calls (k : Nat)  (r : Bool) (w : World) (hG : Gl w) (hT : r = true) (h : cleanselaw04_head.f k  = some r) :
    Calls Tryd.prog 11 #[] w fun e w' => e = .returned (.bool r) ∧ Below w.heap.size w w' := by
  have HGl := Aside0.mk hG
  clear hG
  have HT := Aside0.mk hT
  clear hT
  have hu32 := Tryd.underlying32
  have hu26 := Tryd.underlying26
  have HB := Aside0.mk (Below.refl w.heap.size w)
  have H : ((measure_Edit.f k (⟨#[107, 105, 116, 116, 101, 110]⟩ : ByteArray) (⟨#[115, 105, 116, 116, 105, 110, 103]⟩ : ByteArray)).bind fun t101 => (if t101 = 3 then ((measure_Alike.f k (⟨#[107, 105, 116, 116, 101, 110]⟩ : ByteArray) (⟨#[115, 105, 116, 116, 105, 110, 103]⟩ : ByteArray)).bind fun bt102 => ((cleanselaw04_of.f 4 7).bind fun bt104 => (if (bt102.1 == bt104.1 && (bt102.2 == bt104.2)) = true then ((measure_Edit.f k (⟨#[]⟩ : ByteArray) (⟨#[97, 98, 99]⟩ : ByteArray)).bind fun t106 => (if t106 = 3 then ((measure_Alike.f k (⟨#[]⟩ : ByteArray) (⟨#[]⟩ : ByteArray)).bind fun bt107 => ((cleanselaw04_of.f 1 1).bind fun bt109 => (cleanselaw04_head.j0 k (bt107.1 == bt109.1 && (bt107.2 == bt109.2))))) else (cleanselaw04_head.j0 k false))) else (cleanselaw04_head.j0 k false)))) else (cleanselaw04_head.j0 k false))) = some r := h
  clear h
  have HC1 := Aside0.mk H
  clear H
  go_enter Tryd.func11, Tryd.ntmps11
  go_upto_region 1 with (fail)
  go_cut [1] (fun v1 wc => ∃ (kq : Nat) (x1_0 : Bool), v1 = .bool x1_0 ∧ Aside0 (cleanselaw04_head.j0 kq x1_0 = some r) ∧ Aside0 (kq ≤ k) ∧ Aside0 (Below w.heap.size w wc))
  case first =>
    have H := HC1.out
    clear HC1
    replace H := Option.bind_eq_some_iff.mp H
    obtain ⟨t101, A20, H⟩ := H
    replace H : (if t101 = 3 then ((measure_Alike.f k (⟨#[107, 105, 116, 116, 101, 110]⟩ : ByteArray) (⟨#[115, 105, 116, 116, 105, 110, 103]⟩ : ByteArray)).bind fun bt102 => ((cleanselaw04_of.f 4 7).bind fun bt104 => (if (bt102.1 == bt104.1 && (bt102.2 == bt104.2)) = true then ((measure_Edit.f k (⟨#[]⟩ : ByteArray) (⟨#[97, 98, 99]⟩ : ByteArray)).bind fun t106 => (if t106 = 3 then ((measure_Alike.f k (⟨#[]⟩ : ByteArray) (⟨#[]⟩ : ByteArray)).bind fun bt107 => ((cleanselaw04_of.f 1 1).bind fun bt109 => (cleanselaw04_head.j0 k (bt107.1 == bt109.1 && (bt107.2 == bt109.2))))) else (cleanselaw04_head.j0 k false))) else (cleanselaw04_head.j0 k false)))) else (cleanselaw04_head.j0 k false)) = some r := H
    have A2 := Aside0.mk A20
    clear A20
    by_cases c3 : t101 = 3
    · rw [if_pos c3] at H
      have c3b0 : (t101 == 3) = true := beq_iff_eq.mpr c3
      have c3b1 : (t101 != 3) = false := bne_eq_false_iff_eq.mpr c3
      clear c3
      (first | rw [c3b0] | rw [c3b1] | (simp only [i64_w, i32_w]; rw [c3b0]) | skip)
      replace H := Option.bind_eq_some_iff.mp H
      obtain ⟨⟨t102, t103⟩, A40, H⟩ := H
      replace H : ((cleanselaw04_of.f 4 7).bind fun bt104 => (if (t102 == bt104.1 && (t103 == bt104.2)) = true then ((measure_Edit.f k (⟨#[]⟩ : ByteArray) (⟨#[97, 98, 99]⟩ : ByteArray)).bind fun t106 => (if t106 = 3 then ((measure_Alike.f k (⟨#[]⟩ : ByteArray) (⟨#[]⟩ : ByteArray)).bind fun bt107 => ((cleanselaw04_of.f 1 1).bind fun bt109 => (cleanselaw04_head.j0 k (bt107.1 == bt109.1 && (bt107.2 == bt109.2))))) else (cleanselaw04_head.j0 k false))) else (cleanselaw04_head.j0 k false))) = some r := H
      have A4 := Aside0.mk A40
      clear A40
      replace H := Option.bind_eq_some_iff.mp H
      obtain ⟨⟨t104, t105⟩, A50, H⟩ := H
      replace H : (if (t102 == t104 && (t103 == t105)) = true then ((measure_Edit.f k (⟨#[]⟩ : ByteArray) (⟨#[97, 98, 99]⟩ : ByteArray)).bind fun t106 => (if t106 = 3 then ((measure_Alike.f k (⟨#[]⟩ : ByteArray) (⟨#[]⟩ : ByteArray)).bind fun bt107 => ((cleanselaw04_of.f 1 1).bind fun bt109 => (cleanselaw04_head.j0 k (bt107.1 == bt109.1 && (bt107.2 == bt109.2))))) else (cleanselaw04_head.j0 k false))) else (cleanselaw04_head.j0 k false)) = some r := H
      have A5 := Aside0.mk A50
      clear A50
      by_cases c6 : (t102 == t104 && (t103 == t105)) = true
      · rw [if_pos c6] at H
        have c6b0 : (t102 == t104 && (t103 == t105)) = true := c6
        (try (have c6b1 : decide (t102 = t104 && (t103 == t105)) = true := by simpa using c6))
        (try (have c6b2 : (t102 == t104 && (t103 == t105)) = true := by simpa using c6))
        clear c6
        replace H := Option.bind_eq_some_iff.mp H
        obtain ⟨t106, A70, H⟩ := H
        replace H : (if t106 = 3 then ((measure_Alike.f k (⟨#[]⟩ : ByteArray) (⟨#[]⟩ : ByteArray)).bind fun bt107 => ((cleanselaw04_of.f 1 1).bind fun bt109 => (cleanselaw04_head.j0 k (bt107.1 == bt109.1 && (bt107.2 == bt109.2))))) else (cleanselaw04_head.j0 k false)) = some r := H
        have A7 := Aside0.mk A70
        clear A70
        by_cases c8 : t106 = 3
        · rw [if_pos c8] at H
          have c8b0 : (t106 == 3) = true := beq_iff_eq.mpr c8
          have c8b1 : (t106 != 3) = false := bne_eq_false_iff_eq.mpr c8
          clear c8
          replace H := Option.bind_eq_some_iff.mp H
          obtain ⟨⟨t107, t108⟩, A90, H⟩ := H
          replace H : ((cleanselaw04_of.f 1 1).bind fun bt109 => (cleanselaw04_head.j0 k (t107 == bt109.1 && (t108 == bt109.2)))) = some r := H
          have A9 := Aside0.mk A90
          clear A90
          replace H := Option.bind_eq_some_iff.mp H
          obtain ⟨⟨t109, t110⟩, A100, H⟩ := H
          replace H : (cleanselaw04_head.j0 k (t107 == t109 && (t108 == t110))) = some r := H
          have A10 := Aside0.mk A100
          clear A100
          have H' := Aside0.mk H
          clear H
          go_wp2_with (first | ((with_reducible refine gate_callee (f := 14) rfl ?_); refine goesL_ (some 7) rfl rfl Tryd.func14 (by kernel_rfl) rfl #[.string (⟨#[107, 105, 116, 116, 101, 110]⟩ : ByteArray), .string (⟨#[115, 105, 116, 116, 105, 110, 103]⟩ : ByteArray)] rfl (by (try simp only [List.map_toArray, List.map_cons, List.map_nil]); first | done | rfl | (simp only [List.length_drop, List.length_take]; rfl) | (simp only [Int.add_zero]; rfl) | (simp; done)) ?_; (with_reducible refine (measure_Edit.calls k (⟨#[107, 105, 116, 116, 101, 110]⟩ : ByteArray) (⟨#[115, 105, 116, 116, 105, 110, 103]⟩ : ByteArray) t101 _ A2.out).mono ?_); rintro e w11 ⟨rfl, hb⟩; refine ⟨_, rfl, ?_⟩; have n0_ := Aside0.mk (below_step (by repeat (first | (with_reducible first | exact HB.out | apply below_alloc | apply pw_below_drewN | apply below_drew1) | exact HB.out)) hb); clear HB; have HB := n0_; clear n0_; (try clear hb); (try clear hb2); (try clear hk); (try clear hi)) | (go_at_call 16; (with_reducible refine (measure_Alike.calls k (⟨#[107, 105, 116, 116, 101, 110]⟩ : ByteArray) (⟨#[115, 105, 116, 116, 105, 110, 103]⟩ : ByteArray) t102 t103 _ ?sGl A4.out).mono ?_); (case sGl => exact Gl.below HGl.out (by repeat (first | (with_reducible first | exact HB.out | apply below_alloc | apply pw_below_drewN | apply below_drew1 | refine below_set ?_ (Aside0.out (by assumption))) | exact HB.out))); rintro e w12 ⟨rfl, hb⟩; have n0_ := Aside0.mk (below_step (by repeat (first | (with_reducible first | exact HB.out | apply below_alloc | apply pw_below_drewN | apply below_drew1) | exact HB.out)) hb); clear HB; have HB := n0_; clear n0_; (try clear hb); (try clear hb2); (try clear hk); (try clear hi)) | (go_at_call 27; (with_reducible refine (cleanselaw04_of.calls 4 7 t104 t105 _ A5.out).mono ?_); rintro e w13 ⟨rfl, hb⟩; have n0_ := Aside0.mk (below_step (by repeat (first | (with_reducible first | exact HB.out | apply below_alloc | apply pw_below_drewN | apply below_drew1) | exact HB.out)) hb); clear HB; have HB := n0_; clear n0_; (try clear hb); (try clear hb2); (try clear hk); (try clear hi)) | (go_at_call 14; (with_reducible refine (measure_Edit.calls k (⟨#[]⟩ : ByteArray) (⟨#[97, 98, 99]⟩ : ByteArray) t106 _ A7.out).mono ?_); rintro e w14 ⟨rfl, hb⟩; have n0_ := Aside0.mk (below_step (by repeat (first | (with_reducible first | exact HB.out | apply below_alloc | apply pw_below_drewN | apply below_drew1) | exact HB.out)) hb); clear HB; have HB := n0_; clear n0_; (try clear hb); (try clear hb2); (try clear hk); (try clear hi)) | (go_at_call 16; (with_reducible refine (measure_Alike.calls k (⟨#[]⟩ : ByteArray) (⟨#[]⟩ : ByteArray) t107 t108 _ ?sGl A9.out).mono ?_); (case sGl => exact Gl.below HGl.out (by repeat (first | (with_reducible first | exact HB.out | apply below_alloc | apply pw_below_drewN | apply below_drew1 | refine below_set ?_ (Aside0.out (by assumption))) | exact HB.out))); rintro e w15 ⟨rfl, hb⟩; have n0_ := Aside0.mk (below_step (by repeat (first | (with_reducible first | exact HB.out | apply below_alloc | apply pw_below_drewN | apply below_drew1) | exact HB.out)) hb); clear HB; have HB := n0_; clear n0_; (try clear hb); (try clear hb2); (try clear hk); (try clear hi)) | (go_at_call 27; (with_reducible refine (cleanselaw04_of.calls 1 1 t109 t110 _ A10.out).mono ?_); rintro e w16 ⟨rfl, hb⟩; have n0_ := Aside0.mk (below_step (by repeat (first | (with_reducible first | exact HB.out | apply below_alloc | apply pw_below_drewN | apply below_drew1) | exact HB.out)) hb); clear HB; have HB := n0_; clear n0_; (try clear hb); (try clear hb2); (try clear hk); (try clear hi)))
          go_meet
          case rel => exact ⟨_, ((t107 == t109 && (t108 == t110))), (by first | rfl | (simp; done) | (simp [*]; done) | (simp [bne_nil_isEmpty]; done)), H', ⟨by first | omega | exact Nat.le_refl _⟩, ⟨by repeat (first | (with_reducible first | exact HB.out | apply below_alloc | apply pw_below_drewN | apply below_drew1) | exact HB.out)⟩⟩
        · rw [if_neg c8] at H
          have c8b0 : (t106 == 3) = false := beq_eq_false_iff_ne.mpr c8
          have c8b1 : (t106 != 3) = true := bne_iff_ne.mpr c8
          have H' := Aside0.mk H
          clear H
          go_wp2_with (first | ((with_reducible refine gate_callee (f := 14) rfl ?_); refine goesL_ (some 7) rfl rfl Tryd.func14 (by kernel_rfl) rfl #[.string (⟨#[107, 105, 116, 116, 101, 110]⟩ : ByteArray), .string (⟨#[115, 105, 116, 116, 105, 110, 103]⟩ : ByteArray)] rfl (by (try simp only [List.map_toArray, List.map_cons, List.map_nil]); first | done | rfl | (simp only [List.length_drop, List.length_take]; rfl) | (simp only [Int.add_zero]; rfl) | (simp; done)) ?_; (with_reducible refine (measure_Edit.calls k (⟨#[107, 105, 116, 116, 101, 110]⟩ : ByteArray) (⟨#[115, 105, 116, 116, 105, 110, 103]⟩ : ByteArray) t101 _ A2.out).mono ?_); rintro e w17 ⟨rfl, hb⟩; refine ⟨_, rfl, ?_⟩; have n0_ := Aside0.mk (below_step (by repeat (first | (with_reducible first | exact HB.out | apply below_alloc | apply pw_below_drewN | apply below_drew1) | exact HB.out)) hb); clear HB; have HB := n0_; clear n0_; (try clear hb); (try clear hb2); (try clear hk); (try clear hi)) | (go_at_call 16; (with_reducible refine (measure_Alike.calls k (⟨#[107, 105, 116, 116, 101, 110]⟩ : ByteArray) (⟨#[115, 105, 116, 116, 105, 110, 103]⟩ : ByteArray) t102 t103 _ ?sGl A4.out).mono ?_); (case sGl => exact Gl.below HGl.out (by repeat (first | (with_reducible first | exact HB.out | apply below_alloc | apply pw_below_drewN | apply below_drew1 | refine below_set ?_ (Aside0.out (by assumption))) | exact HB.out))); rintro e w18 ⟨rfl, hb⟩; have n0_ := Aside0.mk (below_step (by repeat (first | (with_reducible first | exact HB.out | apply below_alloc | apply pw_below_drewN | apply below_drew1) | exact HB.out)) hb); clear HB; have HB := n0_; clear n0_; (try clear hb); (try clear hb2); (try clear hk); (try clear hi)) | (go_at_call 27; (with_reducible refine (cleanselaw04_of.calls 4 7 t104 t105 _ A5.out).mono ?_); rintro e w19 ⟨rfl, hb⟩; have n0_ := Aside0.mk (below_step (by repeat (first | (with_reducible first | exact HB.out | apply below_alloc | apply pw_below_drewN | apply below_drew1) | exact HB.out)) hb); clear HB; have HB := n0_; clear n0_; (try clear hb); (try clear hb2); (try clear hk); (try clear hi)) | (go_at_call 14; (with_reducible refine (measure_Edit.calls k (⟨#[]⟩ : ByteArray) (⟨#[97, 98, 99]⟩ : ByteArray) t106 _ A7.out).mono ?_); rintro e w20 ⟨rfl, hb⟩; have n0_ := Aside0.mk (below_step (by repeat (first | (with_reducible first | exact HB.out | apply below_alloc | apply pw_below_drewN | apply below_drew1) | exact HB.out)) hb); clear HB; have HB := n0_; clear n0_; (try clear hb); (try clear hb2); (try clear hk); (try clear hi)))
          go_meet
          case rel => exact ⟨_, (false), (by first | rfl | (simp; done) | (simp [*]; done) | (simp [bne_nil_isEmpty]; done)), H', ⟨by first | omega | exact Nat.le_refl _⟩, ⟨by repeat (first | (with_reducible first | exact HB.out | apply below_alloc | apply pw_below_drewN | apply below_drew1) | exact HB.out)⟩⟩
      · rw [if_neg c6] at H
        have c6b0 : (t102 == t104 && (t103 == t105)) = false := by simpa using c6
        (try (have c6b1 : decide (t102 = t104 && (t103 == t105)) = false := by simpa using c6))
        (try (have c6b2 : (t102 == t104 && (t103 == t105)) = false := by simpa using c6))
        (try (have c6b3 : ¬ (t102 = t104 && (t103 == t105)) := by simpa using c6))
        clear c6
        have H' := Aside0.mk H
        clear H
        go_wp2_with (first | ((with_reducible refine gate_callee (f := 14) rfl ?_); refine goesL_ (some 7) rfl rfl Tryd.func14 (by kernel_rfl) rfl #[.string (⟨#[107, 105, 116, 116, 101, 110]⟩ : ByteArray), .string (⟨#[115, 105, 116, 116, 105, 110, 103]⟩ : ByteArray)] rfl (by (try simp only [List.map_toArray, List.map_cons, List.map_nil]); first | done | rfl | (simp only [List.length_drop, List.length_take]; rfl) | (simp only [Int.add_zero]; rfl) | (simp; done)) ?_; (with_reducible refine (measure_Edit.calls k (⟨#[107, 105, 116, 116, 101, 110]⟩ : ByteArray) (⟨#[115, 105, 116, 116, 105, 110, 103]⟩ : ByteArray) t101 _ A2.out).mono ?_); rintro e w21 ⟨rfl, hb⟩; refine ⟨_, rfl, ?_⟩; have n0_ := Aside0.mk (below_step (by repeat (first | (with_reducible first | exact HB.out | apply below_alloc | apply pw_below_drewN | apply below_drew1) | exact HB.out)) hb); clear HB; have HB := n0_; clear n0_; (try clear hb); (try clear hb2); (try clear hk); (try clear hi)) | (go_at_call 16; (with_reducible refine (measure_Alike.calls k (⟨#[107, 105, 116, 116, 101, 110]⟩ : ByteArray) (⟨#[115, 105, 116, 116, 105, 110, 103]⟩ : ByteArray) t102 t103 _ ?sGl A4.out).mono ?_); (case sGl => exact Gl.below HGl.out (by repeat (first | (with_reducible first | exact HB.out | apply below_alloc | apply pw_below_drewN | apply below_drew1 | refine below_set ?_ (Aside0.out (by assumption))) | exact HB.out))); rintro e w22 ⟨rfl, hb⟩; have n0_ := Aside0.mk (below_step (by repeat (first | (with_reducible first | exact HB.out | apply below_alloc | apply pw_below_drewN | apply below_drew1) | exact HB.out)) hb); clear HB; have HB := n0_; clear n0_; (try clear hb); (try clear hb2); (try clear hk); (try clear hi)) | (go_at_call 27; (with_reducible refine (cleanselaw04_of.calls 4 7 t104 t105 _ A5.out).mono ?_); rintro e w23 ⟨rfl, hb⟩; have n0_ := Aside0.mk (below_step (by repeat (first | (with_reducible first | exact HB.out | apply below_alloc | apply pw_below_drewN | apply below_drew1) | exact HB.out)) hb); clear HB; have HB := n0_; clear n0_; (try clear hb); (try clear hb2); (try clear hk); (try clear hi)))
        go_meet
        case rel => exact ⟨_, (false), (by first | rfl | (simp; done) | (simp [*]; done) | (simp [bne_nil_isEmpty]; done)), H', ⟨by first | omega | exact Nat.le_refl _⟩, ⟨by repeat (first | (with_reducible first | exact HB.out | apply below_alloc | apply pw_below_drewN | apply below_drew1) | exact HB.out)⟩⟩
    · rw [if_neg c3] at H
      have c3b0 : (t101 == 3) = false := beq_eq_false_iff_ne.mpr c3
      have c3b1 : (t101 != 3) = true := bne_iff_ne.mpr c3
      (first | rw [c3b0] | rw [c3b1] | (simp only [i64_w, i32_w]; rw [c3b0]) | skip)
      have H' := Aside0.mk H
      clear H
      go_wp2_with (first | ((with_reducible refine gate_callee (f := 14) rfl ?_); refine goesL_ (some 7) rfl rfl Tryd.func14 (by kernel_rfl) rfl #[.string (⟨#[107, 105, 116, 116, 101, 110]⟩ : ByteArray), .string (⟨#[115, 105, 116, 116, 105, 110, 103]⟩ : ByteArray)] rfl (by (try simp only [List.map_toArray, List.map_cons, List.map_nil]); first | done | rfl | (simp only [List.length_drop, List.length_take]; rfl) | (simp only [Int.add_zero]; rfl) | (simp; done)) ?_; (with_reducible refine (measure_Edit.calls k (⟨#[107, 105, 116, 116, 101, 110]⟩ : ByteArray) (⟨#[115, 105, 116, 116, 105, 110, 103]⟩ : ByteArray) t101 _ A2.out).mono ?_); rintro e w24 ⟨rfl, hb⟩; refine ⟨_, rfl, ?_⟩; have n0_ := Aside0.mk (below_step (by repeat (first | (with_reducible first | exact HB.out | apply below_alloc | apply pw_below_drewN | apply below_drew1) | exact HB.out)) hb); clear HB; have HB := n0_; clear n0_; (try clear hb); (try clear hb2); (try clear hk); (try clear hi)))
      go_meet
      case rel => exact ⟨_, (false), (by first | rfl | (simp; done) | (simp [*]; done) | (simp [bne_nil_isEmpty]; done)), H', ⟨by first | omega | exact Nat.le_refl _⟩, ⟨by repeat (first | (with_reducible first | exact HB.out | apply below_alloc | apply pw_below_drewN | apply below_drew1) | exact HB.out)⟩⟩
  case rest =>
    clear HC1
    try clear c1
    try clear p2
    try clear c3
    try clear c3b0
    try clear c3b1
    try clear c6
    try clear c6b0
    try clear c6b1
    try clear c6b2
    try clear c8
    try clear c8b0
    try clear c8b1
    try clear c11
    try clear c14
    obtain ⟨kq, x1_0, rfl, HA, HJ0, HB⟩ := hcut
    cases kq with
    | zero => exact absurd HA.out (by simp [cleanselaw04_head.j0])
    | succ kj0 =>
      have H := HA.out
      clear HA
      simp only [cleanselaw04_head.j0] at H
      have HC25 := Aside0.mk H
      clear H
      go_upto_region 2 with (fail)
      go_cut [2] (fun v2 wc => ∃ (kq : Nat) (x2_24 : Bool), v2 = .bool x2_24 ∧ Aside0 (cleanselaw04_head.j1 kq x1_0 x2_24 = some r) ∧ Aside0 (kq ≤ kj0) ∧ Aside0 (Below w.heap.size w wc))
      case first =>
        have H := HC25.out
        clear HC25
        obtain ⟨y111, hy111⟩ : ∃ y_ : List ByteArray, y_ = (([(⟨#[97]⟩ : ByteArray), (⟨#[98]⟩ : ByteArray)] : List ByteArray)) := ⟨_, rfl⟩
        replace H : ((measure_Jaccard.f kj0 y111 (([(⟨#[98]⟩ : ByteArray), (⟨#[99]⟩ : ByteArray), (⟨#[100]⟩ : ByteArray)] : List ByteArray))).bind fun bt117 => ((cleanselaw04_of.f 1 4).bind fun bt119 => (if (bt117.1 == bt119.1 && (bt117.2 == bt119.2)) = true then ((measure_Jaro.f kj0 (⟨#[109, 97, 114, 116, 104, 97]⟩ : ByteArray) (⟨#[109, 97, 114, 104, 116, 97]⟩ : ByteArray)).bind fun bt121 => ((cleanselaw04_of.f 17 18).bind fun bt123 => (if (bt121.1 == bt123.1 && (bt121.2 == bt123.2)) = true then ((measure_Jaro.f kj0 (⟨#[100, 105, 120, 111, 110]⟩ : ByteArray) (⟨#[100, 105, 99, 107, 115, 111, 110, 120]⟩ : ByteArray)).bind fun bt125 => ((cleanselaw04_of.f 23 30).bind fun bt127 => (cleanselaw04_head.j1 kj0 x1_0 (bt125.1 == bt127.1 && (bt125.2 == bt127.2))))) else (cleanselaw04_head.j1 kj0 x1_0 false)))) else (cleanselaw04_head.j1 kj0 x1_0 false)))) = some r := by first | (rw [hy111]; with_reducible exact H) | (have H2_ := (Option.bind_some _ _).symm.trans H; rw [hy111]; with_reducible exact H2_) | (have H2_ := (Option.bind_some _ _).symm.trans H; with_reducible exact H2_) | with_reducible exact H | (rw [hy111]; exact H) | exact H
        have Ny111 := Aside0.mk hy111
        clear hy111
        obtain ⟨y114, hy114⟩ : ∃ y_ : List ByteArray, y_ = (([(⟨#[98]⟩ : ByteArray), (⟨#[99]⟩ : ByteArray), (⟨#[100]⟩ : ByteArray)] : List ByteArray)) := ⟨_, rfl⟩
        replace H : ((measure_Jaccard.f kj0 y111 y114).bind fun bt117 => ((cleanselaw04_of.f 1 4).bind fun bt119 => (if (bt117.1 == bt119.1 && (bt117.2 == bt119.2)) = true then ((measure_Jaro.f kj0 (⟨#[109, 97, 114, 116, 104, 97]⟩ : ByteArray) (⟨#[109, 97, 114, 104, 116, 97]⟩ : ByteArray)).bind fun bt121 => ((cleanselaw04_of.f 17 18).bind fun bt123 => (if (bt121.1 == bt123.1 && (bt121.2 == bt123.2)) = true then ((measure_Jaro.f kj0 (⟨#[100, 105, 120, 111, 110]⟩ : ByteArray) (⟨#[100, 105, 99, 107, 115, 111, 110, 120]⟩ : ByteArray)).bind fun bt125 => ((cleanselaw04_of.f 23 30).bind fun bt127 => (cleanselaw04_head.j1 kj0 x1_0 (bt125.1 == bt127.1 && (bt125.2 == bt127.2))))) else (cleanselaw04_head.j1 kj0 x1_0 false)))) else (cleanselaw04_head.j1 kj0 x1_0 false)))) = some r := by first | (rw [hy114]; with_reducible exact H) | (have H2_ := (Option.bind_some _ _).symm.trans H; rw [hy114]; with_reducible exact H2_) | (have H2_ := (Option.bind_some _ _).symm.trans H; with_reducible exact H2_) | with_reducible exact H | (rw [hy114]; exact H) | exact H
        have Ny114 := Aside0.mk hy114
        clear hy114
        replace H := Option.bind_eq_some_iff.mp H
        obtain ⟨⟨t117, t118⟩, A260, H⟩ := H
        replace H : ((cleanselaw04_of.f 1 4).bind fun bt119 => (if (t117 == bt119.1 && (t118 == bt119.2)) = true then ((measure_Jaro.f kj0 (⟨#[109, 97, 114, 116, 104, 97]⟩ : ByteArray) (⟨#[109, 97, 114, 104, 116, 97]⟩ : ByteArray)).bind fun bt121 => ((cleanselaw04_of.f 17 18).bind fun bt123 => (if (bt121.1 == bt123.1 && (bt121.2 == bt123.2)) = true then ((measure_Jaro.f kj0 (⟨#[100, 105, 120, 111, 110]⟩ : ByteArray) (⟨#[100, 105, 99, 107, 115, 111, 110, 120]⟩ : ByteArray)).bind fun bt125 => ((cleanselaw04_of.f 23 30).bind fun bt127 => (cleanselaw04_head.j1 kj0 x1_0 (bt125.1 == bt127.1 && (bt125.2 == bt127.2))))) else (cleanselaw04_head.j1 kj0 x1_0 false)))) else (cleanselaw04_head.j1 kj0 x1_0 false))) = some r := H
        have A26 := Aside0.mk A260
        clear A260
        replace H := Option.bind_eq_some_iff.mp H
        obtain ⟨⟨t119, t120⟩, A270, H⟩ := H
        replace H : (if (t117 == t119 && (t118 == t120)) = true then ((measure_Jaro.f kj0 (⟨#[109, 97, 114, 116, 104, 97]⟩ : ByteArray) (⟨#[109, 97, 114, 104, 116, 97]⟩ : ByteArray)).bind fun bt121 => ((cleanselaw04_of.f 17 18).bind fun bt123 => (if (bt121.1 == bt123.1 && (bt121.2 == bt123.2)) = true then ((measure_Jaro.f kj0 (⟨#[100, 105, 120, 111, 110]⟩ : ByteArray) (⟨#[100, 105, 99, 107, 115, 111, 110, 120]⟩ : ByteArray)).bind fun bt125 => ((cleanselaw04_of.f 23 30).bind fun bt127 => (cleanselaw04_head.j1 kj0 x1_0 (bt125.1 == bt127.1 && (bt125.2 == bt127.2))))) else (cleanselaw04_head.j1 kj0 x1_0 false)))) else (cleanselaw04_head.j1 kj0 x1_0 false)) = some r := H
        have A27 := Aside0.mk A270
        clear A270
        by_cases c28 : (t117 == t119 && (t118 == t120)) = true
        · rw [if_pos c28] at H
          have c28b0 : (t117 == t119 && (t118 == t120)) = true := c28
          (try (have c28b1 : decide (t117 = t119 && (t118 == t120)) = true := by simpa using c28))
          (try (have c28b2 : (t117 == t119 && (t118 == t120)) = true := by simpa using c28))
          clear c28
          (first | rw [c28b0] | rw [c28b1] | (simp only [i64_w, i32_w]; rw [c28b0]) | skip)
          replace H := Option.bind_eq_some_iff.mp H
          obtain ⟨⟨t121, t122⟩, A290, H⟩ := H
          replace H : ((cleanselaw04_of.f 17 18).bind fun bt123 => (if (t121 == bt123.1 && (t122 == bt123.2)) = true then ((measure_Jaro.f kj0 (⟨#[100, 105, 120, 111, 110]⟩ : ByteArray) (⟨#[100, 105, 99, 107, 115, 111, 110, 120]⟩ : ByteArray)).bind fun bt125 => ((cleanselaw04_of.f 23 30).bind fun bt127 => (cleanselaw04_head.j1 kj0 x1_0 (bt125.1 == bt127.1 && (bt125.2 == bt127.2))))) else (cleanselaw04_head.j1 kj0 x1_0 false))) = some r := H
          have A29 := Aside0.mk A290
          clear A290
          replace H := Option.bind_eq_some_iff.mp H
          obtain ⟨⟨t123, t124⟩, A300, H⟩ := H
          replace H : (if (t121 == t123 && (t122 == t124)) = true then ((measure_Jaro.f kj0 (⟨#[100, 105, 120, 111, 110]⟩ : ByteArray) (⟨#[100, 105, 99, 107, 115, 111, 110, 120]⟩ : ByteArray)).bind fun bt125 => ((cleanselaw04_of.f 23 30).bind fun bt127 => (cleanselaw04_head.j1 kj0 x1_0 (bt125.1 == bt127.1 && (bt125.2 == bt127.2))))) else (cleanselaw04_head.j1 kj0 x1_0 false)) = some r := H
          have A30 := Aside0.mk A300
          clear A300
          by_cases c31 : (t121 == t123 && (t122 == t124)) = true
          · rw [if_pos c31] at H
            have c31b0 : (t121 == t123 && (t122 == t124)) = true := c31
            (try (have c31b1 : decide (t121 = t123 && (t122 == t124)) = true := by simpa using c31))
            (try (have c31b2 : (t121 == t123 && (t122 == t124)) = true := by simpa using c31))
            clear c31
            replace H := Option.bind_eq_some_iff.mp H
            obtain ⟨⟨t125, t126⟩, A320, H⟩ := H
            replace H : ((cleanselaw04_of.f 23 30).bind fun bt127 => (cleanselaw04_head.j1 kj0 x1_0 (t125 == bt127.1 && (t126 == bt127.2)))) = some r := H
            have A32 := Aside0.mk A320
            clear A320
            replace H := Option.bind_eq_some_iff.mp H
            obtain ⟨⟨t127, t128⟩, A330, H⟩ := H
            replace H : (cleanselaw04_head.j1 kj0 x1_0 (t125 == t127 && (t126 == t128))) = some r := H
            have A33 := Aside0.mk A330
            clear A330
            have H' := Aside0.mk H
            clear H
            go_wp2_with (first | ((with_reducible refine gate_dst (N := 23) rfl ?_); refine Kd.R_lit Kd.string _ 9 ?hg (N := 23) ?hd (xs := ([(⟨#[97]⟩ : ByteArray), (⟨#[98]⟩ : ByteArray)] : List ByteArray)) (inner := [.string (⟨#[97]⟩ : ByteArray), .string (⟨#[98]⟩ : ByteArray)]) (ok := fun _ => True) (okp := fun _ => True) ?hr ?hp (fun _ hk => hk) trivial (Below.refl _ _) (Nat.le_refl _) (by simp) ?_; (case hd => rfl); (case hg => rfl); (case hr => first | (go_simp; done) | (go_simp; rfl)); (case hp => exact (Reps.one (show Kd.M Kd.string _ _ _ (⟨#[97]⟩ : ByteArray) [.string (⟨#[97]⟩ : ByteArray)] from rfl) (Reps.one (show Kd.M Kd.string _ _ _ (⟨#[98]⟩ : ByteArray) [.string (⟨#[98]⟩ : ByteArray)] from rfl) (Reps.none _ _)))); intro v112 w34 ho35 hb hg_ hnew_; clear hg_ hnew_; (first | rw [← Ny111.out] at ho35 | (simp only [Int.reduceToNat] at ho35; rw [← Ny111.out] at ho35)); have n0_ := Aside0.mk (Kd.R_lower ho35 (below_size (by repeat (first | (with_reducible first | exact HB.out | apply below_alloc | apply pw_below_drewN | apply below_drew1) | exact HB.out)))); have n1_ := Aside0.mk (below_step (by repeat (first | (with_reducible first | exact HB.out | apply below_alloc | apply pw_below_drewN | apply below_drew1) | exact HB.out)) hb); clear HB; have HO113 := n0_; have HB := n1_; clear n0_ n1_; clear hb ho35) | ((with_reducible refine gate_dst (N := 24) rfl ?_); refine Kd.R_lit Kd.string _ 9 ?hg (N := 24) ?hd (xs := ([(⟨#[98]⟩ : ByteArray), (⟨#[99]⟩ : ByteArray), (⟨#[100]⟩ : ByteArray)] : List ByteArray)) (inner := [.string (⟨#[98]⟩ : ByteArray), .string (⟨#[99]⟩ : ByteArray), .string (⟨#[100]⟩ : ByteArray)]) (ok := fun _ => True) (okp := fun _ => True) ?hr ?hp (fun _ hk => hk) trivial (Below.refl _ _) (Nat.le_refl _) (by simp) ?_; (case hd => rfl); (case hg => rfl); (case hr => first | (go_simp; done) | (go_simp; rfl)); (case hp => exact (Reps.one (show Kd.M Kd.string _ _ _ (⟨#[98]⟩ : ByteArray) [.string (⟨#[98]⟩ : ByteArray)] from rfl) (Reps.one (show Kd.M Kd.string _ _ _ (⟨#[99]⟩ : ByteArray) [.string (⟨#[99]⟩ : ByteArray)] from rfl) (Reps.one (show Kd.M Kd.string _ _ _ (⟨#[100]⟩ : ByteArray) [.string (⟨#[100]⟩ : ByteArray)] from rfl) (Reps.none _ _))))); intro v115 w36 ho37 hb hg_ hnew_; clear hg_ hnew_; (first | rw [← Ny114.out] at ho37 | (simp only [Int.reduceToNat] at ho37; rw [← Ny114.out] at ho37)); have n0_ := Aside0.mk (Kd.R_elder' (by (with_reducible repeat (first | apply Kd.R_alloc | apply Kd.R_drewN | apply Kd.R_drew)); exact HO113.out) (Kd.R_base ho37) hb); have n1_ := Aside0.mk (Kd.R_lower (Kd.R_new' ho37 (Kd.R_lt (by (with_reducible repeat (first | apply Kd.R_alloc | apply Kd.R_drewN | apply Kd.R_drew)); exact HO113.out))) (below_size (by repeat (first | (with_reducible first | exact HB.out | apply below_alloc | apply pw_below_drewN | apply below_drew1) | exact HB.out)))); have n2_ := Aside0.mk (below_step (by repeat (first | (with_reducible first | exact HB.out | apply below_alloc | apply pw_below_drewN | apply below_drew1) | exact HB.out)) hb); clear HO113; clear HB; have HO113 := n0_; have HO116 := n1_; have HB := n2_; clear n0_ n1_ n2_; clear hb ho37; obtain ⟨Ao38, co38, eo38⟩ := Kd.R_slice HO113.out; subst eo38; obtain ⟨Ao39, co39, eo39⟩ := Kd.R_slice HO116.out; subst eo39) | ((with_reducible refine gate_callee (f := 18) rfl ?_); refine goesL_ (some 25) rfl rfl Tryd.func18 (by kernel_rfl) rfl #[.slice Ao38 y111.length co38, .slice Ao39 y114.length co39] rfl (by (try simp only [List.map_toArray, List.map_cons, List.map_nil]); first | done | rfl | (simp only [List.length_drop, List.length_take]; rfl) | (simp only [Int.add_zero]; rfl) | (simp; done)) ?_; (with_reducible refine (measure_Jaccard.calls kj0 _ _ y111 _ _ y114 t117 t118 _ ?side1 ?side2 ?side3 ?side4 ?sGl A26.out).mono ?_); (case sGl => exact Gl.below HGl.out (by repeat (first | (with_reducible first | exact HB.out | apply below_alloc | apply pw_below_drewN | apply below_drew1 | refine below_set ?_ (Aside0.out (by assumption))) | exact HB.out))); (case side1 => repeat (first | exact (Kd.R_reads' HO113.out).2.2 | (with_reducible refine Kd.C_alloc ?_ _) | (with_reducible refine Kd.C_drewN ?_ _) | (with_reducible refine Kd.C_drew ?_))); (case side2 => exact (Kd.R_reads' HO113.out).2.1); (case side3 => repeat (first | exact (Kd.R_reads' HO116.out).2.2 | (with_reducible refine Kd.C_alloc ?_ _) | (with_reducible refine Kd.C_drewN ?_ _) | (with_reducible refine Kd.C_drew ?_))); (case side4 => exact (Kd.R_reads' HO116.out).2.1); rintro e w40 ⟨rfl, hb⟩; refine ⟨_, rfl, ?_⟩; have n0_ := Aside0.mk (Kd.R_below (by (with_reducible repeat (first | apply Kd.R_alloc | apply Kd.R_drewN | apply Kd.R_drew)); exact HO113.out) hb); have n1_ := Aside0.mk (Kd.R_below (by (with_reducible repeat (first | apply Kd.R_alloc | apply Kd.R_drewN | apply Kd.R_drew)); exact HO116.out) hb); have n2_ := Aside0.mk (below_step (by repeat (first | (with_reducible first | exact HB.out | apply below_alloc | apply pw_below_drewN | apply below_drew1) | exact HB.out)) hb); clear HO113; clear HO116; clear HB; have HO113 := n0_; have HO116 := n1_; have HB := n2_; clear n0_ n1_ n2_; (try clear hb); (try clear hb2); (try clear hk); (try clear hi)) | ((with_reducible refine gate_callee (f := 27) rfl ?_); refine goesL_ (some 26) rfl rfl Tryd.func27 (by kernel_rfl) rfl #[.int .i64 1, .int .i64 4] rfl (by (try simp only [List.map_toArray, List.map_cons, List.map_nil]); first | done | rfl | (simp only [List.length_drop, List.length_take]; rfl) | (simp only [Int.add_zero]; rfl) | (simp; done)) ?_; (with_reducible refine (cleanselaw04_of.calls 1 4 t119 t120 _ A27.out).mono ?_); rintro e w41 ⟨rfl, hb⟩; refine ⟨_, rfl, ?_⟩; have n0_ := Aside0.mk (Kd.R_below (by (with_reducible repeat (first | apply Kd.R_alloc | apply Kd.R_drewN | apply Kd.R_drew)); exact HO113.out) hb); have n1_ := Aside0.mk (Kd.R_below (by (with_reducible repeat (first | apply Kd.R_alloc | apply Kd.R_drewN | apply Kd.R_drew)); exact HO116.out) hb); have n2_ := Aside0.mk (below_step (by repeat (first | (with_reducible first | exact HB.out | apply below_alloc | apply pw_below_drewN | apply below_drew1) | exact HB.out)) hb); clear HO113; clear HO116; clear HB; have HO113 := n0_; have HO116 := n1_; have HB := n2_; clear n0_ n1_ n2_; (try clear hb); (try clear hb2); (try clear hk); (try clear hi)) | (go_at_call 22; (with_reducible refine (measure_Jaro.calls kj0 (⟨#[109, 97, 114, 116, 104, 97]⟩ : ByteArray) (⟨#[109, 97, 114, 104, 116, 97]⟩ : ByteArray) t121 t122 _ ?sGl A29.out).mono ?_); (case sGl => exact Gl.below HGl.out (by repeat (first | (with_reducible first | exact HB.out | apply below_alloc | apply pw_below_drewN | apply below_drew1 | refine below_set ?_ (Aside0.out (by assumption))) | exact HB.out))); rintro e w42 ⟨rfl, hb⟩; have n0_ := Aside0.mk (Kd.R_below (by (with_reducible repeat (first | apply Kd.R_alloc | apply Kd.R_drewN | apply Kd.R_drew)); exact HO113.out) hb); have n1_ := Aside0.mk (Kd.R_below (by (with_reducible repeat (first | apply Kd.R_alloc | apply Kd.R_drewN | apply Kd.R_drew)); exact HO116.out) hb); have n2_ := Aside0.mk (below_step (by repeat (first | (with_reducible first | exact HB.out | apply below_alloc | apply pw_below_drewN | apply below_drew1) | exact HB.out)) hb); clear HO113; clear HO116; clear HB; have HO113 := n0_; have HO116 := n1_; have HB := n2_; clear n0_ n1_ n2_; (try clear hb); (try clear hb2); (try clear hk); (try clear hi)) | (go_at_call 27; (with_reducible refine (cleanselaw04_of.calls 17 18 t123 t124 _ A30.out).mono ?_); rintro e w43 ⟨rfl, hb⟩; have n0_ := Aside0.mk (Kd.R_below (by (with_reducible repeat (first | apply Kd.R_alloc | apply Kd.R_drewN | apply Kd.R_drew)); exact HO113.out) hb); have n1_ := Aside0.mk (Kd.R_below (by (with_reducible repeat (first | apply Kd.R_alloc | apply Kd.R_drewN | apply Kd.R_drew)); exact HO116.out) hb); have n2_ := Aside0.mk (below_step (by repeat (first | (with_reducible first | exact HB.out | apply below_alloc | apply pw_below_drewN | apply below_drew1) | exact HB.out)) hb); clear HO113; clear HO116; clear HB; have HO113 := n0_; have HO116 := n1_; have HB := n2_; clear n0_ n1_ n2_; (try clear hb); (try clear hb2); (try clear hk); (try clear hi)) | (go_at_call 22; (with_reducible refine (measure_Jaro.calls kj0 (⟨#[100, 105, 120, 111, 110]⟩ : ByteArray) (⟨#[100, 105, 99, 107, 115, 111, 110, 120]⟩ : ByteArray) t125 t126 _ ?sGl A32.out).mono ?_); (case sGl => exact Gl.below HGl.out (by repeat (first | (with_reducible first | exact HB.out | apply below_alloc | apply pw_below_drewN | apply below_drew1 | refine below_set ?_ (Aside0.out (by assumption))) | exact HB.out))); rintro e w44 ⟨rfl, hb⟩; have n0_ := Aside0.mk (Kd.R_below (by (with_reducible repeat (first | apply Kd.R_alloc | apply Kd.R_drewN | apply Kd.R_drew)); exact HO113.out) hb); have n1_ := Aside0.mk (Kd.R_below (by (with_reducible repeat (first | apply Kd.R_alloc | apply Kd.R_drewN | apply Kd.R_drew)); exact HO116.out) hb); have n2_ := Aside0.mk (below_step (by repeat (first | (with_reducible first | exact HB.out | apply below_alloc | apply pw_below_drewN | apply below_drew1) | exact HB.out)) hb); clear HO113; clear HO116; clear HB; have HO113 := n0_; have HO116 := n1_; have HB := n2_; clear n0_ n1_ n2_; (try clear hb); (try clear hb2); (try clear hk); (try clear hi)) | (go_at_call 27; (with_reducible refine (cleanselaw04_of.calls 23 30 t127 t128 _ A33.out).mono ?_); rintro e w45 ⟨rfl, hb⟩; have n0_ := Aside0.mk (Kd.R_below (by (with_reducible repeat (first | apply Kd.R_alloc | apply Kd.R_drewN | apply Kd.R_drew)); exact HO113.out) hb); have n1_ := Aside0.mk (Kd.R_below (by (with_reducible repeat (first | apply Kd.R_alloc | apply Kd.R_drewN | apply Kd.R_drew)); exact HO116.out) hb); have n2_ := Aside0.mk (below_step (by repeat (first | (with_reducible first | exact HB.out | apply below_alloc | apply pw_below_drewN | apply below_drew1) | exact HB.out)) hb); clear HO113; clear HO116; clear HB; have HO113 := n0_; have HO116 := n1_; have HB := n2_; clear n0_ n1_ n2_; (try clear hb); (try clear hb2); (try clear hk); (try clear hi)))
            go_meet
            case rel => exact ⟨_, ((t125 == t127 && (t126 == t128))), (by first | rfl | (simp; done) | (simp [*]; done) | (simp [bne_nil_isEmpty]; done)), H', ⟨by have := HJ0.out; first | omega | exact Nat.le_refl _⟩, ⟨by repeat (first | (with_reducible first | exact HB.out | apply below_alloc | apply pw_below_drewN | apply below_drew1) | exact HB.out)⟩⟩
          · rw [if_neg c31] at H
            have c31b0 : (t121 == t123 && (t122 == t124)) = false := by simpa using c31
            (try (have c31b1 : decide (t121 = t123 && (t122 == t124)) = false := by simpa using c31))
            (try (have c31b2 : (t121 == t123 && (t122 == t124)) = false := by simpa using c31))
            (try (have c31b3 : ¬ (t121 = t123 && (t122 == t124)) := by simpa using c31))
            clear c31
            have H' := Aside0.mk H
            clear H
            go_wp2_with (first | ((with_reducible refine gate_dst (N := 23) rfl ?_); refine Kd.R_lit Kd.string _ 9 ?hg (N := 23) ?hd (xs := ([(⟨#[97]⟩ : ByteArray), (⟨#[98]⟩ : ByteArray)] : List ByteArray)) (inner := [.string (⟨#[97]⟩ : ByteArray), .string (⟨#[98]⟩ : ByteArray)]) (ok := fun _ => True) (okp := fun _ => True) ?hr ?hp (fun _ hk => hk) trivial (Below.refl _ _) (Nat.le_refl _) (by simp) ?_; (case hd => rfl); (case hg => rfl); (case hr => first | (go_simp; done) | (go_simp; rfl)); (case hp => exact (Reps.one (show Kd.M Kd.string _ _ _ (⟨#[97]⟩ : ByteArray) [.string (⟨#[97]⟩ : ByteArray)] from rfl) (Reps.one (show Kd.M Kd.string _ _ _ (⟨#[98]⟩ : ByteArray) [.string (⟨#[98]⟩ : ByteArray)] from rfl) (Reps.none _ _)))); intro v112 w46 ho47 hb hg_ hnew_; clear hg_ hnew_; (first | rw [← Ny111.out] at ho47 | (simp only [Int.reduceToNat] at ho47; rw [← Ny111.out] at ho47)); have n0_ := Aside0.mk (Kd.R_lower ho47 (below_size (by repeat (first | (with_reducible first | exact HB.out | apply below_alloc | apply pw_below_drewN | apply below_drew1) | exact HB.out)))); have n1_ := Aside0.mk (below_step (by repeat (first | (with_reducible first | exact HB.out | apply below_alloc | apply pw_below_drewN | apply below_drew1) | exact HB.out)) hb); clear HB; have HO113 := n0_; have HB := n1_; clear n0_ n1_; clear hb ho47) | ((with_reducible refine gate_dst (N := 24) rfl ?_); refine Kd.R_lit Kd.string _ 9 ?hg (N := 24) ?hd (xs := ([(⟨#[98]⟩ : ByteArray), (⟨#[99]⟩ : ByteArray), (⟨#[100]⟩ : ByteArray)] : List ByteArray)) (inner := [.string (⟨#[98]⟩ : ByteArray), .string (⟨#[99]⟩ : ByteArray), .string (⟨#[100]⟩ : ByteArray)]) (ok := fun _ => True) (okp := fun _ => True) ?hr ?hp (fun _ hk => hk) trivial (Below.refl _ _) (Nat.le_refl _) (by simp) ?_; (case hd => rfl); (case hg => rfl); (case hr => first | (go_simp; done) | (go_simp; rfl)); (case hp => exact (Reps.one (show Kd.M Kd.string _ _ _ (⟨#[98]⟩ : ByteArray) [.string (⟨#[98]⟩ : ByteArray)] from rfl) (Reps.one (show Kd.M Kd.string _ _ _ (⟨#[99]⟩ : ByteArray) [.string (⟨#[99]⟩ : ByteArray)] from rfl) (Reps.one (show Kd.M Kd.string _ _ _ (⟨#[100]⟩ : ByteArray) [.string (⟨#[100]⟩ : ByteArray)] from rfl) (Reps.none _ _))))); intro v115 w48 ho49 hb hg_ hnew_; clear hg_ hnew_; (first | rw [← Ny114.out] at ho49 | (simp only [Int.reduceToNat] at ho49; rw [← Ny114.out] at ho49)); have n0_ := Aside0.mk (Kd.R_elder' (by (with_reducible repeat (first | apply Kd.R_alloc | apply Kd.R_drewN | apply Kd.R_drew)); exact HO113.out) (Kd.R_base ho49) hb); have n1_ := Aside0.mk (Kd.R_lower (Kd.R_new' ho49 (Kd.R_lt (by (with_reducible repeat (first | apply Kd.R_alloc | apply Kd.R_drewN | apply Kd.R_drew)); exact HO113.out))) (below_size (by repeat (first | (with_reducible first | exact HB.out | apply below_alloc | apply pw_below_drewN | apply below_drew1) | exact HB.out)))); have n2_ := Aside0.mk (below_step (by repeat (first | (with_reducible first | exact HB.out | apply below_alloc | apply pw_below_drewN | apply below_drew1) | exact HB.out)) hb); clear HO113; clear HB; have HO113 := n0_; have HO116 := n1_; have HB := n2_; clear n0_ n1_ n2_; clear hb ho49; obtain ⟨Ao50, co50, eo50⟩ := Kd.R_slice HO113.out; subst eo50; obtain ⟨Ao51, co51, eo51⟩ := Kd.R_slice HO116.out; subst eo51) | ((with_reducible refine gate_callee (f := 18) rfl ?_); refine goesL_ (some 25) rfl rfl Tryd.func18 (by kernel_rfl) rfl #[.slice Ao50 y111.length co50, .slice Ao51 y114.length co51] rfl (by (try simp only [List.map_toArray, List.map_cons, List.map_nil]); first | done | rfl | (simp only [List.length_drop, List.length_take]; rfl) | (simp only [Int.add_zero]; rfl) | (simp; done)) ?_; (with_reducible refine (measure_Jaccard.calls kj0 _ _ y111 _ _ y114 t117 t118 _ ?side1 ?side2 ?side3 ?side4 ?sGl A26.out).mono ?_); (case sGl => exact Gl.below HGl.out (by repeat (first | (with_reducible first | exact HB.out | apply below_alloc | apply pw_below_drewN | apply below_drew1 | refine below_set ?_ (Aside0.out (by assumption))) | exact HB.out))); (case side1 => repeat (first | exact (Kd.R_reads' HO113.out).2.2 | (with_reducible refine Kd.C_alloc ?_ _) | (with_reducible refine Kd.C_drewN ?_ _) | (with_reducible refine Kd.C_drew ?_))); (case side2 => exact (Kd.R_reads' HO113.out).2.1); (case side3 => repeat (first | exact (Kd.R_reads' HO116.out).2.2 | (with_reducible refine Kd.C_alloc ?_ _) | (with_reducible refine Kd.C_drewN ?_ _) | (with_reducible refine Kd.C_drew ?_))); (case side4 => exact (Kd.R_reads' HO116.out).2.1); rintro e w52 ⟨rfl, hb⟩; refine ⟨_, rfl, ?_⟩; have n0_ := Aside0.mk (Kd.R_below (by (with_reducible repeat (first | apply Kd.R_alloc | apply Kd.R_drewN | apply Kd.R_drew)); exact HO113.out) hb); have n1_ := Aside0.mk (Kd.R_below (by (with_reducible repeat (first | apply Kd.R_alloc | apply Kd.R_drewN | apply Kd.R_drew)); exact HO116.out) hb); have n2_ := Aside0.mk (below_step (by repeat (first | (with_reducible first | exact HB.out | apply below_alloc | apply pw_below_drewN | apply below_drew1) | exact HB.out)) hb); clear HO113; clear HO116; clear HB; have HO113 := n0_; have HO116 := n1_; have HB := n2_; clear n0_ n1_ n2_; (try clear hb); (try clear hb2); (try clear hk); (try clear hi)) | ((with_reducible refine gate_callee (f := 27) rfl ?_); refine goesL_ (some 26) rfl rfl Tryd.func27 (by kernel_rfl) rfl #[.int .i64 1, .int .i64 4] rfl (by (try simp only [List.map_toArray, List.map_cons, List.map_nil]); first | done | rfl | (simp only [List.length_drop, List.length_take]; rfl) | (simp only [Int.add_zero]; rfl) | (simp; done)) ?_; (with_reducible refine (cleanselaw04_of.calls 1 4 t119 t120 _ A27.out).mono ?_); rintro e w53 ⟨rfl, hb⟩; refine ⟨_, rfl, ?_⟩; have n0_ := Aside0.mk (Kd.R_below (by (with_reducible repeat (first | apply Kd.R_alloc | apply Kd.R_drewN | apply Kd.R_drew)); exact HO113.out) hb); have n1_ := Aside0.mk (Kd.R_below (by (with_reducible repeat (first | apply Kd.R_alloc | apply Kd.R_drewN | apply Kd.R_drew)); exact HO116.out) hb); have n2_ := Aside0.mk (below_step (by repeat (first | (with_reducible first | exact HB.out | apply below_alloc | apply pw_below_drewN | apply below_drew1) | exact HB.out)) hb); clear HO113; clear HO116; clear HB; have HO113 := n0_; have HO116 := n1_; have HB := n2_; clear n0_ n1_ n2_; (try clear hb); (try clear hb2); (try clear hk); (try clear hi)) | (go_at_call 22; (with_reducible refine (measure_Jaro.calls kj0 (⟨#[109, 97, 114, 116, 104, 97]⟩ : ByteArray) (⟨#[109, 97, 114, 104, 116, 97]⟩ : ByteArray) t121 t122 _ ?sGl A29.out).mono ?_); (case sGl => exact Gl.below HGl.out (by repeat (first | (with_reducible first | exact HB.out | apply below_alloc | apply pw_below_drewN | apply below_drew1 | refine below_set ?_ (Aside0.out (by assumption))) | exact HB.out))); rintro e w54 ⟨rfl, hb⟩; have n0_ := Aside0.mk (Kd.R_below (by (with_reducible repeat (first | apply Kd.R_alloc | apply Kd.R_drewN | apply Kd.R_drew)); exact HO113.out) hb); have n1_ := Aside0.mk (Kd.R_below (by (with_reducible repeat (first | apply Kd.R_alloc | apply Kd.R_drewN | apply Kd.R_drew)); exact HO116.out) hb); have n2_ := Aside0.mk (below_step (by repeat (first | (with_reducible first | exact HB.out | apply below_alloc | apply pw_below_drewN | apply below_drew1) | exact HB.out)) hb); clear HO113; clear HO116; clear HB; have HO113 := n0_; have HO116 := n1_; have HB := n2_; clear n0_ n1_ n2_; (try clear hb); (try clear hb2); (try clear hk); (try clear hi)) | (go_at_call 27; (with_reducible refine (cleanselaw04_of.calls 17 18 t123 t124 _ A30.out).mono ?_); rintro e w55 ⟨rfl, hb⟩; have n0_ := Aside0.mk (Kd.R_below (by (with_reducible repeat (first | apply Kd.R_alloc | apply Kd.R_drewN | apply Kd.R_drew)); exact HO113.out) hb); have n1_ := Aside0.mk (Kd.R_below (by (with_reducible repeat (first | apply Kd.R_alloc | apply Kd.R_drewN | apply Kd.R_drew)); exact HO116.out) hb); have n2_ := Aside0.mk (below_step (by repeat (first | (with_reducible first | exact HB.out | apply below_alloc | apply pw_below_drewN | apply below_drew1) | exact HB.out)) hb); clear HO113; clear HO116; clear HB; have HO113 := n0_; have HO116 := n1_; have HB := n2_; clear n0_ n1_ n2_; (try clear hb); (try clear hb2); (try clear hk); (try clear hi)))
            go_meet
            case rel => exact ⟨_, (false), (by first | rfl | (simp; done) | (simp [*]; done) | (simp [bne_nil_isEmpty]; done)), H', ⟨by have := HJ0.out; first | omega | exact Nat.le_refl _⟩, ⟨by repeat (first | (with_reducible first | exact HB.out | apply below_alloc | apply pw_below_drewN | apply below_drew1) | exact HB.out)⟩⟩
        · rw [if_neg c28] at H
          have c28b0 : (t117 == t119 && (t118 == t120)) = false := by simpa using c28
          (try (have c28b1 : decide (t117 = t119 && (t118 == t120)) = false := by simpa using c28))
          (try (have c28b2 : (t117 == t119 && (t118 == t120)) = false := by simpa using c28))
          (try (have c28b3 : ¬ (t117 = t119 && (t118 == t120)) := by simpa using c28))
          clear c28
          (first | rw [c28b0] | rw [c28b1] | (simp only [i64_w, i32_w]; rw [c28b0]) | skip)
          have H' := Aside0.mk H
          clear H
          go_wp2_with (first | ((with_reducible refine gate_dst (N := 23) rfl ?_); refine Kd.R_lit Kd.string _ 9 ?hg (N := 23) ?hd (xs := ([(⟨#[97]⟩ : ByteArray), (⟨#[98]⟩ : ByteArray)] : List ByteArray)) (inner := [.string (⟨#[97]⟩ : ByteArray), .string (⟨#[98]⟩ : ByteArray)]) (ok := fun _ => True) (okp := fun _ => True) ?hr ?hp (fun _ hk => hk) trivial (Below.refl _ _) (Nat.le_refl _) (by simp) ?_; (case hd => rfl); (case hg => rfl); (case hr => first | (go_simp; done) | (go_simp; rfl)); (case hp => exact (Reps.one (show Kd.M Kd.string _ _ _ (⟨#[97]⟩ : ByteArray) [.string (⟨#[97]⟩ : ByteArray)] from rfl) (Reps.one (show Kd.M Kd.string _ _ _ (⟨#[98]⟩ : ByteArray) [.string (⟨#[98]⟩ : ByteArray)] from rfl) (Reps.none _ _)))); intro v112 w56 ho57 hb hg_ hnew_; clear hg_ hnew_; (first | rw [← Ny111.out] at ho57 | (simp only [Int.reduceToNat] at ho57; rw [← Ny111.out] at ho57)); have n0_ := Aside0.mk (Kd.R_lower ho57 (below_size (by repeat (first | (with_reducible first | exact HB.out | apply below_alloc | apply pw_below_drewN | apply below_drew1) | exact HB.out)))); have n1_ := Aside0.mk (below_step (by repeat (first | (with_reducible first | exact HB.out | apply below_alloc | apply pw_below_drewN | apply below_drew1) | exact HB.out)) hb); clear HB; have HO113 := n0_; have HB := n1_; clear n0_ n1_; clear hb ho57) | ((with_reducible refine gate_dst (N := 24) rfl ?_); refine Kd.R_lit Kd.string _ 9 ?hg (N := 24) ?hd (xs := ([(⟨#[98]⟩ : ByteArray), (⟨#[99]⟩ : ByteArray), (⟨#[100]⟩ : ByteArray)] : List ByteArray)) (inner := [.string (⟨#[98]⟩ : ByteArray), .string (⟨#[99]⟩ : ByteArray), .string (⟨#[100]⟩ : ByteArray)]) (ok := fun _ => True) (okp := fun _ => True) ?hr ?hp (fun _ hk => hk) trivial (Below.refl _ _) (Nat.le_refl _) (by simp) ?_; (case hd => rfl); (case hg => rfl); (case hr => first | (go_simp; done) | (go_simp; rfl)); (case hp => exact (Reps.one (show Kd.M Kd.string _ _ _ (⟨#[98]⟩ : ByteArray) [.string (⟨#[98]⟩ : ByteArray)] from rfl) (Reps.one (show Kd.M Kd.string _ _ _ (⟨#[99]⟩ : ByteArray) [.string (⟨#[99]⟩ : ByteArray)] from rfl) (Reps.one (show Kd.M Kd.string _ _ _ (⟨#[100]⟩ : ByteArray) [.string (⟨#[100]⟩ : ByteArray)] from rfl) (Reps.none _ _))))); intro v115 w58 ho59 hb hg_ hnew_; clear hg_ hnew_; (first | rw [← Ny114.out] at ho59 | (simp only [Int.reduceToNat] at ho59; rw [← Ny114.out] at ho59)); have n0_ := Aside0.mk (Kd.R_elder' (by (with_reducible repeat (first | apply Kd.R_alloc | apply Kd.R_drewN | apply Kd.R_drew)); exact HO113.out) (Kd.R_base ho59) hb); have n1_ := Aside0.mk (Kd.R_lower (Kd.R_new' ho59 (Kd.R_lt (by (with_reducible repeat (first | apply Kd.R_alloc | apply Kd.R_drewN | apply Kd.R_drew)); exact HO113.out))) (below_size (by repeat (first | (with_reducible first | exact HB.out | apply below_alloc | apply pw_below_drewN | apply below_drew1) | exact HB.out)))); have n2_ := Aside0.mk (below_step (by repeat (first | (with_reducible first | exact HB.out | apply below_alloc | apply pw_below_drewN | apply below_drew1) | exact HB.out)) hb); clear HO113; clear HB; have HO113 := n0_; have HO116 := n1_; have HB := n2_; clear n0_ n1_ n2_; clear hb ho59; obtain ⟨Ao60, co60, eo60⟩ := Kd.R_slice HO113.out; subst eo60; obtain ⟨Ao61, co61, eo61⟩ := Kd.R_slice HO116.out; subst eo61) | ((with_reducible refine gate_callee (f := 18) rfl ?_); refine goesL_ (some 25) rfl rfl Tryd.func18 (by kernel_rfl) rfl #[.slice Ao60 y111.length co60, .slice Ao61 y114.length co61] rfl (by (try simp only [List.map_toArray, List.map_cons, List.map_nil]); first | done | rfl | (simp only [List.length_drop, List.length_take]; rfl) | (simp only [Int.add_zero]; rfl) | (simp; done)) ?_; (with_reducible refine (measure_Jaccard.calls kj0 _ _ y111 _ _ y114 t117 t118 _ ?side1 ?side2 ?side3 ?side4 ?sGl A26.out).mono ?_); (case sGl => exact Gl.below HGl.out (by repeat (first | (with_reducible first | exact HB.out | apply below_alloc | apply pw_below_drewN | apply below_drew1 | refine below_set ?_ (Aside0.out (by assumption))) | exact HB.out))); (case side1 => repeat (first | exact (Kd.R_reads' HO113.out).2.2 | (with_reducible refine Kd.C_alloc ?_ _) | (with_reducible refine Kd.C_drewN ?_ _) | (with_reducible refine Kd.C_drew ?_))); (case side2 => exact (Kd.R_reads' HO113.out).2.1); (case side3 => repeat (first | exact (Kd.R_reads' HO116.out).2.2 | (with_reducible refine Kd.C_alloc ?_ _) | (with_reducible refine Kd.C_drewN ?_ _) | (with_reducible refine Kd.C_drew ?_))); (case side4 => exact (Kd.R_reads' HO116.out).2.1); rintro e w62 ⟨rfl, hb⟩; refine ⟨_, rfl, ?_⟩; have n0_ := Aside0.mk (Kd.R_below (by (with_reducible repeat (first | apply Kd.R_alloc | apply Kd.R_drewN | apply Kd.R_drew)); exact HO113.out) hb); have n1_ := Aside0.mk (Kd.R_below (by (with_reducible repeat (first | apply Kd.R_alloc | apply Kd.R_drewN | apply Kd.R_drew)); exact HO116.out) hb); have n2_ := Aside0.mk (below_step (by repeat (first | (with_reducible first | exact HB.out | apply below_alloc | apply pw_below_drewN | apply below_drew1) | exact HB.out)) hb); clear HO113; clear HO116; clear HB; have HO113 := n0_; have HO116 := n1_; have HB := n2_; clear n0_ n1_ n2_; (try clear hb); (try clear hb2); (try clear hk); (try clear hi)) | ((with_reducible refine gate_callee (f := 27) rfl ?_); refine goesL_ (some 26) rfl rfl Tryd.func27 (by kernel_rfl) rfl #[.int .i64 1, .int .i64 4] rfl (by (try simp only [List.map_toArray, List.map_cons, List.map_nil]); first | done | rfl | (simp only [List.length_drop, List.length_take]; rfl) | (simp only [Int.add_zero]; rfl) | (simp; done)) ?_; (with_reducible refine (cleanselaw04_of.calls 1 4 t119 t120 _ A27.out).mono ?_); rintro e w63 ⟨rfl, hb⟩; refine ⟨_, rfl, ?_⟩; have n0_ := Aside0.mk (Kd.R_below (by (with_reducible repeat (first | apply Kd.R_alloc | apply Kd.R_drewN | apply Kd.R_drew)); exact HO113.out) hb); have n1_ := Aside0.mk (Kd.R_below (by (with_reducible repeat (first | apply Kd.R_alloc | apply Kd.R_drewN | apply Kd.R_drew)); exact HO116.out) hb); have n2_ := Aside0.mk (below_step (by repeat (first | (with_reducible first | exact HB.out | apply below_alloc | apply pw_below_drewN | apply below_drew1) | exact HB.out)) hb); clear HO113; clear HO116; clear HB; have HO113 := n0_; have HO116 := n1_; have HB := n2_; clear n0_ n1_ n2_; (try clear hb); (try clear hb2); (try clear hk); (try clear hi)))
          go_meet
          case rel => exact ⟨_, (false), (by first | rfl | (simp; done) | (simp [*]; done) | (simp [bne_nil_isEmpty]; done)), H', ⟨by have := HJ0.out; first | omega | exact Nat.le_refl _⟩, ⟨by repeat (first | (with_reducible first | exact HB.out | apply below_alloc | apply pw_below_drewN | apply below_drew1) | exact HB.out)⟩⟩
      case rest =>
        clear HC25
        try clear c1
        try clear c2
        try clear p2
        try clear c3
        try clear c3b0
        try clear c3b1
        try clear c6
        try clear c6b0
        try clear c6b1
        try clear c6b2
        try clear c8
        try clear c8b0
        try clear c8b1
        try clear c11
        try clear c14
        try clear c18
        try clear c27
        try clear c28
        try clear c28b0
        try clear c28b1
        try clear c28b2
        try clear c31
        try clear c31b0
        try clear c31b1
        try clear c31b2
        try clear p2
        obtain ⟨kq, x2_24, rfl, HA, HJ24, HB⟩ := hcut
        cases kq with
        | zero => exact absurd HA.out (by simp [cleanselaw04_head.j1])
        | succ kj24 =>
          have H := HA.out
          clear HA
          simp only [cleanselaw04_head.j1] at H
          replace H := Option.bind_eq_some_iff.mp H
          obtain ⟨⟨t129, t130, t131⟩, A640, H⟩ := H
          replace H : ((cleanselaw04_text.f (⟨#[76, 69, 69, 44, 32, 65, 110, 110]⟩ : ByteArray)).bind fun bt132 => ((measure_Of.f kj24 3 0 t129 t130 t131 bt132.1 bt132.2.1 bt132.2.2).bind fun bt135 => ((cleanselaw04_text.f (⟨#[120]⟩ : ByteArray)).bind fun bt139 => ((measure_Of.f kj24 2 0 bt139.1 bt139.2.1 bt139.2.2 2 0 (⟨#[]⟩ : ByteArray)).bind fun bt142 => (if x1_0 = true then (if x2_24 = true then ((measure_Near.f kj24 10 12 3).bind fun bt146 => ((cleanselaw04_of.f 1 2).bind fun bt148 => (if (bt146.1 == bt148.1 && (bt146.2 == bt148.2)) = true then ((measure_Near.f kj24 10 14 3).bind fun bt150 => ((cleanselaw04_of.f 0 1).bind fun bt152 => (if (bt150.1 == bt152.1 && (bt150.2 == bt152.2)) = true then ((cleanselaw04_of.f 1 1).bind fun bt154 => (if (bt135.1 == bt154.1 && (bt135.2.1 == bt154.2)) = true then (if bt135.2.2 = 0 then (some (bt142.2.2 == 10)) else (some false)) else (some false))) else (some false)))) else (some false)))) else (some false)) else (some false)))))) = some r := H
          have A64 := Aside0.mk A640
          clear A640
          replace H := Option.bind_eq_some_iff.mp H
          obtain ⟨⟨t132, t133, t134⟩, A650, H⟩ := H
          replace H : ((measure_Of.f kj24 3 0 t129 t130 t131 t132 t133 t134).bind fun bt135 => ((cleanselaw04_text.f (⟨#[120]⟩ : ByteArray)).bind fun bt139 => ((measure_Of.f kj24 2 0 bt139.1 bt139.2.1 bt139.2.2 2 0 (⟨#[]⟩ : ByteArray)).bind fun bt142 => (if x1_0 = true then (if x2_24 = true then ((measure_Near.f kj24 10 12 3).bind fun bt146 => ((cleanselaw04_of.f 1 2).bind fun bt148 => (if (bt146.1 == bt148.1 && (bt146.2 == bt148.2)) = true then ((measure_Near.f kj24 10 14 3).bind fun bt150 => ((cleanselaw04_of.f 0 1).bind fun bt152 => (if (bt150.1 == bt152.1 && (bt150.2 == bt152.2)) = true then ((cleanselaw04_of.f 1 1).bind fun bt154 => (if (bt135.1 == bt154.1 && (bt135.2.1 == bt154.2)) = true then (if bt135.2.2 = 0 then (some (bt142.2.2 == 10)) else (some false)) else (some false))) else (some false)))) else (some false)))) else (some false)) else (some false))))) = some r := H
          have A65 := Aside0.mk A650
          clear A650
          replace H := Option.bind_eq_some_iff.mp H
          obtain ⟨⟨t135, t136, t137⟩, A660, H⟩ := H
          replace H : ((cleanselaw04_text.f (⟨#[120]⟩ : ByteArray)).bind fun bt139 => ((measure_Of.f kj24 2 0 bt139.1 bt139.2.1 bt139.2.2 2 0 (⟨#[]⟩ : ByteArray)).bind fun bt142 => (if x1_0 = true then (if x2_24 = true then ((measure_Near.f kj24 10 12 3).bind fun bt146 => ((cleanselaw04_of.f 1 2).bind fun bt148 => (if (bt146.1 == bt148.1 && (bt146.2 == bt148.2)) = true then ((measure_Near.f kj24 10 14 3).bind fun bt150 => ((cleanselaw04_of.f 0 1).bind fun bt152 => (if (bt150.1 == bt152.1 && (bt150.2 == bt152.2)) = true then ((cleanselaw04_of.f 1 1).bind fun bt154 => (if (t135 == bt154.1 && (t136 == bt154.2)) = true then (if t137 = 0 then (some (bt142.2.2 == 10)) else (some false)) else (some false))) else (some false)))) else (some false)))) else (some false)) else (some false)))) = some r := H
          have A66 := Aside0.mk A660
          clear A660
          replace H := Option.bind_eq_some_iff.mp H
          obtain ⟨⟨t139, t140, t141⟩, A670, H⟩ := H
          replace H : ((measure_Of.f kj24 2 0 t139 t140 t141 2 0 (⟨#[]⟩ : ByteArray)).bind fun bt142 => (if x1_0 = true then (if x2_24 = true then ((measure_Near.f kj24 10 12 3).bind fun bt146 => ((cleanselaw04_of.f 1 2).bind fun bt148 => (if (bt146.1 == bt148.1 && (bt146.2 == bt148.2)) = true then ((measure_Near.f kj24 10 14 3).bind fun bt150 => ((cleanselaw04_of.f 0 1).bind fun bt152 => (if (bt150.1 == bt152.1 && (bt150.2 == bt152.2)) = true then ((cleanselaw04_of.f 1 1).bind fun bt154 => (if (t135 == bt154.1 && (t136 == bt154.2)) = true then (if t137 = 0 then (some (bt142.2.2 == 10)) else (some false)) else (some false))) else (some false)))) else (some false)))) else (some false)) else (some false))) = some r := H
          have A67 := Aside0.mk A670
          clear A670
          replace H := Option.bind_eq_some_iff.mp H
          obtain ⟨⟨t142, t143, t144⟩, A680, H⟩ := H
          replace H : (if x1_0 = true then (if x2_24 = true then ((measure_Near.f kj24 10 12 3).bind fun bt146 => ((cleanselaw04_of.f 1 2).bind fun bt148 => (if (bt146.1 == bt148.1 && (bt146.2 == bt148.2)) = true then ((measure_Near.f kj24 10 14 3).bind fun bt150 => ((cleanselaw04_of.f 0 1).bind fun bt152 => (if (bt150.1 == bt152.1 && (bt150.2 == bt152.2)) = true then ((cleanselaw04_of.f 1 1).bind fun bt154 => (if (t135 == bt154.1 && (t136 == bt154.2)) = true then (if t137 = 0 then (some (t144 == 10)) else (some false)) else (some false))) else (some false)))) else (some false)))) else (some false)) else (some false)) = some r := H
          have A68 := Aside0.mk A680
          clear A680
          by_cases c69 : x1_0 = true
          · subst c69
            have H1 : (if x2_24 = true then ((measure_Near.f kj24 10 12 3).bind fun bt146 => ((cleanselaw04_of.f 1 2).bind fun bt148 => (if (bt146.1 == bt148.1 && (bt146.2 == bt148.2)) = true then ((measure_Near.f kj24 10 14 3).bind fun bt150 => ((cleanselaw04_of.f 0 1).bind fun bt152 => (if (bt150.1 == bt152.1 && (bt150.2 == bt152.2)) = true then ((cleanselaw04_of.f 1 1).bind fun bt154 => (if (t135 == bt154.1 && (t136 == bt154.2)) = true then (if t137 = 0 then (some (t144 == 10)) else (some false)) else (some false))) else (some false)))) else (some false)))) else (some false)) = some r := by rw [if_pos rfl] at H; exact H
            clear H
            have H := H1
            clear H1
            by_cases c70 : x2_24 = true
            · subst c70
              have H1 : ((measure_Near.f kj24 10 12 3).bind fun bt146 => ((cleanselaw04_of.f 1 2).bind fun bt148 => (if (bt146.1 == bt148.1 && (bt146.2 == bt148.2)) = true then ((measure_Near.f kj24 10 14 3).bind fun bt150 => ((cleanselaw04_of.f 0 1).bind fun bt152 => (if (bt150.1 == bt152.1 && (bt150.2 == bt152.2)) = true then ((cleanselaw04_of.f 1 1).bind fun bt154 => (if (t135 == bt154.1 && (t136 == bt154.2)) = true then (if t137 = 0 then (some (t144 == 10)) else (some false)) else (some false))) else (some false)))) else (some false)))) = some r := by rw [if_pos rfl] at H; exact H
              clear H
              have H := H1
              clear H1
              replace H := Option.bind_eq_some_iff.mp H
              obtain ⟨⟨t146, t147⟩, A710, H⟩ := H
              replace H : ((cleanselaw04_of.f 1 2).bind fun bt148 => (if (t146 == bt148.1 && (t147 == bt148.2)) = true then ((measure_Near.f kj24 10 14 3).bind fun bt150 => ((cleanselaw04_of.f 0 1).bind fun bt152 => (if (bt150.1 == bt152.1 && (bt150.2 == bt152.2)) = true then ((cleanselaw04_of.f 1 1).bind fun bt154 => (if (t135 == bt154.1 && (t136 == bt154.2)) = true then (if t137 = 0 then (some (t144 == 10)) else (some false)) else (some false))) else (some false)))) else (some false))) = some r := H
              have A71 := Aside0.mk A710
              clear A710
              replace H := Option.bind_eq_some_iff.mp H
              obtain ⟨⟨t148, t149⟩, A720, H⟩ := H
              replace H : (if (t146 == t148 && (t147 == t149)) = true then ((measure_Near.f kj24 10 14 3).bind fun bt150 => ((cleanselaw04_of.f 0 1).bind fun bt152 => (if (bt150.1 == bt152.1 && (bt150.2 == bt152.2)) = true then ((cleanselaw04_of.f 1 1).bind fun bt154 => (if (t135 == bt154.1 && (t136 == bt154.2)) = true then (if t137 = 0 then (some (t144 == 10)) else (some false)) else (some false))) else (some false)))) else (some false)) = some r := H
              have A72 := Aside0.mk A720
              clear A720
              by_cases c73 : (t146 == t148 && (t147 == t149)) = true
              · rw [if_pos c73] at H
                have c73b0 : (t146 == t148 && (t147 == t149)) = true := c73
                (try (have c73b1 : decide (t146 = t148 && (t147 == t149)) = true := by simpa using c73))
                (try (have c73b2 : (t146 == t148 && (t147 == t149)) = true := by simpa using c73))
                clear c73
                replace H := Option.bind_eq_some_iff.mp H
                obtain ⟨⟨t150, t151⟩, A740, H⟩ := H
                replace H : ((cleanselaw04_of.f 0 1).bind fun bt152 => (if (t150 == bt152.1 && (t151 == bt152.2)) = true then ((cleanselaw04_of.f 1 1).bind fun bt154 => (if (t135 == bt154.1 && (t136 == bt154.2)) = true then (if t137 = 0 then (some (t144 == 10)) else (some false)) else (some false))) else (some false))) = some r := H
                have A74 := Aside0.mk A740
                clear A740
                replace H := Option.bind_eq_some_iff.mp H
                obtain ⟨⟨t152, t153⟩, A750, H⟩ := H
                replace H : (if (t150 == t152 && (t151 == t153)) = true then ((cleanselaw04_of.f 1 1).bind fun bt154 => (if (t135 == bt154.1 && (t136 == bt154.2)) = true then (if t137 = 0 then (some (t144 == 10)) else (some false)) else (some false))) else (some false)) = some r := H
                have A75 := Aside0.mk A750
                clear A750
                by_cases c76 : (t150 == t152 && (t151 == t153)) = true
                · rw [if_pos c76] at H
                  have c76b0 : (t150 == t152 && (t151 == t153)) = true := c76
                  (try (have c76b1 : decide (t150 = t152 && (t151 == t153)) = true := by simpa using c76))
                  (try (have c76b2 : (t150 == t152 && (t151 == t153)) = true := by simpa using c76))
                  clear c76
                  replace H := Option.bind_eq_some_iff.mp H
                  obtain ⟨⟨t154, t155⟩, A770, H⟩ := H
                  replace H : (if (t135 == t154 && (t136 == t155)) = true then (if t137 = 0 then (some (t144 == 10)) else (some false)) else (some false)) = some r := H
                  have A77 := Aside0.mk A770
                  clear A770
                  by_cases c78 : (t135 == t154 && (t136 == t155)) = true
                  · rw [if_pos c78] at H
                    have c78b0 : (t135 == t154 && (t136 == t155)) = true := c78
                    (try (have c78b1 : decide (t135 = t154 && (t136 == t155)) = true := by simpa using c78))
                    (try (have c78b2 : (t135 == t154 && (t136 == t155)) = true := by simpa using c78))
                    clear c78
                    by_cases c79 : t137 = 0
                    · rw [if_pos c79] at H
                      have c79b0 : (t137 == 0) = true := beq_iff_eq.mpr c79
                      have c79b1 : (t137 != 0) = false := bne_eq_false_iff_eq.mpr c79
                      clear c79
                      obtain rfl := Option.some.inj H
                      try go_wp2_with (first | ((with_reducible refine gate_callee (f := 33) rfl ?_); refine goesL_ (some 39) rfl rfl Tryd.func33 (by kernel_rfl) rfl #[.string (⟨#[65, 110, 110, 32, 76, 101, 101]⟩ : ByteArray)] rfl (by (try simp only [List.map_toArray, List.map_cons, List.map_nil]); first | done | rfl | (simp only [List.length_drop, List.length_take]; rfl) | (simp only [Int.add_zero]; rfl) | (simp; done)) ?_; (with_reducible refine (cleanselaw04_text.calls (⟨#[65, 110, 110, 32, 76, 101, 101]⟩ : ByteArray) t129 t130 t131 _ A64.out).mono ?_); rintro e w80 ⟨rfl, hb⟩; refine ⟨_, rfl, ?_⟩; have n0_ := Aside0.mk (below_step (by repeat (first | (with_reducible first | exact HB.out | apply below_alloc | apply pw_below_drewN | apply below_drew1) | exact HB.out)) hb); clear HB; have HB := n0_; clear n0_; (try clear hb); (try clear hb2); (try clear hk); (try clear hi)) | ((with_reducible refine gate_callee (f := 33) rfl ?_); refine goesL_ (some 40) rfl rfl Tryd.func33 (by kernel_rfl) rfl #[.string (⟨#[76, 69, 69, 44, 32, 65, 110, 110]⟩ : ByteArray)] rfl (by (try simp only [List.map_toArray, List.map_cons, List.map_nil]); first | done | rfl | (simp only [List.length_drop, List.length_take]; rfl) | (simp only [Int.add_zero]; rfl) | (simp; done)) ?_; (with_reducible refine (cleanselaw04_text.calls (⟨#[76, 69, 69, 44, 32, 65, 110, 110]⟩ : ByteArray) t132 t133 t134 _ A65.out).mono ?_); rintro e w81 ⟨rfl, hb⟩; refine ⟨_, rfl, ?_⟩; have n0_ := Aside0.mk (below_step (by repeat (first | (with_reducible first | exact HB.out | apply below_alloc | apply pw_below_drewN | apply below_drew1) | exact HB.out)) hb); clear HB; have HB := n0_; clear n0_; (try clear hb); (try clear hb2); (try clear hk); (try clear hi)) | ((with_reducible refine gate_callee (f := 20) rfl ?_); refine goesL_ (some 41) rfl rfl Tryd.func20 (by kernel_rfl) rfl #[.int .i64 3, .int .i64 0, .agg #[.int .i64 t129, .int .i64 t130, .string t131], .agg #[.int .i64 t132, .int .i64 t133, .string t134]] rfl (by (try simp only [List.map_toArray, List.map_cons, List.map_nil]); first | done | rfl | (simp only [List.length_drop, List.length_take]; rfl) | (simp only [Int.add_zero]; rfl) | (simp; done)) ?_; (with_reducible refine (measure_Of.calls kj24 3 0 t129 t130 t131 t132 t133 t134 t135 t136 t137 _ ?sGl A66.out).mono ?_); (case sGl => exact Gl.below HGl.out (by repeat (first | (with_reducible first | exact HB.out | apply below_alloc | apply pw_below_drewN | apply below_drew1 | refine below_set ?_ (Aside0.out (by assumption))) | exact HB.out))); rintro e w82 ⟨rfl, hb⟩; refine ⟨_, rfl, ?_⟩; have n0_ := Aside0.mk (below_step (by repeat (first | (with_reducible first | exact HB.out | apply below_alloc | apply pw_below_drewN | apply below_drew1) | exact HB.out)) hb); clear HB; have HB := n0_; clear n0_; (try clear hb); (try clear hb2); (try clear hk); (try clear hi)) | ((with_reducible refine gate_dst (N := 3) rfl ?_); refine box_event ?hg (N := 3) ?hd (cs := #[.int .i64 0, .int .i64 0]) (t := 32) ?hr ?_; (case hd => rfl); (case hg => rfl); (case hr => first | (go_simp; done) | (go_simp; rfl)); intro gb138 hg w83 hbox hb; have n0_ := Aside0.mk (below_step (by repeat (first | (with_reducible first | exact HB.out | apply below_alloc | apply pw_below_drewN | apply below_drew1) | exact HB.out)) hb); have n1_ := Aside0.mk (hbox); have n2_ := Aside0.mk ((by rw [hg]; exact (below_size (by repeat (first | (with_reducible first | exact HB.out | apply below_alloc | apply pw_below_drewN | apply below_drew1) | exact HB.out))) : w.heap.size ≤ gb138)); have n3_ := Aside0.mk ((by rw [hg]; exact (below_size (by repeat (first | (with_reducible first | exact HB.out | apply below_alloc | apply pw_below_drewN | apply below_drew1) | exact HB.out))) : w.heap.size ≤ gb138)); clear HB; have HB := n0_; have BK138 := n1_; have GW138 := n2_; have GE138 := n3_; clear n0_ n1_ n2_ n3_; clear hb hbox hg; have hcz84_0 : w83.cell? ⟨gb138, 0, none⟩ = some (.int .i64 0) := (blk_cell BK138.out 0).trans rfl; have hcz84_1 : w83.cell? ⟨gb138, 1, none⟩ = some (.int .i64 0) := (blk_cell BK138.out 1).trans rfl; have hfz84_0 := blk_frozen BK138.out 0; have hfz84_1 := blk_frozen BK138.out 1) | ((with_reducible refine gate_callee (f := 33) rfl ?_); refine goesL_ (some 45) rfl rfl Tryd.func33 (by kernel_rfl) rfl #[.string (⟨#[120]⟩ : ByteArray)] rfl (by (try simp only [List.map_toArray, List.map_cons, List.map_nil]); first | done | rfl | (simp only [List.length_drop, List.length_take]; rfl) | (simp only [Int.add_zero]; rfl) | (simp; done)) ?_; (with_reducible refine (cleanselaw04_text.calls (⟨#[120]⟩ : ByteArray) t139 t140 t141 _ A67.out).mono ?_); rintro e w85 ⟨rfl, hb⟩; refine ⟨_, rfl, ?_⟩; have n0_ := Aside0.mk (blk_below (g := gb138) (o := .cells #[.int .i64 t135, .int .i64 t136] 32 (0, 0)) (by (with_reducible repeat (first | refine blk_drewN ?_ _ | refine blk_drew ?_ | refine blk_alloc ?_ _)); refine blk_put (cs := #[.int .i64 t135, .int .i64 0]) ?_ 1 _ rfl; (with_reducible repeat (first | refine blk_drewN ?_ _ | refine blk_drew ?_ | refine blk_alloc ?_ _)); refine blk_put (cs := #[.int .i64 0, .int .i64 0]) ?_ 0 _ rfl; (with_reducible repeat (first | refine blk_drewN ?_ _ | refine blk_drew ?_ | refine blk_alloc ?_ _)); exact BK138.out) hb); have n1_ := Aside0.mk (below_step (by repeat (first | (with_reducible first | exact HB.out | apply below_alloc | apply pw_below_drewN | apply below_drew1 | refine below_set ?_ GE138.out) | exact HB.out)) hb); clear BK138; clear HB; have BK138 := n0_; have HB := n1_; clear n0_ n1_; (try clear hb); (try clear hb2); (try clear hk); (try clear hi)) | ((with_reducible refine gate_callee (f := 20) rfl ?_); refine goesL_ (some 47) rfl rfl Tryd.func20 (by kernel_rfl) rfl #[.int .i64 2, .int .i64 0, .agg #[.int .i64 t139, .int .i64 t140, .string t141], .agg #[.int .i64 2, .int .i64 0, .string (⟨#[]⟩ : ByteArray)]] rfl (by (try simp only [List.map_toArray, List.map_cons, List.map_nil]); first | done | rfl | (simp only [List.length_drop, List.length_take]; rfl) | (simp only [Int.add_zero]; rfl) | (simp; done)) ?_; (with_reducible refine (measure_Of.calls kj24 2 0 t139 t140 t141 2 0 (⟨#[]⟩ : ByteArray) t142 t143 t144 _ ?sGl A68.out).mono ?_); (case sGl => exact Gl.below HGl.out (by repeat (first | (with_reducible first | exact HB.out | apply below_alloc | apply pw_below_drewN | apply below_drew1 | refine below_set ?_ (Aside0.out (by assumption))) | exact HB.out))); rintro e w86 ⟨rfl, hb⟩; refine ⟨_, rfl, ?_⟩; have n0_ := Aside0.mk (blk_below (g := gb138) (o := .cells #[.int .i64 t135, .int .i64 t136] 32 (0, 0)) (by (with_reducible repeat (first | refine blk_drewN ?_ _ | refine blk_drew ?_ | refine blk_alloc ?_ _)); exact BK138.out) hb); have n1_ := Aside0.mk (below_step (by repeat (first | (with_reducible first | exact HB.out | apply below_alloc | apply pw_below_drewN | apply below_drew1 | refine below_set ?_ GE138.out) | exact HB.out)) hb); clear BK138; clear HB; have BK138 := n0_; have HB := n1_; clear n0_ n1_; (try clear hb); (try clear hb2); (try clear hk); (try clear hi)) | ((with_reducible refine gate_dst (N := 5) rfl ?_); refine box_event ?hg (N := 5) ?hd (cs := #[.int .i64 0, .int .i64 0]) (t := 32) ?hr ?_; (case hd => rfl); (case hg => rfl); (case hr => first | (go_simp; done) | (go_simp; rfl)); intro gb145 hg w87 hbox hb; have n0_ := Aside0.mk (blk_below (g := gb138) (o := .cells #[.int .i64 t135, .int .i64 t136] 32 (0, 0)) (by (with_reducible repeat (first | refine blk_drewN ?_ _ | refine blk_drew ?_ | refine blk_alloc ?_ _)); exact BK138.out) hb); have n1_ := Aside0.mk (below_step (by repeat (first | (with_reducible first | exact HB.out | apply below_alloc | apply pw_below_drewN | apply below_drew1 | refine below_set ?_ GE138.out) | exact HB.out)) hb); have n2_ := Aside0.mk (hbox); have n3_ := Aside0.mk ((by rw [hg]; exact (below_size (by repeat (first | (with_reducible first | exact HB.out | apply below_alloc | apply pw_below_drewN | apply below_drew1 | refine below_set ?_ GE138.out) | exact HB.out))) : w.heap.size ≤ gb145)); have n4_ := Aside0.mk ((by rw [hg]; exact (below_size (by repeat (first | (with_reducible first | exact HB.out | apply below_alloc | apply pw_below_drewN | apply below_drew1 | refine below_set ?_ GE138.out) | exact HB.out))) : w.heap.size ≤ gb145)); have n5_ := Aside0.mk ((by rw [hg]; exact Nat.ne_of_lt (blk_lt (g := gb138) (o := .cells #[.int .i64 t135, .int .i64 t136] 32 (0, 0)) (by (with_reducible repeat (first | refine blk_drewN ?_ _ | refine blk_drew ?_ | refine blk_alloc ?_ _)); exact BK138.out)) : gb138 ≠ gb145)); have n6_ := Aside0.mk ((by rw [hg]; exact Nat.ne_of_gt (blk_lt (g := gb138) (o := .cells #[.int .i64 t135, .int .i64 t136] 32 (0, 0)) (by (with_reducible repeat (first | refine blk_drewN ?_ _ | refine blk_drew ?_ | refine blk_alloc ?_ _)); exact BK138.out)) : gb145 ≠ gb138)); clear BK138; clear HB; have BK138 := n0_; have HB := n1_; have BK145 := n2_; have GW145 := n3_; have GE145 := n4_; have NB138_145 := n5_; have NB145_138 := n6_; clear n0_ n1_ n2_ n3_ n4_ n5_ n6_; clear hb hbox hg; have hnb88 := NB145_138.out; have hnc88 := NB138_145.out; have hcz89_0 : w87.cell? ⟨gb145, 0, none⟩ = some (.int .i64 0) := (blk_cell BK145.out 0).trans rfl; have hcz89_1 : w87.cell? ⟨gb145, 1, none⟩ = some (.int .i64 0) := (blk_cell BK145.out 1).trans rfl; have hfz89_0 := blk_frozen BK145.out 0; have hfz89_1 := blk_frozen BK145.out 1))
                      have n0_ : Aside0 (((w87.setCell ⟨gb145, 0, none⟩ (.int .i64 t142)).setCell ⟨gb145, 1, none⟩ (.int .i64 t143)).heap[gb138]? = some (.cells #[.int .i64 t135, .int .i64 t136] 32 (0, 0))) := ⟨by (with_reducible repeat (first | refine blk_drewN ?_ _ | refine blk_drew ?_ | refine blk_alloc ?_ _)); refine blk_far ?_ NB138_145.out _; (with_reducible repeat (first | refine blk_drewN ?_ _ | refine blk_drew ?_ | refine blk_alloc ?_ _)); refine blk_far ?_ NB138_145.out _; (with_reducible repeat (first | refine blk_drewN ?_ _ | refine blk_drew ?_ | refine blk_alloc ?_ _)); exact BK138.out⟩
                      have n1_ : Aside0 (((w87.setCell ⟨gb145, 0, none⟩ (.int .i64 t142)).setCell ⟨gb145, 1, none⟩ (.int .i64 t143)).heap[gb145]? = some (.cells #[.int .i64 t142, .int .i64 t143] 32 (0, 0))) := ⟨by (with_reducible repeat (first | refine blk_drewN ?_ _ | refine blk_drew ?_ | refine blk_alloc ?_ _)); refine blk_put (cs := #[.int .i64 t142, .int .i64 0]) ?_ 1 _ rfl; (with_reducible repeat (first | refine blk_drewN ?_ _ | refine blk_drew ?_ | refine blk_alloc ?_ _)); refine blk_put (cs := #[.int .i64 0, .int .i64 0]) ?_ 0 _ rfl; (with_reducible repeat (first | refine blk_drewN ?_ _ | refine blk_drew ?_ | refine blk_alloc ?_ _)); exact BK145.out⟩
                      have n2_ : Aside0 (Below w.heap.size w ((w87.setCell ⟨gb145, 0, none⟩ (.int .i64 t142)).setCell ⟨gb145, 1, none⟩ (.int .i64 t143))) := ⟨by repeat (first | (with_reducible first | exact HB.out | apply below_alloc | apply pw_below_drewN | apply below_drew1 | refine below_set ?_ GE138.out | refine below_set ?_ GE145.out) | exact HB.out)⟩
                      (try clear BK138)
                      (try clear BK145)
                      (try clear HB)
                      generalize ((w87.setCell ⟨gb145, 0, none⟩ (.int .i64 t142)).setCell ⟨gb145, 1, none⟩ (.int .i64 t143)) = w90 at n0_ n1_ n2_ ⊢
                      have BK138 := n0_
                      have BK145 := n1_
                      have HB := n2_
                      clear n0_ n1_ n2_
                      have n0_ := Aside0.mk (blk_drew BK138.out)
                      have n1_ := Aside0.mk (blk_drew BK145.out)
                      have n2_ := Aside0.mk (below_drew1 HB.out)
                      clear BK138
                      clear BK145
                      clear HB
                      have BK138 := n0_
                      have BK145 := n1_
                      have HB := n2_
                      clear n0_ n1_ n2_
                      refine start_ (n := 28) (S := fun w' => w'.cell? ⟨gb138, 0, none⟩ = some (.int .i64 t135) ∧ w'.cell? ⟨gb138, 1, none⟩ = some (.int .i64 t136)) (ds := []) #[false, false, false, false, false, false, false, false, false, false, false, false, false, false, false, false, false, false, false, false, false, false, false, false, false, false, false, false] (by kernel_rfl) rfl rfl ⟨(blk_cell BK138.out 0).trans rfl, (blk_cell BK138.out 1).trans rfl⟩ (fun hHeld => ?_); refine with_tabW cleanselaw04_head.tab5 cleanselaw04_head.bits5 (fun HT_ HW_ => ?_)
                      generalize w90.drew = w91 at BK138 BK145 HB hHeld ⊢
                      refine pure_ (i := 0) (N := some 50) (v := ?_) (a' := ?_) #[true, false, false, false, false, false, false, false, false, false, false, false, false, false, false, false, false, false, false, false, false, false, false, false, false, false, false, false] rfl rfl (any_of HT_.out (by kernel_rfl)) (fun _ _ _ h => h) (Or.inl ⟨by rfl, ?_⟩) ?_ ?_
                      rotate_left
                      · intro w'
                        go_simp
                        with_reducible rfl
                      rotate_left
                      · simp only [Act.put, List.setIfInBounds_toArray, List.set_cons_zero, List.set_cons_succ, i64_w, i32_w]
                        rfl
                      refine pure_ (i := 1) (N := some 51) (v := ?_) (a' := ?_) #[true, true, false, false, false, false, false, false, false, false, false, false, false, false, false, false, false, false, false, false, false, false, false, false, false, false, false, false] rfl rfl (any_of HT_.out (by kernel_rfl)) (fun _ _ _ h => h) (Or.inl ⟨by rfl, ?_⟩) ?_ ?_
                      rotate_left
                      · intro w'
                        go_simp
                        with_reducible rfl
                      rotate_left
                      · simp only [Act.put, List.setIfInBounds_toArray, List.set_cons_zero, List.set_cons_succ, i64_w, i32_w]
                        rfl
                      refine pure_ (i := 2) (N := some 52) (v := ?_) (a' := ?_) #[true, true, true, false, false, false, false, false, false, false, false, false, false, false, false, false, false, false, false, false, false, false, false, false, false, false, false, false] rfl rfl (any_of HT_.out (by kernel_rfl)) (fun _ _ _ h => h) (Or.inl ⟨by rfl, ?_⟩) ?_ ?_
                      rotate_left
                      · intro w'
                        go_simp
                        with_reducible rfl
                      rotate_left
                      · simp only [Act.put, List.setIfInBounds_toArray, List.set_cons_zero, List.set_cons_succ, i64_w, i32_w]
                        rfl
                      refine pure_ (i := 3) (N := some 53) (v := ?_) (a' := ?_) #[true, true, true, true, false, false, false, false, false, false, false, false, false, false, false, false, false, false, false, false, false, false, false, false, false, false, false, false] rfl rfl (any_of HT_.out (by kernel_rfl)) (fun _ _ _ h => h) (Or.inl ⟨by rfl, ?_⟩) ?_ ?_
                      rotate_left
                      · intro w'
                        go_simp
                        with_reducible rfl
                      rotate_left
                      · simp only [Act.put, List.setIfInBounds_toArray, List.set_cons_zero, List.set_cons_succ, i64_w, i32_w]
                        rfl
                      refine pure_ (i := 4) (N := some 54) (v := ?_) (a' := ?_) #[true, true, true, true, true, false, false, false, false, false, false, false, false, false, false, false, false, false, false, false, false, false, false, false, false, false, false, false] rfl rfl (any_of HT_.out (by kernel_rfl)) (fun _ _ _ h => h) (Or.inl ⟨by rfl, ?_⟩) ?_ ?_
                      rotate_left
                      · intro w'
                        go_simp
                        with_reducible rfl
                      rotate_left
                      · simp only [Act.put, List.setIfInBounds_toArray, List.set_cons_zero, List.set_cons_succ, i64_w, i32_w]
                        rfl
                      refine one_ (i := 5) (N := some 55) #[true, true, true, true, true, true, false, false, false, false, false, false, false, false, false, false, false, false, false, false, false, false, false, false, false, false, false, false] rfl rfl (one_of HT_.out (by kernel_rfl)) (by decide) (fun K hK => ?_)
                      refine goes_ Tryd.func24 (by kernel_rfl) rfl #[.int .i64 10, .int .i64 12, .int .i64 3] (by rfl) rfl rfl (by (try simp only [List.map_toArray, List.map_cons, List.map_nil]); first | done | rfl | (simp only [List.length_drop, List.length_take]; rfl) | (simp only [Int.add_zero]; rfl) | (simp; done)) ?_
                      with_reducible refine (measure_Near.calls kj24 10 12 3 t146 t147 _ ?sGl A71.out).mono ?_
                      case sGl => exact Gl.below HGl.out (by repeat (first | (with_reducible first | exact HB.out | apply below_alloc | apply pw_below_drewN | apply below_drew1 | refine below_set ?_ (Aside0.out (by assumption))) | exact HB.out))
                      rintro e w92 ⟨rfl, hb⟩
                      refine ⟨_, rfl, ?_⟩
                      have n0_ := Aside0.mk (blk_below (g := gb138) (o := .cells #[.int .i64 t135, .int .i64 t136] 32 (0, 0)) (by (with_reducible repeat (first | refine blk_drewN ?_ _ | refine blk_drew ?_ | refine blk_alloc ?_ _)); exact BK138.out) hb)
                      have n1_ := Aside0.mk (blk_below (g := gb145) (o := .cells #[.int .i64 t142, .int .i64 t143] 32 (0, 0)) (by (with_reducible repeat (first | refine blk_drewN ?_ _ | refine blk_drew ?_ | refine blk_alloc ?_ _)); exact BK145.out) hb)
                      have n2_ := Aside0.mk (below_step (by repeat (first | (with_reducible first | exact HB.out | apply below_alloc | apply pw_below_drewN | apply below_drew1 | refine below_set ?_ GE138.out | refine below_set ?_ GE145.out) | exact HB.out)) hb)
                      clear BK138
                      clear BK145
                      clear HB
                      have BK138 := n0_
                      have BK145 := n1_
                      have HB := n2_
                      clear n0_ n1_ n2_
                      (try clear hb)
                      (try clear hb2)
                      (try clear hk)
                      (try clear hi)
                      refine hK.out _ _ ⟨(blk_cell BK138.out 0).trans rfl, (blk_cell BK138.out 1).trans rfl⟩ (fun hHeld => ?_)
                      clear hK K
                      refine norm_ (a' := ?_) ?_ ?_
                      rotate_left
                      · show Act.put _ (some 55) _ = _
                        simp only [Act.put, List.setIfInBounds_toArray, List.set_cons_zero, List.set_cons_succ, i64_w, i32_w]
                        rfl
                      refine one_ (i := 6) (N := some 56) #[true, true, true, true, true, true, true, false, false, false, false, false, false, false, false, false, false, false, false, false, false, false, false, false, false, false, false, false] rfl rfl (one_of HT_.out (by kernel_rfl)) (by decide) (fun K hK => ?_)
                      refine goes_ Tryd.func27 (by kernel_rfl) rfl #[.int .i64 1, .int .i64 2] (by rfl) rfl rfl (by (try simp only [List.map_toArray, List.map_cons, List.map_nil]); first | done | rfl | (simp only [List.length_drop, List.length_take]; rfl) | (simp only [Int.add_zero]; rfl) | (simp; done)) ?_
                      with_reducible refine (cleanselaw04_of.calls 1 2 t148 t149 _ A72.out).mono ?_
                      rintro e w93 ⟨rfl, hb⟩
                      refine ⟨_, rfl, ?_⟩
                      have n0_ := Aside0.mk (blk_below (g := gb138) (o := .cells #[.int .i64 t135, .int .i64 t136] 32 (0, 0)) (by (with_reducible repeat (first | refine blk_drewN ?_ _ | refine blk_drew ?_ | refine blk_alloc ?_ _)); exact BK138.out) hb)
                      have n1_ := Aside0.mk (blk_below (g := gb145) (o := .cells #[.int .i64 t142, .int .i64 t143] 32 (0, 0)) (by (with_reducible repeat (first | refine blk_drewN ?_ _ | refine blk_drew ?_ | refine blk_alloc ?_ _)); exact BK145.out) hb)
                      have n2_ := Aside0.mk (below_step (by repeat (first | (with_reducible first | exact HB.out | apply below_alloc | apply pw_below_drewN | apply below_drew1 | refine below_set ?_ GE138.out | refine below_set ?_ GE145.out) | exact HB.out)) hb)
                      clear BK138
                      clear BK145
                      clear HB
                      have BK138 := n0_
                      have BK145 := n1_
                      have HB := n2_
                      clear n0_ n1_ n2_
                      (try clear hb)
                      (try clear hb2)
                      (try clear hk)
                      (try clear hi)
                      refine hK.out _ _ ⟨(blk_cell BK138.out 0).trans rfl, (blk_cell BK138.out 1).trans rfl⟩ (fun hHeld => ?_)
                      clear hK K
                      refine norm_ (a' := ?_) ?_ ?_
                      rotate_left
                      · show Act.put _ (some 56) _ = _
                        simp only [Act.put, List.setIfInBounds_toArray, List.set_cons_zero, List.set_cons_succ, i64_w, i32_w]
                        rfl
                      refine pure_ (i := 7) (N := some 57) (v := ?_) (a' := ?_) #[true, true, true, true, true, true, true, true, false, false, false, false, false, false, false, false, false, false, false, false, false, false, false, false, false, false, false, false] rfl rfl (any_of HT_.out (by kernel_rfl)) (fun _ _ _ h => h) (Or.inl ⟨by rfl, ?_⟩) ?_ ?_
                      rotate_left
                      · intro w'
                        go_simp
                        with_reducible rfl
                      rotate_left
                      · simp only [Act.put, List.setIfInBounds_toArray, List.set_cons_zero, List.set_cons_succ, i64_w, i32_w]
                        rfl
                      refine pure_ (i := 8) (N := some 58) (v := ?_) (a' := ?_) #[true, true, true, true, true, true, true, true, true, false, false, false, false, false, false, false, false, false, false, false, false, false, false, false, false, false, false, false] rfl rfl (any_of HT_.out (by kernel_rfl)) (fun _ _ _ h => h) (Or.inl ⟨by rfl, ?_⟩) ?_ ?_
                      rotate_left
                      · intro w'
                        go_simp
                        with_reducible rfl
                      rotate_left
                      · simp only [Act.put, List.setIfInBounds_toArray, List.set_cons_zero, List.set_cons_succ, i64_w, i32_w]
                        rfl
                      refine pure_ (i := 9) (N := some 59) (v := ?_) (a' := ?_) #[true, true, true, true, true, true, true, true, true, true, false, false, false, false, false, false, false, false, false, false, false, false, false, false, false, false, false, false] rfl rfl (any_of HT_.out (by kernel_rfl)) (fun _ _ _ h => h) (Or.inl ⟨by rfl, ?_⟩) ?_ ?_
                      rotate_left
                      · intro w'
                        go_simp
                        with_reducible rfl
                      rotate_left
                      · simp only [Act.put, List.setIfInBounds_toArray, List.set_cons_zero, List.set_cons_succ, i64_w, i32_w]
                        rfl
                      refine one_ (i := 10) (N := some 60) #[true, true, true, true, true, true, true, true, true, true, true, false, false, false, false, false, false, false, false, false, false, false, false, false, false, false, false, false] rfl rfl (one_of HT_.out (by kernel_rfl)) (by decide) (fun K hK => ?_)
                      refine goes_ Tryd.func24 (by kernel_rfl) rfl #[.int .i64 10, .int .i64 14, .int .i64 3] (by rfl) rfl rfl (by (try simp only [List.map_toArray, List.map_cons, List.map_nil]); first | done | rfl | (simp only [List.length_drop, List.length_take]; rfl) | (simp only [Int.add_zero]; rfl) | (simp; done)) ?_
                      with_reducible refine (measure_Near.calls kj24 10 14 3 t150 t151 _ ?sGl A74.out).mono ?_
                      case sGl => exact Gl.below HGl.out (by repeat (first | (with_reducible first | exact HB.out | apply below_alloc | apply pw_below_drewN | apply below_drew1 | refine below_set ?_ (Aside0.out (by assumption))) | exact HB.out))
                      rintro e w94 ⟨rfl, hb⟩
                      refine ⟨_, rfl, ?_⟩
                      have n0_ := Aside0.mk (blk_below (g := gb138) (o := .cells #[.int .i64 t135, .int .i64 t136] 32 (0, 0)) (by (with_reducible repeat (first | refine blk_drewN ?_ _ | refine blk_drew ?_ | refine blk_alloc ?_ _)); exact BK138.out) hb)
                      have n1_ := Aside0.mk (blk_below (g := gb145) (o := .cells #[.int .i64 t142, .int .i64 t143] 32 (0, 0)) (by (with_reducible repeat (first | refine blk_drewN ?_ _ | refine blk_drew ?_ | refine blk_alloc ?_ _)); exact BK145.out) hb)
                      have n2_ := Aside0.mk (below_step (by repeat (first | (with_reducible first | exact HB.out | apply below_alloc | apply pw_below_drewN | apply below_drew1 | refine below_set ?_ GE138.out | refine below_set ?_ GE145.out) | exact HB.out)) hb)
                      clear BK138
                      clear BK145
                      clear HB
                      have BK138 := n0_
                      have BK145 := n1_
                      have HB := n2_
                      clear n0_ n1_ n2_
                      (try clear hb)
                      (try clear hb2)
                      (try clear hk)
                      (try clear hi)
                      refine hK.out _ _ ⟨(blk_cell BK138.out 0).trans rfl, (blk_cell BK138.out 1).trans rfl⟩ (fun hHeld => ?_)
                      clear hK K
                      refine norm_ (a' := ?_) ?_ ?_
                      rotate_left
                      · show Act.put _ (some 60) _ = _
                        simp only [Act.put, List.setIfInBounds_toArray, List.set_cons_zero, List.set_cons_succ, i64_w, i32_w]
                        rfl
                      refine one_ (i := 11) (N := some 61) #[true, true, true, true, true, true, true, true, true, true, true, true, false, false, false, false, false, false, false, false, false, false, false, false, false, false, false, false] rfl rfl (one_of HT_.out (by kernel_rfl)) (by decide) (fun K hK => ?_)
                      refine goes_ Tryd.func27 (by kernel_rfl) rfl #[.int .i64 0, .int .i64 1] (by rfl) rfl rfl (by (try simp only [List.map_toArray, List.map_cons, List.map_nil]); first | done | rfl | (simp only [List.length_drop, List.length_take]; rfl) | (simp only [Int.add_zero]; rfl) | (simp; done)) ?_
                      with_reducible refine (cleanselaw04_of.calls 0 1 t152 t153 _ A75.out).mono ?_
                      rintro e w95 ⟨rfl, hb⟩
                      refine ⟨_, rfl, ?_⟩
                      have n0_ := Aside0.mk (blk_below (g := gb138) (o := .cells #[.int .i64 t135, .int .i64 t136] 32 (0, 0)) (by (with_reducible repeat (first | refine blk_drewN ?_ _ | refine blk_drew ?_ | refine blk_alloc ?_ _)); exact BK138.out) hb)
                      have n1_ := Aside0.mk (blk_below (g := gb145) (o := .cells #[.int .i64 t142, .int .i64 t143] 32 (0, 0)) (by (with_reducible repeat (first | refine blk_drewN ?_ _ | refine blk_drew ?_ | refine blk_alloc ?_ _)); exact BK145.out) hb)
                      have n2_ := Aside0.mk (below_step (by repeat (first | (with_reducible first | exact HB.out | apply below_alloc | apply pw_below_drewN | apply below_drew1 | refine below_set ?_ GE138.out | refine below_set ?_ GE145.out) | exact HB.out)) hb)
                      clear BK138
                      clear BK145
                      clear HB
                      have BK138 := n0_
                      have BK145 := n1_
                      have HB := n2_
                      clear n0_ n1_ n2_
                      (try clear hb)
                      (try clear hb2)
                      (try clear hk)
                      (try clear hi)
                      refine hK.out _ _ ⟨(blk_cell BK138.out 0).trans rfl, (blk_cell BK138.out 1).trans rfl⟩ (fun hHeld => ?_)
                      clear hK K
                      refine norm_ (a' := ?_) ?_ ?_
                      rotate_left
                      · show Act.put _ (some 61) _ = _
                        simp only [Act.put, List.setIfInBounds_toArray, List.set_cons_zero, List.set_cons_succ, i64_w, i32_w]
                        rfl
                      refine pure_ (i := 12) (N := some 62) (v := ?_) (a' := ?_) #[true, true, true, true, true, true, true, true, true, true, true, true, true, false, false, false, false, false, false, false, false, false, false, false, false, false, false, false] rfl rfl (any_of HT_.out (by kernel_rfl)) (fun _ _ _ h => h) (Or.inl ⟨by rfl, ?_⟩) ?_ ?_
                      rotate_left
                      · intro w'
                        go_simp
                        with_reducible rfl
                      rotate_left
                      · simp only [Act.put, List.setIfInBounds_toArray, List.set_cons_zero, List.set_cons_succ, i64_w, i32_w]
                        rfl
                      refine pure_ (i := 13) (N := some 63) (v := ?_) (a' := ?_) #[true, true, true, true, true, true, true, true, true, true, true, true, true, true, false, false, false, false, false, false, false, false, false, false, false, false, false, false] rfl rfl (any_of HT_.out (by kernel_rfl)) (fun _ _ _ h => h) (Or.inl ⟨by rfl, ?_⟩) ?_ ?_
                      rotate_left
                      · intro w'
                        go_simp
                        with_reducible rfl
                      rotate_left
                      · simp only [Act.put, List.setIfInBounds_toArray, List.set_cons_zero, List.set_cons_succ, i64_w, i32_w]
                        rfl
                      refine pure_ (i := 14) (N := some 64) (v := ?_) (a' := ?_) #[true, true, true, true, true, true, true, true, true, true, true, true, true, true, true, false, false, false, false, false, false, false, false, false, false, false, false, false] rfl rfl (any_of HT_.out (by kernel_rfl)) (fun _ _ _ h => h) (Or.inl ⟨by rfl, ?_⟩) ?_ ?_
                      rotate_left
                      · intro w'
                        go_simp
                        with_reducible rfl
                      rotate_left
                      · simp only [Act.put, List.setIfInBounds_toArray, List.set_cons_zero, List.set_cons_succ, i64_w, i32_w]
                        rfl
                      refine take_ (i := 15) (N := some 65) (v := ?_) (a' := ?_) #[true, true, true, true, true, true, true, true, true, true, true, true, true, true, true, true, false, false, false, false, false, false, false, false, false, false, false, false] rfl rfl (take_ofW HT_.out HW_.out (by kernel_rfl)) (fun _ _ _ h => h) (Or.inl ⟨by rfl, ?_⟩) hHeld ?_ ?_
                      rotate_left
                      · rintro w' ⟨s0, s1⟩
                        go_simp
                        with_reducible rfl
                      rotate_left
                      · simp only [Act.put, List.setIfInBounds_toArray, List.set_cons_zero, List.set_cons_succ, i64_w, i32_w]
                        rfl
                      refine one_ (i := 16) (N := some 66) #[true, true, true, true, true, true, true, true, true, true, true, true, true, true, true, true, true, false, false, false, false, false, false, false, false, false, false, false] rfl rfl (one_of HT_.out (by kernel_rfl)) (by decide) (fun K hK => ?_)
                      refine goes_ Tryd.func27 (by kernel_rfl) rfl #[.int .i64 1, .int .i64 1] (by rfl) rfl rfl (by (try simp only [List.map_toArray, List.map_cons, List.map_nil]); first | done | rfl | (simp only [List.length_drop, List.length_take]; rfl) | (simp only [Int.add_zero]; rfl) | (simp; done)) ?_
                      with_reducible refine (cleanselaw04_of.calls 1 1 t154 t155 _ A77.out).mono ?_
                      rintro e w96 ⟨rfl, hb⟩
                      refine ⟨_, rfl, ?_⟩
                      have n0_ := Aside0.mk (blk_below (g := gb138) (o := .cells #[.int .i64 t135, .int .i64 t136] 32 (0, 0)) (by (with_reducible repeat (first | refine blk_drewN ?_ _ | refine blk_drew ?_ | refine blk_alloc ?_ _)); exact BK138.out) hb)
                      have n1_ := Aside0.mk (blk_below (g := gb145) (o := .cells #[.int .i64 t142, .int .i64 t143] 32 (0, 0)) (by (with_reducible repeat (first | refine blk_drewN ?_ _ | refine blk_drew ?_ | refine blk_alloc ?_ _)); exact BK145.out) hb)
                      have n2_ := Aside0.mk (below_step (by repeat (first | (with_reducible first | exact HB.out | apply below_alloc | apply pw_below_drewN | apply below_drew1 | refine below_set ?_ GE138.out | refine below_set ?_ GE145.out) | exact HB.out)) hb)
                      clear BK138
                      clear BK145
                      clear HB
                      have BK138 := n0_
                      have BK145 := n1_
                      have HB := n2_
                      clear n0_ n1_ n2_
                      (try clear hb)
                      (try clear hb2)
                      (try clear hk)
                      (try clear hi)
                      refine hK.out _ _ ⟨(blk_cell BK138.out 0).trans rfl, (blk_cell BK138.out 1).trans rfl⟩ (fun hHeld => ?_)
                      clear hK K
                      refine norm_ (a' := ?_) ?_ ?_
                      rotate_left
                      · show Act.put _ (some 66) _ = _
                        simp only [Act.put, List.setIfInBounds_toArray, List.set_cons_zero, List.set_cons_succ, i64_w, i32_w]
                        rfl
                      refine pure_ (i := 17) (N := some 67) (v := ?_) (a' := ?_) #[true, true, true, true, true, true, true, true, true, true, true, true, true, true, true, true, true, true, false, false, false, false, false, false, false, false, false, false] rfl rfl (any_of HT_.out (by kernel_rfl)) (fun _ _ _ h => h) (Or.inl ⟨by rfl, ?_⟩) ?_ ?_
                      rotate_left
                      · intro w'
                        go_simp
                        with_reducible rfl
                      rotate_left
                      · simp only [Act.put, List.setIfInBounds_toArray, List.set_cons_zero, List.set_cons_succ, i64_w, i32_w]
                        rfl
                      refine pure_ (i := 18) (N := some 68) (v := ?_) (a' := ?_) #[true, true, true, true, true, true, true, true, true, true, true, true, true, true, true, true, true, true, true, false, false, false, false, false, false, false, false, false] rfl rfl (any_of HT_.out (by kernel_rfl)) (fun _ _ _ h => h) (Or.inl ⟨by rfl, ?_⟩) ?_ ?_
                      rotate_left
                      · intro w'
                        go_simp
                        with_reducible rfl
                      rotate_left
                      · simp only [Act.put, List.setIfInBounds_toArray, List.set_cons_zero, List.set_cons_succ, i64_w, i32_w]
                        rfl
                      refine pure_ (i := 19) (N := some 69) (v := ?_) (a' := ?_) #[true, true, true, true, true, true, true, true, true, true, true, true, true, true, true, true, true, true, true, true, false, false, false, false, false, false, false, false] rfl rfl (any_of HT_.out (by kernel_rfl)) (fun _ _ _ h => h) (Or.inl ⟨by rfl, ?_⟩) ?_ ?_
                      rotate_left
                      · intro w'
                        go_simp
                        with_reducible rfl
                      rotate_left
                      · simp only [Act.put, List.setIfInBounds_toArray, List.set_cons_zero, List.set_cons_succ, i64_w, i32_w]
                        rfl
                      refine pure_ (i := 20) (N := some 70) (v := ?_) (a' := ?_) #[true, true, true, true, true, true, true, true, true, true, true, true, true, true, true, true, true, true, true, true, true, false, false, false, false, false, false, false] rfl rfl (any_of HT_.out (by kernel_rfl)) (fun _ _ _ h => h) (Or.inl ⟨by rfl, ?_⟩) ?_ ?_
                      rotate_left
                      · intro w'
                        go_simp
                        with_reducible rfl
                      rotate_left
                      · simp only [Act.put, List.setIfInBounds_toArray, List.set_cons_zero, List.set_cons_succ, i64_w, i32_w]
                        rfl
                      refine pure_ (i := 21) (N := some 71) (v := ?_) (a' := ?_) #[true, true, true, true, true, true, true, true, true, true, true, true, true, true, true, true, true, true, true, true, true, true, false, false, false, false, false, false] rfl rfl (any_of HT_.out (by kernel_rfl)) (fun _ _ _ h => h) (Or.inl ⟨by rfl, ?_⟩) ?_ ?_
                      rotate_left
                      · intro w'
                        go_simp
                        with_reducible rfl
                      rotate_left
                      · simp only [Act.put, List.setIfInBounds_toArray, List.set_cons_zero, List.set_cons_succ, i64_w, i32_w]
                        rfl
                      refine pure_ (i := 22) (N := some 72) (v := ?_) (a' := ?_) #[true, true, true, true, true, true, true, true, true, true, true, true, true, true, true, true, true, true, true, true, true, true, true, false, false, false, false, false] rfl rfl (any_of HT_.out (by kernel_rfl)) (fun _ _ _ h => h) (Or.inl ⟨by rfl, ?_⟩) ?_ ?_
                      rotate_left
                      · intro w'
                        go_simp
                        with_reducible rfl
                      rotate_left
                      · simp only [Act.put, List.setIfInBounds_toArray, List.set_cons_zero, List.set_cons_succ, i64_w, i32_w]
                        rfl
                      refine pure_ (i := 23) (N := some 73) (v := ?_) (a' := ?_) #[true, true, true, true, true, true, true, true, true, true, true, true, true, true, true, true, true, true, true, true, true, true, true, true, false, false, false, false] rfl rfl (any_of HT_.out (by kernel_rfl)) (fun _ _ _ h => h) (Or.inl ⟨by rfl, ?_⟩) ?_ ?_
                      rotate_left
                      · intro w'
                        go_simp
                        with_reducible rfl
                      rotate_left
                      · simp only [Act.put, List.setIfInBounds_toArray, List.set_cons_zero, List.set_cons_succ, i64_w, i32_w]
                        rfl
                      refine pure_ (i := 24) (N := some 74) (v := ?_) (a' := ?_) #[true, true, true, true, true, true, true, true, true, true, true, true, true, true, true, true, true, true, true, true, true, true, true, true, true, false, false, false] rfl rfl (any_of HT_.out (by kernel_rfl)) (fun _ _ _ h => h) (Or.inl ⟨by rfl, ?_⟩) ?_ ?_
                      rotate_left
                      · intro w'
                        go_simp
                        with_reducible rfl
                      rotate_left
                      · simp only [Act.put, List.setIfInBounds_toArray, List.set_cons_zero, List.set_cons_succ, i64_w, i32_w]
                        rfl
                      refine pure_ (i := 25) (N := some 75) (v := ?_) (a' := ?_) #[true, true, true, true, true, true, true, true, true, true, true, true, true, true, true, true, true, true, true, true, true, true, true, true, true, true, false, false] rfl rfl (any_of HT_.out (by kernel_rfl)) (fun _ _ _ h => h) (Or.inl ⟨by rfl, ?_⟩) ?_ ?_
                      rotate_left
                      · intro w'
                        go_simp
                        with_reducible rfl
                      rotate_left
                      · simp only [Act.put, List.setIfInBounds_toArray, List.set_cons_zero, List.set_cons_succ, i64_w, i32_w]
                        rfl
                      refine pure_ (i := 26) (N := some 76) (v := ?_) (a' := ?_) #[true, true, true, true, true, true, true, true, true, true, true, true, true, true, true, true, true, true, true, true, true, true, true, true, true, true, true, false] rfl rfl (any_of HT_.out (by kernel_rfl)) (fun _ _ _ h => h) (Or.inl ⟨by rfl, ?_⟩) ?_ ?_
                      rotate_left
                      · intro w'
                        go_simp
                        with_reducible rfl
                      rotate_left
                      · simp only [Act.put, List.setIfInBounds_toArray, List.set_cons_zero, List.set_cons_succ, i64_w, i32_w]
                        rfl
                      refine pure_ (i := 27) (N := some 0) (v := ?_) (a' := ?_) #[true, true, true, true, true, true, true, true, true, true, true, true, true, true, true, true, true, true, true, true, true, true, true, true, true, true, true, true] rfl rfl (any_of HT_.out (by kernel_rfl)) (fun _ _ _ h => h) (Or.inl ⟨by rfl, ?_⟩) ?_ ?_
                      rotate_left
                      · intro w'
                        go_simp
                        with_reducible rfl
                      rotate_left
                      · simp only [Act.put, List.setIfInBounds_toArray, List.set_cons_zero, List.set_cons_succ, i64_w, i32_w]
                        rfl
                      refine done_ (done_of HT_.out (by kernel_rfl)) ?_
                      try go_wp2
                      go_ret
                      exact ⟨by first | rfl | (simp [errW_none, errW_some] <;> rfl) | (simp [*, errW_none, errW_some] <;> rfl), by repeat (first | (with_reducible first | exact HB.out | apply below_alloc | apply pw_below_drewN | apply below_drew1 | refine below_set ?_ GE138.out | refine below_set ?_ GE145.out) | exact HB.out)⟩
                    · rw [if_neg c79] at H
                      have c79b0 : (t137 == 0) = false := beq_eq_false_iff_ne.mpr c79
                      have c79b1 : (t137 != 0) = true := bne_iff_ne.mpr c79
                      exact absurd ((Option.some.inj H).trans HT.out) (by decide)
                  · rw [if_neg c78] at H
                    have c78b0 : (t135 == t154 && (t136 == t155)) = false := by simpa using c78
                    (try (have c78b1 : decide (t135 = t154 && (t136 == t155)) = false := by simpa using c78))
                    (try (have c78b2 : (t135 == t154 && (t136 == t155)) = false := by simpa using c78))
                    (try (have c78b3 : ¬ (t135 = t154 && (t136 == t155)) := by simpa using c78))
                    clear c78
                    exact absurd ((Option.some.inj H).trans HT.out) (by decide)
                · rw [if_neg c76] at H
                  have c76b0 : (t150 == t152 && (t151 == t153)) = false := by simpa using c76
                  (try (have c76b1 : decide (t150 = t152 && (t151 == t153)) = false := by simpa using c76))
                  (try (have c76b2 : (t150 == t152 && (t151 == t153)) = false := by simpa using c76))
                  (try (have c76b3 : ¬ (t150 = t152 && (t151 == t153)) := by simpa using c76))
                  clear c76
                  exact absurd ((Option.some.inj H).trans HT.out) (by decide)
              · rw [if_neg c73] at H
                have c73b0 : (t146 == t148 && (t147 == t149)) = false := by simpa using c73
                (try (have c73b1 : decide (t146 = t148 && (t147 == t149)) = false := by simpa using c73))
                (try (have c73b2 : (t146 == t148 && (t147 == t149)) = false := by simpa using c73))
                (try (have c73b3 : ¬ (t146 = t148 && (t147 == t149)) := by simpa using c73))
                clear c73
                exact absurd ((Option.some.inj H).trans HT.out) (by decide)
            · replace c70 := Bool.eq_false_iff.mpr c70
              subst c70
              have H1 : (some false) = some r := by rw [if_neg (show ¬ (false = true) by decide)] at H; exact H
              clear H
              have H := H1
              clear H1
              exact absurd ((Option.some.inj H).trans HT.out) (by decide)
          · replace c69 := Bool.eq_false_iff.mpr c69
            subst c69
            have H1 : (some false) = some r := by rw [if_neg (show ¬ (false = true) by decide)] at H; exact H
            clear H
            have H := H1
            clear H1
            exact absurd ((Option.some.inj H).trans HT.out) (by decide)

end Go.Proofs.YtgomlpndoolllaaDoor.HD

/- Parts of the proof of MRef: words, contracts and plain laws. -/
import Derived.Test.YtgomlpndoolllaaDoorMRef11
namespace Go.Proofs.YtgomlpndoolllaaDoor.Q
open Go.RowKit Go.Proofs.YtgomlpndoolllaaDoorW.PrintWords Go.Proofs.YtgomlpndoolllaaDoorW.PrintLast Go.Proofs.YtgomlpndoolllaaDoorW.PrintMore
attribute [local go_sem] max2_int min2_int max_two min_two max_three min_three max_four min_four   -- for this text's walks alone
set_option linter.unusedVariables false
set_option linter.unusedSimpArgs false

/-! ### cleanseref03_Sorted: function 55 -/
mutual
def cleanseref03_Sorted.l0 : Nat → List ByteArray → List ByteArray → Int → Option (List ByteArray)
 | 0, _, _, _ => none
 | k + 1, x0, x3, x4 => if x4 < (x0.length : Int) then (cleanseref03_Sorted.l1 k x0 x3 x4 0) else (some x3)
def cleanseref03_Sorted.l1 : Nat → List ByteArray → List ByteArray → Int → Int → Option (List ByteArray)
 | 0, _, _, _, _ => none
 | k + 1, x0, x3, x4, x5 => if x5 < (x3.length : Int) then (if 0 ≤ x5 then (if 0 ≤ x4 then (if x4 < (x0.length : Int) then (if (Op.bytesLess ((rdOf ByteArray.empty x3 x5).toList) ((rdOf ByteArray.empty x0 x4).toList)) = true then (cleanseref03_Sorted.l1 k x0 x3 x4 (wrap64 (x5 + 1))) else (if (rdOf ByteArray.empty x3 x5).toList = (rdOf ByteArray.empty x0 x4).toList then (cleanseref03_Sorted.l0 k x0 x3 (wrap64 (x4 + 1))) else ((some (([] : List ByteArray) : List ByteArray)).bind fun y270 => (if x5 ≤ (x3.length : Int) then ((some (x3.take (x5 : Int).toNat : List ByteArray)).bind fun y273 => (if y270.length + y273.length < 8796093022208 then ((some (y270 ++ y273 : List ByteArray)).bind fun y277 => (if y277.length < 8796093022208 then ((some (y277 ++ [rdOf ByteArray.empty x0 x4] : List ByteArray)).bind fun y281 => ((some (x3.drop (x5 : Int).toNat : List ByteArray)).bind fun y284 => (if y281.length + y284.length < 8796093022208 then (cleanseref03_Sorted.l0 k x0 (y281 ++ y284) (wrap64 (x4 + 1))) else (none)))) else (none))) else (none))) else (none))))) else (none)) else (none)) else (none)) else ((some (([] : List ByteArray) : List ByteArray)).bind fun y291 => (if 0 ≤ x5 then (if x5 ≤ (x3.length : Int) then ((some (x3.take (x5 : Int).toNat : List ByteArray)).bind fun y294 => (if y291.length + y294.length < 8796093022208 then ((some (y291 ++ y294 : List ByteArray)).bind fun y298 => (if 0 ≤ x4 then (if x4 < (x0.length : Int) then (if y298.length < 8796093022208 then ((some (y298 ++ [rdOf ByteArray.empty x0 x4] : List ByteArray)).bind fun y302 => ((some (x3.drop (x5 : Int).toNat : List ByteArray)).bind fun y305 => (if y302.length + y305.length < 8796093022208 then (cleanseref03_Sorted.l0 k x0 (y302 ++ y305) (wrap64 (x4 + 1))) else (none)))) else (none)) else (none)) else (none))) else (none))) else (none)) else (none)))
end
def cleanseref03_Sorted.f (k : Nat) (l0 : List ByteArray) : Option (List ByteArray) := cleanseref03_Sorted.l0 k l0 ([] : List ByteArray) 0
set_option maxHeartbeats 8000000 in
set_option maxRecDepth 100000 in
theorem cleanseref03_Sorted.calls (k : Nat) (A0 : Option Addr) (c0 : Nat) (l0 : List ByteArray) (r : List ByteArray) (w : World) (hr0 : Kd.C Kd.string w A0 l0.length l0) (hc0 : l0.length ≤ c0) (h : cleanseref03_Sorted.f k l0 = some r) :
  Calls Tryd.prog 55 #[.slice A0 l0.length c0] w fun e w' => ∃ v0_ : Value, e = .returned (v0_) ∧ Kd.R Kd.string 9 w' w.heap.size (fun _ => True) v0_ r ∧ Below w.heap.size w w' := by
 have HR0 := Aside0.mk hr0
 have HC0 := Aside0.mk hc0
 clear hr0 hc0
 have HB := Aside0.mk (Below.refl w.heap.size w)
 have H : (cleanseref03_Sorted.l0 k l0 ([] : List ByteArray) 0) = some r := h
 clear h
 have H' := Aside0.mk H
 clear H
 go_enter Tryd.func55, Tryd.ntmps55
 go_wp2
 go_loopg [3, 4] k (fun kq v3 v4 w' => ∃ (x3_1 : List ByteArray) (x4_1 : Int), v4 = .int .i64 x4_1 ∧ Aside0 (cleanseref03_Sorted.l0 kq l0 x3_1 x4_1 = some r) ∧ Aside0 (kq ≤ k) ∧ Aside0 (Kd.R Kd.string 9 w' w.heap.size (fun _ => True) v3 x3_1) ∧ Aside0 (Below w.heap.size w w'))
 case atStart => exact ⟨(([] : List ByteArray)), (0), (by rfl), H', ⟨Nat.le_refl _⟩, ⟨by (exact Kd.R_nil _ _ _ _ _)⟩, ⟨by repeat ((with_reducible (exact HB.out)))⟩⟩
 clear H'
 obtain ⟨x3_1, x4_1, rfl, HA, HK1, HO_3, HB⟩ := hrel
 cases gk with
 | zero => exact absurd HA.out (by simp [cleanseref03_Sorted.l0])
 | succ k1 =>
  have H := HA.out
  clear HA
  simp only [cleanseref03_Sorted.l0] at H
  by_cases c2 : x4_1 < (l0.length : Int)
  ·rw [if_pos c2] at H
   have c2b0 : decide (x4_1 < (l0.length : Int)) = true := decide_eq_true c2
   clear c2
   have H' := Aside0.mk H
   clear H
   go_wp2
   go_loopg [5] k1 (fun kq v5 w' => ∃ (x5_2 : Int), v5 = .int .i64 x5_2 ∧ Aside0 (cleanseref03_Sorted.l1 kq l0 x3_1 x4_1 x5_2 = some r) ∧ Aside0 (kq ≤ k1) ∧ Aside0 (Kd.R Kd.string 9 w' w.heap.size (fun _ => True) u3 x3_1) ∧ Aside0 (Below w.heap.size w w'))
   case atStart => exact ⟨(0), (by rfl), H', ⟨Nat.le_refl _⟩, ⟨by exact HO_3.out⟩, ⟨by repeat ((with_reducible (exact HB.out)))⟩⟩
   clear H'
   clear c2b0
   obtain ⟨x5_2, rfl, HA, HK2, HO_3, HB⟩ := hrel
   cases gk with
   | zero => exact absurd HA.out (by simp [cleanseref03_Sorted.l1])
   | succ k2 =>
    have H := HA.out
    clear HA
    simp only [cleanseref03_Sorted.l1] at H
    by_cases c3 : x5_2 < (x3_1.length : Int)
    ·rw [if_pos c3] at H
     have c3b0 : decide (x5_2 < (x3_1.length : Int)) = true := decide_eq_true c3
     clear c3
     by_cases c4 : 0 ≤ x5_2
     ·rw [if_pos c4] at H
      have c4b0 : decide (0 ≤ x5_2) = true := decide_eq_true c4
      clear c4
      by_cases c5 : 0 ≤ x4_1
      ·rw [if_pos c5] at H
       have c5b0 : decide (0 ≤ x4_1) = true := decide_eq_true c5
       clear c5
       by_cases c6 : x4_1 < (l0.length : Int)
       ·rw [if_pos c6] at H
        have c6b0 : decide (x4_1 < (l0.length : Int)) = true := decide_eq_true c6
        clear c6
        by_cases c7 : (Op.bytesLess ((rdOf ByteArray.empty x3_1 x5_2).toList) ((rdOf ByteArray.empty l0 x4_1).toList)) = true
        ·rw [if_pos c7] at H
         have c7b0 : (Op.bytesLess ((rdOf ByteArray.empty x3_1 x5_2).toList) ((rdOf ByteArray.empty l0 x4_1).toList)) = true := c7
         clear c7
         have H' := Aside0.mk H
         clear H
         obtain ⟨Ao8, co8, eo8⟩ := Kd.R_slice HO_3.out
         subst eo8
         have p266 : 0 ≤ (x5_2 : Int) := of_decide_eq_true (by (with_reducible assumption))
         have q266 : x5_2 < (x3_1.length : Int) := of_decide_eq_true (by (with_reducible assumption))
         obtain ⟨ad266, e266, hx266_0⟩ := Kd.at_string (Kd.R_reads' HO_3.out).2.2 x5_2 p266 q266
         cases e266
         replace p266 := eq_true p266
         replace q266 := eq_true q266
         have p267 : 0 ≤ (x4_1 : Int) := of_decide_eq_true (by (with_reducible assumption))
         have q267 : x4_1 < (l0.length : Int) := of_decide_eq_true (by (with_reducible assumption))
         obtain ⟨ad267, e267, hx267_0⟩ := Kd.at_string HR0.out x4_1 p267 q267
         cases e267
         replace hx267_0 := (HB.out.cell (World.block_lt_of_cell? w _ hx267_0)).trans hx267_0
         replace p267 := eq_true p267
         replace q267 := eq_true q267
         go_wp2
         repeat (go_quiet (fail); try go_wp2)
         go_roundg k2
         case measure => have := HK1.out; have := HK2.out; omega
         case rel => exact ⟨(wrap64 (x5_2 + 1)), (by rfl), H', ⟨by have := HK1.out; have := HK2.out; omega⟩, ⟨by (with_reducible repeat ((apply Kd.R_drewN))); exact HO_3.out⟩, ⟨by repeat ((with_reducible first | exact HB.out | apply pw_below_drewN))⟩⟩
        rw [if_neg c7] at H
        have c7b0 : (Op.bytesLess ((rdOf ByteArray.empty x3_1 x5_2).toList) ((rdOf ByteArray.empty l0 x4_1).toList)) = false := by simpa using c7
        clear c7
        by_cases c9 : (rdOf ByteArray.empty x3_1 x5_2).toList = (rdOf ByteArray.empty l0 x4_1).toList
        ·rw [if_pos c9] at H
         have c9b0 : ((rdOf ByteArray.empty x3_1 x5_2).toList == (rdOf ByteArray.empty l0 x4_1).toList) = true := beq_iff_eq.mpr c9
         have c9b1 : ((rdOf ByteArray.empty x3_1 x5_2).toList != (rdOf ByteArray.empty l0 x4_1).toList) = false := bne_eq_false_iff_eq.mpr c9
         clear c9
         have H' := Aside0.mk H
         clear H
         obtain ⟨Ao10, co10, eo10⟩ := Kd.R_slice HO_3.out
         subst eo10
         have p266 : 0 ≤ (x5_2 : Int) := of_decide_eq_true (by (with_reducible assumption))
         have q266 : x5_2 < (x3_1.length : Int) := of_decide_eq_true (by (with_reducible assumption))
         obtain ⟨ad266, e266, hx266_0⟩ := Kd.at_string (Kd.R_reads' HO_3.out).2.2 x5_2 p266 q266
         cases e266
         replace p266 := eq_true p266
         replace q266 := eq_true q266
         have p267 : 0 ≤ (x4_1 : Int) := of_decide_eq_true (by (with_reducible assumption))
         have q267 : x4_1 < (l0.length : Int) := of_decide_eq_true (by (with_reducible assumption))
         obtain ⟨ad267, e267, hx267_0⟩ := Kd.at_string HR0.out x4_1 p267 q267
         cases e267
         replace hx267_0 := (HB.out.cell (World.block_lt_of_cell? w _ hx267_0)).trans hx267_0
         replace p267 := eq_true p267
         replace q267 := eq_true q267
         have p268 : 0 ≤ (x5_2 : Int) := of_decide_eq_true (by (with_reducible assumption))
         have q268 : x5_2 < (x3_1.length : Int) := of_decide_eq_true (by (with_reducible assumption))
         obtain ⟨ad268, e268, hx268_0⟩ := Kd.at_string (Kd.R_reads' HO_3.out).2.2 x5_2 p268 q268
         obtain rfl : ad266 = ad268 := (by injection e268)
         replace p268 := eq_true p268
         replace q268 := eq_true q268
         have p269 : 0 ≤ (x4_1 : Int) := of_decide_eq_true (by (with_reducible assumption))
         have q269 : x4_1 < (l0.length : Int) := of_decide_eq_true (by (with_reducible assumption))
         obtain ⟨ad269, e269, hx269_0⟩ := Kd.at_string HR0.out x4_1 p269 q269
         obtain rfl : ad267 = ad269 := (by injection e269)
         replace hx269_0 := (HB.out.cell (World.block_lt_of_cell? w _ hx269_0)).trans hx269_0
         replace p269 := eq_true p269
         replace q269 := eq_true q269
         go_wp2
         repeat (go_quiet (fail); try go_wp2)
         go_roundg k2
         case measure => have := HK1.out; have := HK2.out; omega
         case rel => exact ⟨(x3_1), (wrap64 (x4_1 + 1)), (by rfl), H', ⟨by have := HK1.out; have := HK2.out; omega⟩, ⟨by (with_reducible repeat ((apply Kd.R_drewN))); exact HO_3.out⟩, ⟨by repeat ((with_reducible first | exact HB.out | apply pw_below_drewN))⟩⟩
        rw [if_neg c9] at H
        have c9b0 : ((rdOf ByteArray.empty x3_1 x5_2).toList == (rdOf ByteArray.empty l0 x4_1).toList) = false := beq_eq_false_iff_ne.mpr c9
        have c9b1 : ((rdOf ByteArray.empty x3_1 x5_2).toList != (rdOf ByteArray.empty l0 x4_1).toList) = true := bne_iff_ne.mpr c9
        obtain ⟨y270, hy270⟩ : ∃ y_ : List ByteArray, y_ = (([] : List ByteArray)) := ⟨_, rfl⟩
        replace H : (if x5_2 ≤ (x3_1.length : Int) then ((some (x3_1.take (x5_2 : Int).toNat : List ByteArray)).bind fun y273 => (if y270.length + y273.length < 8796093022208 then ((some (y270 ++ y273 : List ByteArray)).bind fun y277 => (if y277.length < 8796093022208 then ((some (y277 ++ [rdOf ByteArray.empty l0 x4_1] : List ByteArray)).bind fun y281 => ((some (x3_1.drop (x5_2 : Int).toNat : List ByteArray)).bind fun y284 => (if y281.length + y284.length < 8796093022208 then (cleanseref03_Sorted.l0 k2 l0 (y281 ++ y284) (wrap64 (x4_1 + 1))) else (none)))) else (none))) else (none))) else (none)) = some r := by (have H2_ := (Option.bind_some _ _).symm.trans H; rw [hy270]; with_reducible exact H2_)
        have Ny270 := Aside0.mk hy270
        clear hy270
        have c11b0 := eq_true (of_decide_eq_true (by (with_reducible assumption)) : 0 ≤ x5_2)
        by_cases c12 : x5_2 ≤ (x3_1.length : Int)
        ·rw [if_pos c12] at H
         have c12b0 := eq_true c12
         have c12b1 : decide (x5_2 ≤ (x3_1.length : Int)) = true := decide_eq_true c12
         clear c12
         obtain ⟨y273, hy273⟩ : ∃ y_ : List ByteArray, y_ = (x3_1.take (x5_2 : Int).toNat) := ⟨_, rfl⟩
         replace H : (if y270.length + y273.length < 8796093022208 then ((some (y270 ++ y273 : List ByteArray)).bind fun y277 => (if y277.length < 8796093022208 then ((some (y277 ++ [rdOf ByteArray.empty l0 x4_1] : List ByteArray)).bind fun y281 => ((some (x3_1.drop (x5_2 : Int).toNat : List ByteArray)).bind fun y284 => (if y281.length + y284.length < 8796093022208 then (cleanseref03_Sorted.l0 k2 l0 (y281 ++ y284) (wrap64 (x4_1 + 1))) else (none)))) else (none))) else (none)) = some r := by (have H2_ := (Option.bind_some _ _).symm.trans H; rw [hy273]; with_reducible exact H2_)
         have Ny273 := Aside0.mk hy273
         clear hy273
         by_cases c13 : y270.length + y273.length < 8796093022208
         ·rw [if_pos c13] at H
          have LMc13 := Aside0.mk c13
          clear c13
          obtain ⟨y277, hy277⟩ : ∃ y_ : List ByteArray, y_ = (y270 ++ y273) := ⟨_, rfl⟩
          replace H : (if y277.length < 8796093022208 then ((some (y277 ++ [rdOf ByteArray.empty l0 x4_1] : List ByteArray)).bind fun y281 => ((some (x3_1.drop (x5_2 : Int).toNat : List ByteArray)).bind fun y284 => (if y281.length + y284.length < 8796093022208 then (cleanseref03_Sorted.l0 k2 l0 (y281 ++ y284) (wrap64 (x4_1 + 1))) else (none)))) else (none)) = some r := by (have H2_ := (Option.bind_some _ _).symm.trans H; rw [hy277]; with_reducible exact H2_)
          have Ny277 := Aside0.mk hy277
          clear hy277
          by_cases c14 : y277.length < 8796093022208
          ·rw [if_pos c14] at H
           have LMc14 := Aside0.mk c14
           clear c14
           obtain ⟨y281, hy281⟩ : ∃ y_ : List ByteArray, y_ = (y277 ++ [rdOf ByteArray.empty l0 x4_1]) := ⟨_, rfl⟩
           replace H : ((some (x3_1.drop (x5_2 : Int).toNat : List ByteArray)).bind fun y284 => (if y281.length + y284.length < 8796093022208 then (cleanseref03_Sorted.l0 k2 l0 (y281 ++ y284) (wrap64 (x4_1 + 1))) else (none))) = some r := by (have H2_ := (Option.bind_some _ _).symm.trans H; rw [hy281]; with_reducible exact H2_)
           have Ny281 := Aside0.mk hy281
           clear hy281
           have c15b0 := eq_true (of_decide_eq_true (by (with_reducible assumption)) : 0 ≤ x5_2)
           have c16b0 := eq_true (of_decide_eq_true (by (with_reducible assumption)) : x5_2 ≤ (x3_1.length : Int))
           obtain ⟨y284, hy284⟩ : ∃ y_ : List ByteArray, y_ = (x3_1.drop (x5_2 : Int).toNat) := ⟨_, rfl⟩
           replace H : (if y281.length + y284.length < 8796093022208 then (cleanseref03_Sorted.l0 k2 l0 (y281 ++ y284) (wrap64 (x4_1 + 1))) else (none)) = some r := by (have H2_ := (Option.bind_some _ _).symm.trans H; rw [hy284]; with_reducible exact H2_)
           have Ny284 := Aside0.mk hy284
           clear hy284
           by_cases c17 : y281.length + y284.length < 8796093022208
           ·rw [if_pos c17] at H
            have LMc17 := Aside0.mk c17
            clear c17
            obtain ⟨y288, hy288⟩ : ∃ y_ : List ByteArray, y_ = (y281 ++ y284) := ⟨_, rfl⟩
            replace H : (cleanseref03_Sorted.l0 k2 l0 y288 (wrap64 (x4_1 + 1))) = some r := by (rw [hy288]; with_reducible exact H)
            have Ny288 := Aside0.mk hy288
            clear hy288
            have H' := Aside0.mk H
            clear H
            obtain ⟨Ao18, co18, eo18⟩ := Kd.R_slice HO_3.out
            subst eo18
            have p266 : 0 ≤ (x5_2 : Int) := of_decide_eq_true (by (with_reducible assumption))
            have q266 : x5_2 < (x3_1.length : Int) := of_decide_eq_true (by (with_reducible assumption))
            obtain ⟨ad266, e266, hx266_0⟩ := Kd.at_string (Kd.R_reads' HO_3.out).2.2 x5_2 p266 q266
            cases e266
            replace p266 := eq_true p266
            replace q266 := eq_true q266
            have p267 : 0 ≤ (x4_1 : Int) := of_decide_eq_true (by (with_reducible assumption))
            have q267 : x4_1 < (l0.length : Int) := of_decide_eq_true (by (with_reducible assumption))
            obtain ⟨ad267, e267, hx267_0⟩ := Kd.at_string HR0.out x4_1 p267 q267
            cases e267
            replace hx267_0 := (HB.out.cell (World.block_lt_of_cell? w _ hx267_0)).trans hx267_0
            replace p267 := eq_true p267
            replace q267 := eq_true q267
            have p268 : 0 ≤ (x5_2 : Int) := of_decide_eq_true (by (with_reducible assumption))
            have q268 : x5_2 < (x3_1.length : Int) := of_decide_eq_true (by (with_reducible assumption))
            obtain ⟨ad268, e268, hx268_0⟩ := Kd.at_string (Kd.R_reads' HO_3.out).2.2 x5_2 p268 q268
            obtain rfl : ad266 = ad268 := (by injection e268)
            replace p268 := eq_true p268
            replace q268 := eq_true q268
            have p269 : 0 ≤ (x4_1 : Int) := of_decide_eq_true (by (with_reducible assumption))
            have q269 : x4_1 < (l0.length : Int) := of_decide_eq_true (by (with_reducible assumption))
            obtain ⟨ad269, e269, hx269_0⟩ := Kd.at_string HR0.out x4_1 p269 q269
            obtain rfl : ad267 = ad269 := (by injection e269)
            replace hx269_0 := (HB.out.cell (World.block_lt_of_cell? w _ hx269_0)).trans hx269_0
            replace p269 := eq_true p269
            replace q269 := eq_true q269
            go_wp2_with (((with_reducible refine gate_dst (N := 45) rfl ?_); refine Kd.R_lit Kd.string _ 9 ?hg (N := 45) ?hd (xs := ([] : List ByteArray)) (inner := []) (ok := fun _ => True) (okp := fun _ => True) ?hr ?hp (fun _ hk => hk) trivial (Below.refl _ _) (Nat.le_refl _) (by simp) ?_; (case hd => rfl); (case hg => rfl); (case hr => (go_simp; rfl)); (case hp => exact (Reps.none _ _)); intro v271 w19 ho20 hb hg_ hnew_; clear hg_ hnew_; ((rw [← Ny270.out] at ho20)); have n0_ := Aside0.mk (Kd.R_elder' (by exact HO_3.out) (Kd.R_base ho20) hb); have n1_ := Aside0.mk (Kd.R_lower (Kd.R_new' ho20 (Kd.R_lt (by exact HO_3.out))) (below_size (by skip))); have n2_ := Aside0.mk (below_step (by skip) hb); clear HO_3; clear HB; have HO_3 := n0_; have HO272 := n1_; have HB := n2_; clear n0_ n1_ n2_; clear hb ho20; have q21 : (x5_2 : Int) ≤ ((x3_1.length : Int) : Int) := of_decide_eq_true (by assumption); obtain ⟨i021, hi021, _, hsz21, _⟩ := info_parts info9; have hroom21 : x3_1.length ≤ co18 := (Kd.R_reads' HO_3.out).2.1; have hC21 : Kd.C Kd.string _ (some ad266) x3_1.length x3_1 := (Kd.R_reads' HO_3.out).2.2; have hcut21 := cut_to (P := Tryd.prog) 22 9 .i64 Tryd.underlying22 hi021 (some ad266) x3_1.length co18 x5_2 (of_decide_eq_true (by assumption)) q21 hroom21; have hr21 := Kd.C_take (m := (x5_2 : Int).toNat) hC21 (by omega); have hy21 : y273.length = (x5_2 : Int).toNat := (by rw [Ny273.out, List.length_take]; omega); rw [← Ny273.out] at hr21; rw [← hy21] at hcut21; have HR276 := Aside0.mk hr21; have HC276 := Aside0.mk (show y273.length ≤ co18 from by omega); clear hr21 hC21 hroom21 hi021 hsz21; have KY21 := Aside0.mk hy21; clear hy21; have KL21 := Aside0.mk (show (x5_2 : Int).toNat ≤ x3_1.length from by omega); replace q21 := eq_true q21))
            repeat (go_quiet (((with_reducible refine gate_dst (N := 45) rfl ?_); refine Kd.R_lit Kd.string _ 9 ?hg (N := 45) ?hd (xs := ([] : List ByteArray)) (inner := []) (ok := fun _ => True) (okp := fun _ => True) ?hr ?hp (fun _ hk => hk) trivial (Below.refl _ _) (Nat.le_refl _) (by simp) ?_; (case hd => rfl); (case hg => rfl); (case hr => (go_simp; rfl)); (case hp => exact (Reps.none _ _)); intro v271 w19 ho20 hb hg_ hnew_; clear hg_ hnew_; ((rw [← Ny270.out] at ho20)); have n0_ := Aside0.mk (Kd.R_elder' (by exact HO_3.out) (Kd.R_base ho20) hb); have n1_ := Aside0.mk (Kd.R_lower (Kd.R_new' ho20 (Kd.R_lt (by exact HO_3.out))) (below_size (by skip))); have n2_ := Aside0.mk (below_step (by skip) hb); clear HO_3; clear HB; have HO_3 := n0_; have HO272 := n1_; have HB := n2_; clear n0_ n1_ n2_; clear hb ho20; have q21 : (x5_2 : Int) ≤ ((x3_1.length : Int) : Int) := of_decide_eq_true (by assumption); obtain ⟨i021, hi021, _, hsz21, _⟩ := info_parts info9; have hroom21 : x3_1.length ≤ co18 := (Kd.R_reads' HO_3.out).2.1; have hC21 : Kd.C Kd.string _ (some ad266) x3_1.length x3_1 := (Kd.R_reads' HO_3.out).2.2; have hcut21 := cut_to (P := Tryd.prog) 22 9 .i64 Tryd.underlying22 hi021 (some ad266) x3_1.length co18 x5_2 (of_decide_eq_true (by assumption)) q21 hroom21; have hr21 := Kd.C_take (m := (x5_2 : Int).toNat) hC21 (by omega); have hy21 : y273.length = (x5_2 : Int).toNat := (by rw [Ny273.out, List.length_take]; omega); rw [← Ny273.out] at hr21; rw [← hy21] at hcut21; have HR276 := Aside0.mk hr21; have HC276 := Aside0.mk (show y273.length ≤ co18 from by omega); clear hr21 hC21 hroom21 hi021 hsz21; have KY21 := Aside0.mk hy21; clear hy21; have KL21 := Aside0.mk (show (x5_2 : Int).toNat ≤ x3_1.length from by omega); replace q21 := eq_true q21)); try go_wp2_with (first | ((with_reducible refine gate_dst (N := 45) rfl ?_); refine Kd.R_lit Kd.string _ 9 ?hg (N := 45) ?hd (xs := ([] : List ByteArray)) (inner := []) (ok := fun _ => True) (okp := fun _ => True) ?hr ?hp (fun _ hk => hk) trivial (Below.refl _ _) (Nat.le_refl _) (by simp) ?_; (case hd => rfl); (case hg => rfl); (case hr => (go_simp; done)); (case hp => exact (Reps.none _ _)); intro v271 w19 ho20 hb hg_ hnew_; clear hg_ hnew_; ((rw [← Ny270.out] at ho20)); have n0_ := Aside0.mk (Kd.R_elder' (by (with_reducible repeat ((apply Kd.R_drewN))); exact HO_3.out) (Kd.R_base ho20) hb); have n1_ := Aside0.mk (Kd.R_lower (Kd.R_new' ho20 (Kd.R_lt (by (with_reducible repeat ((apply Kd.R_drewN))); exact HO_3.out))) (below_size (by repeat ((with_reducible first | exact HB.out | apply pw_below_drewN))))); have n2_ := Aside0.mk (below_step (by repeat ((with_reducible first | exact HB.out | apply pw_below_drewN))) hb); clear HO_3; clear HB; have HO_3 := n0_; have HO272 := n1_; have HB := n2_; clear n0_ n1_ n2_; clear hb ho20; have q21 : (x5_2 : Int) ≤ ((x3_1.length : Int) : Int) := of_decide_eq_true (by (with_reducible assumption)); obtain ⟨i021, hi021, _, hsz21, _⟩ := info_parts info9; have hroom21 : x3_1.length ≤ co18 := (Kd.R_reads' HO_3.out).2.1; have hC21 : Kd.C Kd.string _ (some ad266) x3_1.length x3_1 := (Kd.R_reads' HO_3.out).2.2; have hcut21 := cut_to (P := Tryd.prog) 22 9 .i64 Tryd.underlying22 hi021 (some ad266) x3_1.length co18 x5_2 (of_decide_eq_true (by (with_reducible assumption))) q21 hroom21; have hr21 := Kd.C_take (m := (x5_2 : Int).toNat) hC21 (by omega); have hy21 : y273.length = (x5_2 : Int).toNat := (by rw [Ny273.out, List.length_take]; omega); rw [← Ny273.out] at hr21; rw [← hy21] at hcut21; have HR276 := Aside0.mk hr21; have HC276 := Aside0.mk (show y273.length ≤ co18 from by omega); clear hr21 hC21 hroom21 hi021 hsz21; have KY21 := Aside0.mk hy21; clear hy21; have KL21 := Aside0.mk (show (x5_2 : Int).toNat ≤ x3_1.length from by omega); replace q21 := eq_true q21) | ((with_reducible refine gate_builtin (b := .append) (xs := #[.tmp 45, .tmp 48]) rfl ?_); at_builtin; refine Kd.R_append_rows Kd.string (w0 := w) w.heap.size rfl (.tmp 45) (.tmp 48) 22 9 (.string ⟨#[]⟩) 16 rfl Tryd.underlying22 info9 rfl (by decide) (by omega) v271 y270 y273 _ _ _ (fun k_ => some k_ ≠ (.slice (some ad266) x3_1.length co18 : Value).ownBlock) (fun _ => False) rfl rfl ?aO ?aR (fun _ _ h => h) (fun _ h => h.elim) ?aF ?aB ?aS ?aL ?_; (case aR => repeat ((exact (by exact HR276.out)))); (case aB => exact HB.out); (case aF => exact (fun k_ hk => Kd.fresh' (Kd.R_lt (by exact HO_3.out)) k_ hk)); (case aO => exact (by exact Kd.R_mono HO272.out (fun _ hk => hk.2))); (case aS => exact (below_size HB.out)); (case aL => have := LMc13.out; omega); intro v278 w22 ho hb hg hat; rw [← Ny277.out] at ho; have n0_ := Aside0.mk (Kd.R_after (ok := (fun _ => True)) (by exact HO_3.out) hg hat); have n1_ := Aside0.mk (hb); have n2_ := Aside0.mk ((show Kd.C Kd.string w22 (some ad266) y273.length y273 from by rw [Ny273.out]; exact Kd.C_take (m := (x5_2 : Int).toNat) ((Kd.R_reads' (Kd.R_after (ok := (fun _ => True)) (by exact HO_3.out) hg hat)).2.2) KL21.out)); have n3_ := Aside0.mk (ho); clear HO_3; clear HB; clear HR276; clear HO272; have HO_3 := n0_; have HB := n1_; have HR276 := n2_; have HO279 := n3_; clear n0_ n1_ n2_ n3_; clear ho hb hg hat; have p280 : 0 ≤ (x4_1 : Int) := of_decide_eq_true (by (with_reducible assumption)); have q280 : x4_1 < (l0.length : Int) := of_decide_eq_true (by (with_reducible assumption)); obtain ⟨ad280, e280, hx280_0⟩ := Kd.at_string HR0.out x4_1 p280 q280; obtain rfl : ad267 = ad280 := (by injection e280); replace hx280_0 := (HB.out.cell (World.block_lt_of_cell? w _ hx280_0)).trans hx280_0; replace p280 := eq_true p280; replace q280 := eq_true q280) | ((with_reducible refine gate_builtin (b := .append) (xs := #[.tmp 50, .tmp 55]) rfl ?_); at_builtin; refine Kd.R_append Kd.string (w0 := w) w.heap.size rfl (.tmp 50) (.tmp 55) 22 9 (.string ⟨#[]⟩) 16 rfl Tryd.underlying22 info9 rfl (by decide) (by omega) v278 y277 (rdOf ByteArray.empty l0 x4_1) [.string (rdOf ByteArray.empty l0 x4_1)] (fun k_ => some k_ ≠ (.slice (some ad266) x3_1.length co18 : Value).ownBlock) (fun _ => False) rfl rfl ?aP (fun _ hk => hk.elim) ?aF ?aO ?aB ?aS ?aL ?_; (case aP => exact rfl); (case aB => exact HB.out); (case aF => exact (fun k_ hk => Kd.fresh' (Kd.R_lt (by exact HO_3.out)) k_ hk)); (case aO => exact (by exact HO279.out)); (case aS => exact (below_size HB.out)); (case aL => have := LMc14.out; omega); intro v282 w23 ho hb hg hat; rw [← Ny281.out] at ho; have n0_ := Aside0.mk (Kd.R_after (ok := (fun _ => True)) (by exact HO_3.out) hg hat); have n1_ := Aside0.mk (hb); have n2_ := Aside0.mk ((show Kd.C Kd.string w23 (some ad266) y273.length y273 from by rw [Ny273.out]; exact Kd.C_take (m := (x5_2 : Int).toNat) ((Kd.R_reads' (Kd.R_after (ok := (fun _ => True)) (by exact HO_3.out) hg hat)).2.2) KL21.out)); have n3_ := Aside0.mk (ho); clear HO_3; clear HB; clear HR276; clear HO279; have HO_3 := n0_; have HB := n1_; have HR276 := n2_; have HO283 := n3_; clear n0_ n1_ n2_ n3_; clear ho hb hg hat; have q24 : (x5_2 : Int) ≤ ((x3_1.length : Int) : Int) := of_decide_eq_true (by (with_reducible assumption)); obtain ⟨i024, hi024, _, hsz24, _⟩ := info_parts info9; have hroom24 : x3_1.length ≤ co18 := (Kd.R_reads' HO_3.out).2.1; have hC24 : Kd.C Kd.string _ (some ad266) x3_1.length x3_1 := (Kd.R_reads' HO_3.out).2.2; have q024 : (0 : Int) ≤ (x5_2 : Int) := of_decide_eq_true (by (with_reducible assumption)); have hcut24 := cut_from (P := Tryd.prog) 22 9 .i64 Tryd.underlying22 hi024 1 hsz24 (some ad266) x3_1.length co18 x5_2 q024 q24; have hr24 := Kd.C_drop (m := (x5_2 : Int).toNat) (c := co18) hC24 (by omega) hroom24; obtain ⟨A24, hA24⟩ : ∃ A1, A1 = (if co18 = (x5_2 : Int).toNat then (some ad266) else ((some ad266) : Option Addr).map (·.add ((x5_2 : Int).toNat * 1))) := ⟨_, rfl⟩; obtain ⟨c24, hc24⟩ : ∃ c1, c1 = co18 - (x5_2 : Int).toNat := ⟨_, rfl⟩; have hy24 : y284.length = x3_1.length - (x5_2 : Int).toNat := (by rw [Ny284.out, List.length_drop] <;> omega); rw [show (x3_1).drop (x5_2 : Int).toNat = y284 from Ny284.out.symm] at hr24; replace hr24 : Kd.C Kd.string _ A24 y284.length y284 := (by rw [hA24]; exact hr24); rw [← hy24, ← hA24, ← hc24] at hcut24; have HR287 := Aside0.mk hr24; have HC287 := Aside0.mk (show y284.length ≤ c24 from by rw [hy24, hc24]; exact Nat.sub_le_sub_right hroom24 _); clear hr24 hC24 hroom24 hi024 hsz24 hc24; have KY24 := Aside0.mk hy24; have KA24 := Aside0.mk hA24; clear hy24 hA24; have KL24 := Aside0.mk (show (x5_2 : Int).toNat ≤ x3_1.length from by omega); replace q24 := eq_true q24) | ((with_reducible refine gate_builtin (b := .append) (xs := #[.tmp 57, .tmp 60]) rfl ?_); at_builtin; refine Kd.R_append_rows Kd.string (w0 := w) w.heap.size rfl (.tmp 57) (.tmp 60) 22 9 (.string ⟨#[]⟩) 16 rfl Tryd.underlying22 info9 rfl (by decide) (by omega) v282 y281 y284 _ _ _ (fun k_ => some k_ ≠ (.slice (some ad266) x3_1.length co18 : Value).ownBlock) (fun _ => False) rfl rfl ?aO ?aR (fun _ _ h => h) (fun _ h => h.elim) ?aF ?aB ?aS ?aL ?_; (case aR => repeat ((exact (by exact HR287.out)))); (case aB => exact HB.out); (case aF => exact (fun k_ hk => Kd.fresh' (Kd.R_lt (by exact HO_3.out)) k_ hk)); (case aO => exact (by exact HO283.out)); (case aS => exact (below_size HB.out)); (case aL => have := LMc17.out; omega); intro v289 w25 ho hb hg hat; rw [← Ny288.out] at ho; have n0_ := Aside0.mk (Kd.R_after (ok := (fun _ => True)) (by exact HO_3.out) hg hat); have n1_ := Aside0.mk (hb); have n2_ := Aside0.mk ((show Kd.C Kd.string w25 (some ad266) y273.length y273 from by rw [Ny273.out]; exact Kd.C_take (m := (x5_2 : Int).toNat) ((Kd.R_reads' (Kd.R_after (ok := (fun _ => True)) (by exact HO_3.out) hg hat)).2.2) KL21.out)); have n3_ := Aside0.mk ((show Kd.C Kd.string w25 A24 y284.length y284 from by rw [Ny284.out, KA24.out]; exact Kd.C_drop (m := (x5_2 : Int).toNat) (c := co18) ((Kd.R_reads' (Kd.R_after (ok := (fun _ => True)) (by exact HO_3.out) hg hat)).2.2) KL24.out ((Kd.R_reads' (Kd.R_after (ok := (fun _ => True)) (by exact HO_3.out) hg hat)).2.1))); have n4_ := Aside0.mk (ho); clear HO_3; clear HB; clear HR276; clear HR287; clear HO283; have HO_3 := n0_; have HB := n1_; have HR276 := n2_; have HR287 := n3_; have HO290 := n4_; clear n0_ n1_ n2_ n3_ n4_; clear ho hb hg hat)))
            go_roundg k2
            case measure => have := HK1.out; have := HK2.out; omega
            case rel => exact ⟨(y288), (wrap64 (x4_1 + 1)), (by rfl), H', ⟨by have := HK1.out; have := HK2.out; omega⟩, ⟨by exact Kd.R_mono HO290.out (fun _ hk => trivial)⟩, ⟨by repeat ((with_reducible (exact HB.out)))⟩⟩
           rw [if_neg c17] at H
           exact absurd H (by simp)
          rw [if_neg c14] at H
          exact absurd H (by simp)
         rw [if_neg c13] at H
         exact absurd H (by simp)
        rw [if_neg c12] at H
        exact absurd H (by simp)
       rw [if_neg c6] at H
       exact absurd H (by simp)
      rw [if_neg c5] at H
      exact absurd H (by simp)
     rw [if_neg c4] at H
     exact absurd H (by simp)
    rw [if_neg c3] at H
    have c3b0 : decide (x5_2 < (x3_1.length : Int)) = false := decide_eq_false c3
    clear c3
    obtain ⟨y291, hy291⟩ : ∃ y_ : List ByteArray, y_ = (([] : List ByteArray)) := ⟨_, rfl⟩
    replace H : (if 0 ≤ x5_2 then (if x5_2 ≤ (x3_1.length : Int) then ((some (x3_1.take (x5_2 : Int).toNat : List ByteArray)).bind fun y294 => (if y291.length + y294.length < 8796093022208 then ((some (y291 ++ y294 : List ByteArray)).bind fun y298 => (if 0 ≤ x4_1 then (if x4_1 < (l0.length : Int) then (if y298.length < 8796093022208 then ((some (y298 ++ [rdOf ByteArray.empty l0 x4_1] : List ByteArray)).bind fun y302 => ((some (x3_1.drop (x5_2 : Int).toNat : List ByteArray)).bind fun y305 => (if y302.length + y305.length < 8796093022208 then (cleanseref03_Sorted.l0 k2 l0 (y302 ++ y305) (wrap64 (x4_1 + 1))) else (none)))) else (none)) else (none)) else (none))) else (none))) else (none)) else (none)) = some r := by (have H2_ := (Option.bind_some _ _).symm.trans H; rw [hy291]; with_reducible exact H2_)
    have Ny291 := Aside0.mk hy291
    clear hy291
    by_cases c26 : 0 ≤ x5_2
    ·rw [if_pos c26] at H
     have c26b0 := eq_true c26
     have c26b1 : decide (0 ≤ x5_2) = true := decide_eq_true c26
     clear c26
     by_cases c27 : x5_2 ≤ (x3_1.length : Int)
     ·rw [if_pos c27] at H
      have c27b0 := eq_true c27
      have c27b1 : decide (x5_2 ≤ (x3_1.length : Int)) = true := decide_eq_true c27
      clear c27
      obtain ⟨y294, hy294⟩ : ∃ y_ : List ByteArray, y_ = (x3_1.take (x5_2 : Int).toNat) := ⟨_, rfl⟩
      replace H : (if y291.length + y294.length < 8796093022208 then ((some (y291 ++ y294 : List ByteArray)).bind fun y298 => (if 0 ≤ x4_1 then (if x4_1 < (l0.length : Int) then (if y298.length < 8796093022208 then ((some (y298 ++ [rdOf ByteArray.empty l0 x4_1] : List ByteArray)).bind fun y302 => ((some (x3_1.drop (x5_2 : Int).toNat : List ByteArray)).bind fun y305 => (if y302.length + y305.length < 8796093022208 then (cleanseref03_Sorted.l0 k2 l0 (y302 ++ y305) (wrap64 (x4_1 + 1))) else (none)))) else (none)) else (none)) else (none))) else (none)) = some r := by (have H2_ := (Option.bind_some _ _).symm.trans H; rw [hy294]; with_reducible exact H2_)
      have Ny294 := Aside0.mk hy294
      clear hy294
      by_cases c28 : y291.length + y294.length < 8796093022208
      ·rw [if_pos c28] at H
       have LMc28 := Aside0.mk c28
       clear c28
       obtain ⟨y298, hy298⟩ : ∃ y_ : List ByteArray, y_ = (y291 ++ y294) := ⟨_, rfl⟩
       replace H : (if 0 ≤ x4_1 then (if x4_1 < (l0.length : Int) then (if y298.length < 8796093022208 then ((some (y298 ++ [rdOf ByteArray.empty l0 x4_1] : List ByteArray)).bind fun y302 => ((some (x3_1.drop (x5_2 : Int).toNat : List ByteArray)).bind fun y305 => (if y302.length + y305.length < 8796093022208 then (cleanseref03_Sorted.l0 k2 l0 (y302 ++ y305) (wrap64 (x4_1 + 1))) else (none)))) else (none)) else (none)) else (none)) = some r := by (have H2_ := (Option.bind_some _ _).symm.trans H; rw [hy298]; with_reducible exact H2_)
       have Ny298 := Aside0.mk hy298
       clear hy298
       by_cases c29 : 0 ≤ x4_1
       ·rw [if_pos c29] at H
        have c29b0 : decide (0 ≤ x4_1) = true := decide_eq_true c29
        clear c29
        by_cases c30 : x4_1 < (l0.length : Int)
        ·rw [if_pos c30] at H
         have c30b0 : decide (x4_1 < (l0.length : Int)) = true := decide_eq_true c30
         clear c30
         by_cases c31 : y298.length < 8796093022208
         ·rw [if_pos c31] at H
          have LMc31 := Aside0.mk c31
          clear c31
          obtain ⟨y302, hy302⟩ : ∃ y_ : List ByteArray, y_ = (y298 ++ [rdOf ByteArray.empty l0 x4_1]) := ⟨_, rfl⟩
          replace H : ((some (x3_1.drop (x5_2 : Int).toNat : List ByteArray)).bind fun y305 => (if y302.length + y305.length < 8796093022208 then (cleanseref03_Sorted.l0 k2 l0 (y302 ++ y305) (wrap64 (x4_1 + 1))) else (none))) = some r := by (have H2_ := (Option.bind_some _ _).symm.trans H; rw [hy302]; with_reducible exact H2_)
          have Ny302 := Aside0.mk hy302
          clear hy302
          have c32b0 := eq_true (of_decide_eq_true (by (with_reducible assumption)) : 0 ≤ x5_2)
          have c33b0 := eq_true (of_decide_eq_true (by (with_reducible assumption)) : x5_2 ≤ (x3_1.length : Int))
          obtain ⟨y305, hy305⟩ : ∃ y_ : List ByteArray, y_ = (x3_1.drop (x5_2 : Int).toNat) := ⟨_, rfl⟩
          replace H : (if y302.length + y305.length < 8796093022208 then (cleanseref03_Sorted.l0 k2 l0 (y302 ++ y305) (wrap64 (x4_1 + 1))) else (none)) = some r := by (have H2_ := (Option.bind_some _ _).symm.trans H; rw [hy305]; with_reducible exact H2_)
          have Ny305 := Aside0.mk hy305
          clear hy305
          by_cases c34 : y302.length + y305.length < 8796093022208
          ·rw [if_pos c34] at H
           have LMc34 := Aside0.mk c34
           clear c34
           obtain ⟨y309, hy309⟩ : ∃ y_ : List ByteArray, y_ = (y302 ++ y305) := ⟨_, rfl⟩
           replace H : (cleanseref03_Sorted.l0 k2 l0 y309 (wrap64 (x4_1 + 1))) = some r := by (rw [hy309]; with_reducible exact H)
           have Ny309 := Aside0.mk hy309
           clear hy309
           have H' := Aside0.mk H
           clear H
           obtain ⟨Ao35, co35, eo35⟩ := Kd.R_slice HO_3.out
           subst eo35
           go_wp2_with (((with_reducible refine gate_dst (N := 45) rfl ?_); refine Kd.R_lit Kd.string _ 9 ?hg (N := 45) ?hd (xs := ([] : List ByteArray)) (inner := []) (ok := fun _ => True) (okp := fun _ => True) ?hr ?hp (fun _ hk => hk) trivial (Below.refl _ _) (Nat.le_refl _) (by simp) ?_; (case hd => rfl); (case hg => rfl); (case hr => (go_simp; rfl)); (case hp => exact (Reps.none _ _)); intro v292 w36 ho37 hb hg_ hnew_; clear hg_ hnew_; ((rw [← Ny291.out] at ho37)); have n0_ := Aside0.mk (Kd.R_elder' (by exact HO_3.out) (Kd.R_base ho37) hb); have n1_ := Aside0.mk (Kd.R_lower (Kd.R_new' ho37 (Kd.R_lt (by exact HO_3.out))) (below_size (by skip))); have n2_ := Aside0.mk (below_step (by skip) hb); clear HO_3; clear HB; have HO_3 := n0_; have HO293 := n1_; have HB := n2_; clear n0_ n1_ n2_; clear hb ho37; have q38 : (x5_2 : Int) ≤ ((x3_1.length : Int) : Int) := of_decide_eq_true (by assumption); obtain ⟨i038, hi038, _, hsz38, _⟩ := info_parts info9; have hroom38 : x3_1.length ≤ co35 := (Kd.R_reads' HO_3.out).2.1; have hC38 : Kd.C Kd.string _ Ao35 x3_1.length x3_1 := (Kd.R_reads' HO_3.out).2.2; have hcut38 := cut_to (P := Tryd.prog) 22 9 .i64 Tryd.underlying22 hi038 Ao35 x3_1.length co35 x5_2 (of_decide_eq_true (by assumption)) q38 hroom38; have hr38 := Kd.C_take (m := (x5_2 : Int).toNat) hC38 (by omega); have hy38 : y294.length = (x5_2 : Int).toNat := (by rw [Ny294.out, List.length_take]; omega); rw [← Ny294.out] at hr38; rw [← hy38] at hcut38; have HR297 := Aside0.mk hr38; have HC297 := Aside0.mk (show y294.length ≤ co35 from by omega); clear hr38 hC38 hroom38 hi038 hsz38; have KY38 := Aside0.mk hy38; clear hy38; have KL38 := Aside0.mk (show (x5_2 : Int).toNat ≤ x3_1.length from by omega); replace q38 := eq_true q38))
           repeat (go_quiet (((with_reducible refine gate_dst (N := 45) rfl ?_); refine Kd.R_lit Kd.string _ 9 ?hg (N := 45) ?hd (xs := ([] : List ByteArray)) (inner := []) (ok := fun _ => True) (okp := fun _ => True) ?hr ?hp (fun _ hk => hk) trivial (Below.refl _ _) (Nat.le_refl _) (by simp) ?_; (case hd => rfl); (case hg => rfl); (case hr => (go_simp; rfl)); (case hp => exact (Reps.none _ _)); intro v292 w36 ho37 hb hg_ hnew_; clear hg_ hnew_; ((rw [← Ny291.out] at ho37)); have n0_ := Aside0.mk (Kd.R_elder' (by exact HO_3.out) (Kd.R_base ho37) hb); have n1_ := Aside0.mk (Kd.R_lower (Kd.R_new' ho37 (Kd.R_lt (by exact HO_3.out))) (below_size (by skip))); have n2_ := Aside0.mk (below_step (by skip) hb); clear HO_3; clear HB; have HO_3 := n0_; have HO293 := n1_; have HB := n2_; clear n0_ n1_ n2_; clear hb ho37; have q38 : (x5_2 : Int) ≤ ((x3_1.length : Int) : Int) := of_decide_eq_true (by assumption); obtain ⟨i038, hi038, _, hsz38, _⟩ := info_parts info9; have hroom38 : x3_1.length ≤ co35 := (Kd.R_reads' HO_3.out).2.1; have hC38 : Kd.C Kd.string _ Ao35 x3_1.length x3_1 := (Kd.R_reads' HO_3.out).2.2; have hcut38 := cut_to (P := Tryd.prog) 22 9 .i64 Tryd.underlying22 hi038 Ao35 x3_1.length co35 x5_2 (of_decide_eq_true (by assumption)) q38 hroom38; have hr38 := Kd.C_take (m := (x5_2 : Int).toNat) hC38 (by omega); have hy38 : y294.length = (x5_2 : Int).toNat := (by rw [Ny294.out, List.length_take]; omega); rw [← Ny294.out] at hr38; rw [← hy38] at hcut38; have HR297 := Aside0.mk hr38; have HC297 := Aside0.mk (show y294.length ≤ co35 from by omega); clear hr38 hC38 hroom38 hi038 hsz38; have KY38 := Aside0.mk hy38; clear hy38; have KL38 := Aside0.mk (show (x5_2 : Int).toNat ≤ x3_1.length from by omega); replace q38 := eq_true q38)); try go_wp2_with (first | ((with_reducible refine gate_dst (N := 45) rfl ?_); refine Kd.R_lit Kd.string _ 9 ?hg (N := 45) ?hd (xs := ([] : List ByteArray)) (inner := []) (ok := fun _ => True) (okp := fun _ => True) ?hr ?hp (fun _ hk => hk) trivial (Below.refl _ _) (Nat.le_refl _) (by simp) ?_; (case hd => rfl); (case hg => rfl); (case hr => (go_simp; done)); (case hp => exact (Reps.none _ _)); intro v292 w36 ho37 hb hg_ hnew_; clear hg_ hnew_; ((rw [← Ny291.out] at ho37)); have n0_ := Aside0.mk (Kd.R_elder' (by (with_reducible repeat ((apply Kd.R_drewN))); exact HO_3.out) (Kd.R_base ho37) hb); have n1_ := Aside0.mk (Kd.R_lower (Kd.R_new' ho37 (Kd.R_lt (by (with_reducible repeat ((apply Kd.R_drewN))); exact HO_3.out))) (below_size (by repeat ((with_reducible first | exact HB.out | apply pw_below_drewN))))); have n2_ := Aside0.mk (below_step (by repeat ((with_reducible first | exact HB.out | apply pw_below_drewN))) hb); clear HO_3; clear HB; have HO_3 := n0_; have HO293 := n1_; have HB := n2_; clear n0_ n1_ n2_; clear hb ho37; have q38 : (x5_2 : Int) ≤ ((x3_1.length : Int) : Int) := of_decide_eq_true (by (with_reducible assumption)); obtain ⟨i038, hi038, _, hsz38, _⟩ := info_parts info9; have hroom38 : x3_1.length ≤ co35 := (Kd.R_reads' HO_3.out).2.1; have hC38 : Kd.C Kd.string _ Ao35 x3_1.length x3_1 := (Kd.R_reads' HO_3.out).2.2; have hcut38 := cut_to (P := Tryd.prog) 22 9 .i64 Tryd.underlying22 hi038 Ao35 x3_1.length co35 x5_2 (of_decide_eq_true (by (with_reducible assumption))) q38 hroom38; have hr38 := Kd.C_take (m := (x5_2 : Int).toNat) hC38 (by omega); have hy38 : y294.length = (x5_2 : Int).toNat := (by rw [Ny294.out, List.length_take]; omega); rw [← Ny294.out] at hr38; rw [← hy38] at hcut38; have HR297 := Aside0.mk hr38; have HC297 := Aside0.mk (show y294.length ≤ co35 from by omega); clear hr38 hC38 hroom38 hi038 hsz38; have KY38 := Aside0.mk hy38; clear hy38; have KL38 := Aside0.mk (show (x5_2 : Int).toNat ≤ x3_1.length from by omega); replace q38 := eq_true q38) | ((with_reducible refine gate_builtin (b := .append) (xs := #[.tmp 45, .tmp 48]) rfl ?_); at_builtin; refine Kd.R_append_rows Kd.string (w0 := w) w.heap.size rfl (.tmp 45) (.tmp 48) 22 9 (.string ⟨#[]⟩) 16 rfl Tryd.underlying22 info9 rfl (by decide) (by omega) v292 y291 y294 _ _ _ (fun k_ => some k_ ≠ (.slice Ao35 x3_1.length co35 : Value).ownBlock) (fun _ => False) rfl rfl ?aO ?aR (fun _ _ h => h) (fun _ h => h.elim) ?aF ?aB ?aS ?aL ?_; (case aR => repeat ((exact (by exact HR297.out)))); (case aB => exact HB.out); (case aF => exact (fun k_ hk => Kd.fresh' (Kd.R_lt (by exact HO_3.out)) k_ hk)); (case aO => exact (by exact Kd.R_mono HO293.out (fun _ hk => hk.2))); (case aS => exact (below_size HB.out)); (case aL => have := LMc28.out; omega); intro v299 w39 ho hb hg hat; rw [← Ny298.out] at ho; have n0_ := Aside0.mk (Kd.R_after (ok := (fun _ => True)) (by exact HO_3.out) hg hat); have n1_ := Aside0.mk (hb); have n2_ := Aside0.mk ((show Kd.C Kd.string w39 Ao35 y294.length y294 from by rw [Ny294.out]; exact Kd.C_take (m := (x5_2 : Int).toNat) ((Kd.R_reads' (Kd.R_after (ok := (fun _ => True)) (by exact HO_3.out) hg hat)).2.2) KL38.out)); have n3_ := Aside0.mk (ho); clear HO_3; clear HB; clear HR297; clear HO293; have HO_3 := n0_; have HB := n1_; have HR297 := n2_; have HO300 := n3_; clear n0_ n1_ n2_ n3_; clear ho hb hg hat; have p301 : 0 ≤ (x4_1 : Int) := of_decide_eq_true (by (with_reducible assumption)); have q301 : x4_1 < (l0.length : Int) := of_decide_eq_true (by (with_reducible assumption)); obtain ⟨ad301, e301, hx301_0⟩ := Kd.at_string HR0.out x4_1 p301 q301; cases e301; replace hx301_0 := (HB.out.cell (World.block_lt_of_cell? w _ hx301_0)).trans hx301_0; replace p301 := eq_true p301; replace q301 := eq_true q301) | ((with_reducible refine gate_builtin (b := .append) (xs := #[.tmp 50, .tmp 55]) rfl ?_); at_builtin; refine Kd.R_append Kd.string (w0 := w) w.heap.size rfl (.tmp 50) (.tmp 55) 22 9 (.string ⟨#[]⟩) 16 rfl Tryd.underlying22 info9 rfl (by decide) (by omega) v299 y298 (rdOf ByteArray.empty l0 x4_1) [.string (rdOf ByteArray.empty l0 x4_1)] (fun k_ => some k_ ≠ (.slice Ao35 x3_1.length co35 : Value).ownBlock) (fun _ => False) rfl rfl ?aP (fun _ hk => hk.elim) ?aF ?aO ?aB ?aS ?aL ?_; (case aP => exact rfl); (case aB => exact HB.out); (case aF => exact (fun k_ hk => Kd.fresh' (Kd.R_lt (by exact HO_3.out)) k_ hk)); (case aO => exact (by exact HO300.out)); (case aS => exact (below_size HB.out)); (case aL => have := LMc31.out; omega); intro v303 w40 ho hb hg hat; rw [← Ny302.out] at ho; have n0_ := Aside0.mk (Kd.R_after (ok := (fun _ => True)) (by exact HO_3.out) hg hat); have n1_ := Aside0.mk (hb); have n2_ := Aside0.mk ((show Kd.C Kd.string w40 Ao35 y294.length y294 from by rw [Ny294.out]; exact Kd.C_take (m := (x5_2 : Int).toNat) ((Kd.R_reads' (Kd.R_after (ok := (fun _ => True)) (by exact HO_3.out) hg hat)).2.2) KL38.out)); have n3_ := Aside0.mk (ho); clear HO_3; clear HB; clear HR297; clear HO300; have HO_3 := n0_; have HB := n1_; have HR297 := n2_; have HO304 := n3_; clear n0_ n1_ n2_ n3_; clear ho hb hg hat; have q41 : (x5_2 : Int) ≤ ((x3_1.length : Int) : Int) := of_decide_eq_true (by (with_reducible assumption)); obtain ⟨i041, hi041, _, hsz41, _⟩ := info_parts info9; have hroom41 : x3_1.length ≤ co35 := (Kd.R_reads' HO_3.out).2.1; have hC41 : Kd.C Kd.string _ Ao35 x3_1.length x3_1 := (Kd.R_reads' HO_3.out).2.2; have q041 : (0 : Int) ≤ (x5_2 : Int) := of_decide_eq_true (by (with_reducible assumption)); have hcut41 := cut_from (P := Tryd.prog) 22 9 .i64 Tryd.underlying22 hi041 1 hsz41 Ao35 x3_1.length co35 x5_2 q041 q41; have hr41 := Kd.C_drop (m := (x5_2 : Int).toNat) (c := co35) hC41 (by omega) hroom41; obtain ⟨A41, hA41⟩ : ∃ A1, A1 = (if co35 = (x5_2 : Int).toNat then Ao35 else (Ao35 : Option Addr).map (·.add ((x5_2 : Int).toNat * 1))) := ⟨_, rfl⟩; obtain ⟨c41, hc41⟩ : ∃ c1, c1 = co35 - (x5_2 : Int).toNat := ⟨_, rfl⟩; have hy41 : y305.length = x3_1.length - (x5_2 : Int).toNat := (by rw [Ny305.out, List.length_drop] <;> omega); rw [show (x3_1).drop (x5_2 : Int).toNat = y305 from Ny305.out.symm] at hr41; replace hr41 : Kd.C Kd.string _ A41 y305.length y305 := (by rw [hA41]; exact hr41); rw [← hy41, ← hA41, ← hc41] at hcut41; have HR308 := Aside0.mk hr41; have HC308 := Aside0.mk (show y305.length ≤ c41 from by rw [hy41, hc41]; exact Nat.sub_le_sub_right hroom41 _); clear hr41 hC41 hroom41 hi041 hsz41 hc41; have KY41 := Aside0.mk hy41; have KA41 := Aside0.mk hA41; clear hy41 hA41; have KL41 := Aside0.mk (show (x5_2 : Int).toNat ≤ x3_1.length from by omega); replace q41 := eq_true q41) | ((with_reducible refine gate_builtin (b := .append) (xs := #[.tmp 57, .tmp 60]) rfl ?_); at_builtin; refine Kd.R_append_rows Kd.string (w0 := w) w.heap.size rfl (.tmp 57) (.tmp 60) 22 9 (.string ⟨#[]⟩) 16 rfl Tryd.underlying22 info9 rfl (by decide) (by omega) v303 y302 y305 _ _ _ (fun k_ => some k_ ≠ (.slice Ao35 x3_1.length co35 : Value).ownBlock) (fun _ => False) rfl rfl ?aO ?aR (fun _ _ h => h) (fun _ h => h.elim) ?aF ?aB ?aS ?aL ?_; (case aR => repeat ((exact (by exact HR308.out)))); (case aB => exact HB.out); (case aF => exact (fun k_ hk => Kd.fresh' (Kd.R_lt (by exact HO_3.out)) k_ hk)); (case aO => exact (by exact HO304.out)); (case aS => exact (below_size HB.out)); (case aL => have := LMc34.out; omega); intro v310 w42 ho hb hg hat; rw [← Ny309.out] at ho; have n0_ := Aside0.mk (Kd.R_after (ok := (fun _ => True)) (by exact HO_3.out) hg hat); have n1_ := Aside0.mk (hb); have n2_ := Aside0.mk ((show Kd.C Kd.string w42 Ao35 y294.length y294 from by rw [Ny294.out]; exact Kd.C_take (m := (x5_2 : Int).toNat) ((Kd.R_reads' (Kd.R_after (ok := (fun _ => True)) (by exact HO_3.out) hg hat)).2.2) KL38.out)); have n3_ := Aside0.mk ((show Kd.C Kd.string w42 A41 y305.length y305 from by rw [Ny305.out, KA41.out]; exact Kd.C_drop (m := (x5_2 : Int).toNat) (c := co35) ((Kd.R_reads' (Kd.R_after (ok := (fun _ => True)) (by exact HO_3.out) hg hat)).2.2) KL41.out ((Kd.R_reads' (Kd.R_after (ok := (fun _ => True)) (by exact HO_3.out) hg hat)).2.1))); have n4_ := Aside0.mk (ho); clear HO_3; clear HB; clear HR297; clear HR308; clear HO304; have HO_3 := n0_; have HB := n1_; have HR297 := n2_; have HR308 := n3_; have HO311 := n4_; clear n0_ n1_ n2_ n3_ n4_; clear ho hb hg hat)))
           go_roundg k2
           case measure => have := HK1.out; have := HK2.out; omega
           case rel => exact ⟨(y309), (wrap64 (x4_1 + 1)), (by rfl), H', ⟨by have := HK1.out; have := HK2.out; omega⟩, ⟨by exact Kd.R_mono HO311.out (fun _ hk => trivial)⟩, ⟨by repeat ((with_reducible (exact HB.out)))⟩⟩
          rw [if_neg c34] at H
          exact absurd H (by simp)
         rw [if_neg c31] at H
         exact absurd H (by simp)
        rw [if_neg c30] at H
        exact absurd H (by simp)
       rw [if_neg c29] at H
       exact absurd H (by simp)
      rw [if_neg c28] at H
      exact absurd H (by simp)
     rw [if_neg c27] at H
     exact absurd H (by simp)
    rw [if_neg c26] at H
    exact absurd H (by simp)
  rw [if_neg c2] at H
  have c2b0 : decide (x4_1 < (l0.length : Int)) = false := decide_eq_false c2
  clear c2
  obtain rfl := Option.some.inj H
  go_wp2
  go_ret
  exact ⟨_, by rfl, by exact HO_3.out, by repeat ((with_reducible (exact HB.out)))⟩

end Go.Proofs.YtgomlpndoolllaaDoor.Q

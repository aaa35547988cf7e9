/- Parts of the proof of MRef: words, contracts and plain laws. -/
import Derived.Test.YtgomlpndoolllaaDoorMRef3
import Derived.Test.YtgomlpndoolllaaDoorMRef11
import Derived.Test.YtgomlpndoolllaaDoorMRef12
import Derived.Test.YtgomlpndoolllaaDoorMRef13
import Derived.Test.YtgomlpndoolllaaDoorMRef14
import Derived.Test.YtgomlpndoolllaaDoorMRef21
import Derived.Test.YtgomlpndoolllaaDoorMRef22
section
namespace Go.Proofs.YtgomlpndoolllaaDoor.Q
open Go.RowKit Go.Proofs.YtgomlpndoolllaaDoorW.PrintWords Go.Proofs.YtgomlpndoolllaaDoorW.PrintLast Go.Proofs.YtgomlpndoolllaaDoorW.PrintMore
attribute [local go_sem] max2_int min2_int max_two min_two max_three min_three max_four min_four   -- for this text's walks alone
set_option linter.unusedVariables false
set_option linter.unusedSimpArgs false

-- by hand: function 56 (cleanseref03_Words)

/-! ### cleanseref03_Tokens: function 41 -/
def cleanseref03_Tokens.f (k : Nat) (a0 : ByteArray) : Option (List ByteArray) := (cleanseref03_Words.f a0).bind fun t312 => ((cleanseref03_Sorted.f k t312).bind fun t315 => (some t315))
set_option maxHeartbeats 8000000 in
set_option maxRecDepth 100000 in
theorem cleanseref03_Tokens.calls (k : Nat) (a0 : ByteArray) (r : List ByteArray) (w : World) (h : cleanseref03_Tokens.f k a0 = some r) :
  Calls Tryd.prog 41 #[.string a0] w fun e w' => ∃ v0_ : Value, e = .returned (v0_) ∧ Kd.R Kd.string 9 w' w.heap.size (fun _ => True) v0_ r ∧ Below w.heap.size w w' := by
 have HB := Aside0.mk (Below.refl w.heap.size w)
 have H : ((cleanseref03_Words.f a0).bind fun t312 => ((cleanseref03_Sorted.f k t312).bind fun t315 => (some t315))) = some r := h
 clear h
 replace H := Option.bind_eq_some_iff.mp H
 obtain ⟨t312, A20, H⟩ := H
 replace H : ((cleanseref03_Sorted.f k t312).bind fun t315 => (some t315)) = some r := H
 have A2 := Aside0.mk A20
 clear A20
 replace H := Option.bind_eq_some_iff.mp H
 obtain ⟨t315, A30, H⟩ := H
 replace H : (some t315) = some r := H
 have A3 := Aside0.mk A30
 clear A30
 obtain rfl := Option.some.inj H
 go_enter Tryd.func41, Tryd.ntmps41
 go_wp2_with (first | ((with_reducible refine gate_callee (f := 56) rfl ?_); refine goesL_ (some 4) rfl rfl Tryd.func56 (by kernel_rfl) rfl #[.string a0] rfl (by (try simp only [List.map_toArray, List.map_cons, List.map_nil]); rfl) ?_; (with_reducible refine (cleanseref03_Words.calls a0 t312 _ A2.out).mono ?_); rintro e w4 ⟨v313, rfl, ho0, hb⟩; refine ⟨_, rfl, ?_⟩; have n0_ := Aside0.mk (Kd.R_lower ho0 (below_size HB.out)); have n1_ := Aside0.mk (below_step HB.out hb); clear HB; have HO314 := n0_; have HB := n1_; clear n0_ n1_; (try clear hb); (try clear ho0); obtain ⟨Ao5, co5, eo5⟩ := Kd.R_slice HO314.out; subst eo5) | ((with_reducible refine gate_callee (f := 55) rfl ?_); refine goesL_ (some 5) rfl rfl Tryd.func55 (by kernel_rfl) rfl #[.slice Ao5 t312.length co5] rfl (by (try simp only [List.map_toArray, List.map_cons, List.map_nil]); rfl) ?_; (with_reducible refine (cleanseref03_Sorted.calls k _ _ t312 t315 _ ?side1 ?side2 A3.out).mono ?_); (case side1 => repeat ((exact (Kd.R_reads' HO314.out).2.2))); (case side2 => exact (Kd.R_reads' HO314.out).2.1); rintro e w6 ⟨v316, rfl, ho0, hb⟩; refine ⟨_, rfl, ?_⟩; have n0_ := Aside0.mk (Kd.R_elder' (by exact HO314.out) (Kd.R_base ho0) hb); have n1_ := Aside0.mk (Kd.R_lower (Kd.R_new' ho0 (Kd.R_lt (by exact HO314.out))) (below_size HB.out)); have n2_ := Aside0.mk (below_step HB.out hb); clear HO314; clear HB; have HO314 := n0_; have HO317 := n1_; have HB := n2_; clear n0_ n1_ n2_; (try clear hb); (try clear ho0)))
 go_ret
 exact ⟨_, by rfl, by exact Kd.R_mono HO317.out (fun _ hk => trivial), by repeat ((with_reducible (exact HB.out)))⟩

/-! ### cleanseref03_Fold: function 42 -/
def cleanseref03_Fold.l0 : Nat → List ByteArray → ByteArray → Int → Option (ByteArray)
 | 0, _, _, _ => none
 | k + 1, x3, x4, x5 => if x5 < (x3.length : Int) then (if x5 > 0 then (if x4.size + 1 ≤ 9223372036854775807 then (if 0 ≤ x5 then (if (x4 ++ (⟨#[32]⟩ : ByteArray)).size + (rdOf ByteArray.empty x3 x5).size ≤ 9223372036854775807 then (cleanseref03_Fold.l0 k x3 ((x4 ++ (⟨#[32]⟩ : ByteArray)) ++ (rdOf ByteArray.empty x3 x5)) (wrap64 (x5 + 1))) else (none)) else (none)) else (none)) else (if 0 ≤ x5 then (if x4.size + (rdOf ByteArray.empty x3 x5).size ≤ 9223372036854775807 then (cleanseref03_Fold.l0 k x3 (x4 ++ (rdOf ByteArray.empty x3 x5)) (wrap64 (x5 + 1))) else (none)) else (none))) else (some x4)
def cleanseref03_Fold.f (k : Nat) (a0 : ByteArray) : Option (ByteArray) := (cleanseref03_Words.f a0).bind fun t318 => (cleanseref03_Fold.l0 k t318 (⟨#[]⟩ : ByteArray) 0)
set_option maxHeartbeats 8000000 in
set_option maxRecDepth 100000 in
theorem cleanseref03_Fold.calls (k : Nat) (a0 : ByteArray) (r : ByteArray) (w : World) (h : cleanseref03_Fold.f k a0 = some r) :
  Calls Tryd.prog 42 #[.string a0] w fun e w' => e = .returned (.string r) ∧ Below w.heap.size w w' := by
 have HB := Aside0.mk (Below.refl w.heap.size w)
 have H : ((cleanseref03_Words.f a0).bind fun t318 => (cleanseref03_Fold.l0 k t318 (⟨#[]⟩ : ByteArray) 0)) = some r := h
 clear h
 replace H := Option.bind_eq_some_iff.mp H
 obtain ⟨t318, A20, H⟩ := H
 replace H : (cleanseref03_Fold.l0 k t318 (⟨#[]⟩ : ByteArray) 0) = some r := H
 have A2 := Aside0.mk A20
 clear A20
 have H' := Aside0.mk H
 clear H
 go_enter Tryd.func42, Tryd.ntmps42
 go_wp2_with (first | ((with_reducible refine gate_callee (f := 56) rfl ?_); refine goesL_ (some 7) rfl rfl Tryd.func56 (by kernel_rfl) rfl #[.string a0] rfl (by (try simp only [List.map_toArray, List.map_cons, List.map_nil]); rfl) ?_; (with_reducible refine (cleanseref03_Words.calls a0 t318 _ A2.out).mono ?_); rintro e w3 ⟨v319, rfl, ho0, hb⟩; refine ⟨_, rfl, ?_⟩; have n0_ := Aside0.mk (Kd.R_lower ho0 (below_size HB.out)); have n1_ := Aside0.mk (below_step HB.out hb); clear HB; have HO320 := n0_; have HB := n1_; clear n0_ n1_; (try clear hb); (try clear ho0)))
 go_loopg [4, 5] k (fun kq v4 v5 w' => ∃ (x4_1 : ByteArray) (x5_1 : Int), v4 = .string x4_1 ∧ v5 = .int .i64 x5_1 ∧ Aside0 (cleanseref03_Fold.l0 kq t318 x4_1 x5_1 = some r) ∧ Aside0 (kq ≤ k) ∧ Aside0 (Kd.R Kd.string 9 w' w.heap.size (fun _ => True) v319 t318) ∧ Aside0 (Below w.heap.size w w'))
 case atStart => exact ⟨((⟨#[]⟩ : ByteArray)), (0), (by rfl), (by rfl), H', ⟨Nat.le_refl _⟩, ⟨by exact HO320.out⟩, ⟨by repeat ((with_reducible (exact HB.out)))⟩⟩
 clear H'
 obtain ⟨x4_1, x5_1, rfl, rfl, HA, HK1, HO_3, HB⟩ := hrel
 cases gk with
 | zero => exact absurd HA.out (by simp [cleanseref03_Fold.l0])
 | succ k1 =>
  have H := HA.out
  clear HA
  simp only [cleanseref03_Fold.l0] at H
  by_cases c4 : x5_1 < (t318.length : Int)
  ·rw [if_pos c4] at H
   have c4b0 : decide (x5_1 < (t318.length : Int)) = true := decide_eq_true c4
   clear c4
   by_cases c5 : x5_1 > 0
   ·rw [if_pos c5] at H
    have c5b0 : decide (0 < x5_1) = true := decide_eq_true c5
    clear c5
    by_cases c6 : x4_1.size + 1 ≤ 9223372036854775807
    ·rw [if_pos c6] at H
     have c6b0 := eq_true c6
     have c6b1 : decide (x4_1.size + 1 ≤ 9223372036854775807) = true := decide_eq_true c6
     try have c6b2 : (9223372036854775807 < x4_1.size + 1) = False := eq_false (Nat.not_lt.2 c6)
     by_cases c7 : 0 ≤ x5_1
     ·rw [if_pos c7] at H
      have c7b0 : decide (0 ≤ x5_1) = true := decide_eq_true c7
      clear c7
      by_cases c8 : (x4_1 ++ (⟨#[32]⟩ : ByteArray)).size + (rdOf ByteArray.empty t318 x5_1).size ≤ 9223372036854775807
      ·rw [if_pos c8] at H
       have c8b0 := eq_true c8
       have c8b1 : decide ((x4_1 ++ (⟨#[32]⟩ : ByteArray)).size + (rdOf ByteArray.empty t318 x5_1).size ≤ 9223372036854775807) = true := decide_eq_true c8
       try have c8b2 : (9223372036854775807 < (x4_1 ++ (⟨#[32]⟩ : ByteArray)).size + (rdOf ByteArray.empty t318 x5_1).size) = False := eq_false (Nat.not_lt.2 c8)
       have H' := Aside0.mk H
       clear H
       obtain ⟨Ao9, co9, eo9⟩ := Kd.R_slice HO_3.out
       subst eo9
       have p321 : 0 ≤ (x5_1 : Int) := of_decide_eq_true (by (with_reducible assumption))
       have q321 : x5_1 < (t318.length : Int) := of_decide_eq_true (by (with_reducible assumption))
       obtain ⟨ad321, e321, hx321_0⟩ := Kd.at_string (Kd.R_reads' HO_3.out).2.2 x5_1 p321 q321
       cases e321
       replace p321 := eq_true p321
       replace q321 := eq_true q321
       go_wp2
       go_roundg k1
       case measure => have := HK1.out; omega
       case rel => exact ⟨((x4_1 ++ (⟨#[32]⟩ : ByteArray)) ++ (rdOf ByteArray.empty t318 x5_1)), (wrap64 (x5_1 + 1)), (by rfl), (by rfl), H', ⟨by have := HK1.out; omega⟩, ⟨by exact HO_3.out⟩, ⟨by repeat ((with_reducible (exact HB.out)))⟩⟩
      rw [if_neg c8] at H
      exact absurd H (by simp)
     rw [if_neg c7] at H
     exact absurd H (by simp)
    rw [if_neg c6] at H
    exact absurd H (by simp)
   rw [if_neg c5] at H
   have c5b0 : decide (0 < x5_1) = false := decide_eq_false c5
   clear c5
   by_cases c10 : 0 ≤ x5_1
   ·rw [if_pos c10] at H
    have c10b0 : decide (0 ≤ x5_1) = true := decide_eq_true c10
    clear c10
    by_cases c11 : x4_1.size + (rdOf ByteArray.empty t318 x5_1).size ≤ 9223372036854775807
    ·rw [if_pos c11] at H
     have c11b0 := eq_true c11
     have c11b1 : decide (x4_1.size + (rdOf ByteArray.empty t318 x5_1).size ≤ 9223372036854775807) = true := decide_eq_true c11
     try have c11b2 : (9223372036854775807 < x4_1.size + (rdOf ByteArray.empty t318 x5_1).size) = False := eq_false (Nat.not_lt.2 c11)
     have H' := Aside0.mk H
     clear H
     obtain ⟨Ao12, co12, eo12⟩ := Kd.R_slice HO_3.out
     subst eo12
     have p322 : 0 ≤ (x5_1 : Int) := of_decide_eq_true (by (with_reducible assumption))
     have q322 : x5_1 < (t318.length : Int) := of_decide_eq_true (by (with_reducible assumption))
     obtain ⟨ad322, e322, hx322_0⟩ := Kd.at_string (Kd.R_reads' HO_3.out).2.2 x5_1 p322 q322
     cases e322
     replace p322 := eq_true p322
     replace q322 := eq_true q322
     go_wp2
     go_roundg k1
     case measure => have := HK1.out; omega
     case rel => exact ⟨(x4_1 ++ (rdOf ByteArray.empty t318 x5_1)), (wrap64 (x5_1 + 1)), (by rfl), (by rfl), H', ⟨by have := HK1.out; omega⟩, ⟨by exact HO_3.out⟩, ⟨by repeat ((with_reducible (exact HB.out)))⟩⟩
    rw [if_neg c11] at H
    exact absurd H (by simp)
   rw [if_neg c10] at H
   exact absurd H (by simp)
  rw [if_neg c4] at H
  have c4b0 : decide (x5_1 < (t318.length : Int)) = false := decide_eq_false c4
  clear c4
  obtain rfl := Option.some.inj H
  obtain ⟨Ao13, co13, eo13⟩ := Kd.R_slice HO_3.out
  subst eo13
  go_wp2
  go_ret
  exact ⟨by rfl, by repeat ((with_reducible (exact HB.out)))⟩

end Go.Proofs.YtgomlpndoolllaaDoor.Q
end

section
namespace Go.Proofs.YtgomlpndoolllaaDoor.Q
open Go.RowKit Go.Proofs.YtgomlpndoolllaaDoorW.PrintWords Go.Proofs.YtgomlpndoolllaaDoorW.PrintLast Go.Proofs.YtgomlpndoolllaaDoorW.PrintMore
attribute [local go_sem] max2_int min2_int max_two min_two max_three min_three max_four min_four   -- for this text's walks alone
set_option linter.unusedVariables false
set_option linter.unusedSimpArgs false

attribute [local go_sem high] eqA26
/-! ### cleanseref04_Of: function 21 -/
mutual
def cleanseref04_Of.j0 : Nat → Int → Int → Bool → Int → Int → ByteArray → Int → Int → ByteArray → Option (Int × Int × Int)
 | 0, _, _, _, _, _, _, _, _, _ => none
 | k + 1, x0, x1, x39, x324000, x324001, x324002, x325000, x325001, x325002 => if x39 = true then (some (0, 0, 1)) else (if x324000 = 0 then (cleanseref04_Of.j1 k x0 x1 true x324000 x324001 x324002 x325000 x325001 x325002) else (cleanseref04_Of.j1 k x0 x1 (x325000 == 0) x324000 x324001 x324002 x325000 x325001 x325002))
def cleanseref04_Of.j1 : Nat → Int → Int → Bool → Int → Int → ByteArray → Int → Int → ByteArray → Option (Int × Int × Int)
 | 0, _, _, _, _, _, _, _, _, _ => none
 | k + 1, x0, x1, x48, x324000, x324001, x324002, x325000, x325001, x325002 => if x48 = true then (some (0, 1, 0)) else (if x0 = 1 then (if (x324000 == x325000 && (x324001 == x325001 && (x324002.toList == x325002.toList))) = true then (some (1, 1, 0)) else (some (0, 1, 0))) else (if x0 = 5 then (if x324000 = x325000 then (if x324000 = 2 then ((cleanseref04_Near.f k x324001 x325001 x1).bind fun bt328 => (some (bt328.1, bt328.2, 0))) else (if x324000 = 3 then ((cleanseref04_Near.f k x324001 x325001 x1).bind fun bt330 => (some (bt330.1, bt330.2, 0))) else (some (0, 0, 10)))) else (some (0, 0, 10))) else (if x324000 = 1 then (cleanseref04_Of.j2 k x0 (x325000 != 1) x324000 x324001 x324002 x325000 x325001 x325002) else (cleanseref04_Of.j2 k x0 true x324000 x324001 x324002 x325000 x325001 x325002))))
def cleanseref04_Of.j2 : Nat → Int → Bool → Int → Int → ByteArray → Int → Int → ByteArray → Option (Int × Int × Int)
 | 0, _, _, _, _, _, _, _, _ => none
 | k + 1, x0, x88, x324000, x324001, x324002, x325000, x325001, x325002 => if x88 = true then (some (0, 0, 10)) else (if x0 = 3 then ((cleanseref03_Tokens.f k x324002).bind fun t332 => ((cleanseref03_Tokens.f k x325002).bind fun t335 => ((cleanseref04_Jaccard.f k t332 t335).bind fun bt338 => (some (bt338.1, bt338.2, 0))))) else ((cleanseref03_Fold.f k x324002).bind fun t340 => ((cleanseref03_Fold.f k x325002).bind fun t341 => (if x0 = 2 then ((cleanseref04_Alike.f k t340 t341).bind fun bt342 => (some (bt342.1, bt342.2, 0))) else ((cleanseref04_Jaro.f k t340 t341).bind fun bt344 => (some (bt344.1, bt344.2, 0)))))))
end
def cleanseref04_Of.f (k : Nat) (a0 : Int) (a1 : Int) (a2_0 : Int) (a2_1 : Int) (a2_2 : ByteArray) (a3_0 : Int) (a3_1 : Int) (a3_2 : ByteArray) : Option (Int × Int × Int) := if a0 < 1 then (cleanseref04_Of.j0 k a0 a1 true a2_0 a2_1 a2_2 a3_0 a3_1 a3_2) else (if a0 > 5 then (cleanseref04_Of.j0 k a0 a1 true a2_0 a2_1 a2_2 a3_0 a3_1 a3_2) else ((cleanseref02_Valid.f a2_0 a2_1 a2_2).bind fun t326 => (if t326 = true then ((cleanseref02_Valid.f a3_0 a3_1 a3_2).bind fun t327 => (if t327 = true then (if a0 = 5 then (if a1 < 0 then (cleanseref04_Of.j0 k a0 a1 true a2_0 a2_1 a2_2 a3_0 a3_1 a3_2) else (cleanseref04_Of.j0 k a0 a1 (decide (a1 > 999999999)) a2_0 a2_1 a2_2 a3_0 a3_1 a3_2)) else (cleanseref04_Of.j0 k a0 a1 false a2_0 a2_1 a2_2 a3_0 a3_1 a3_2)) else (cleanseref04_Of.j0 k a0 a1 true a2_0 a2_1 a2_2 a3_0 a3_1 a3_2))) else (cleanseref04_Of.j0 k a0 a1 true a2_0 a2_1 a2_2 a3_0 a3_1 a3_2))))
def cleanseref04_Of.T16 : Bool × List (List Nat × List Nat) := (true, [([], []), ([0], [0]), ([1], [1]), ([], []), ([3], [3]), ([4, 2], [4]), ([2, 5, 5], [2, 5]), ([6, 6, 0, 1, 2, 3, 4, 5, 6], [6]), ([7, 0, 1, 2, 3, 4, 5, 6, 7], [])])
def cleanseref04_Of.B16 : List Nat := [0, 1, 3, 0, 8, 31, 63, 127, 255]
theorem cleanseref04_Of.tab16 : rtab .any (opsOf Tryd.f21 16) = cleanseref04_Of.T16 := by kernel_rfl
theorem cleanseref04_Of.bits16 : waitsOk cleanseref04_Of.T16.2 cleanseref04_Of.B16 = true := by kernel_rfl
set_option maxHeartbeats 8000000 in
set_option maxRecDepth 100000 in
theorem cleanseref04_Of.calls (k : Nat) (a0 : Int) (a1 : Int) (a2_0 : Int) (a2_1 : Int) (a2_2 : ByteArray) (a3_0 : Int) (a3_1 : Int) (a3_2 : ByteArray) (r1 : Int) (r2 : Int) (r3 : Int) (w : World) (h : cleanseref04_Of.f k a0 a1 a2_0 a2_1 a2_2 a3_0 a3_1 a3_2 = some (r1, r2, r3)) :
  Calls Tryd.prog 21 #[.int .i64 a0, .int .i64 a1, .agg #[.int .i64 a2_0, .int .i64 a2_1, .string a2_2], .agg #[.int .i64 a3_0, .int .i64 a3_1, .string a3_2]] w fun e w' => e = .returned (.tuple #[.agg #[.int .i64 r1, .int .i64 r2], .int .i64 r3]) ∧ Below w.heap.size w w' := by
 have hu26 := Tryd.underlying26
 have hu32 := Tryd.underlying32
 have HB := Aside0.mk (Below.refl w.heap.size w)
 have H : (if a0 < 1 then (cleanseref04_Of.j0 k a0 a1 true a2_0 a2_1 a2_2 a3_0 a3_1 a3_2) else (if a0 > 5 then (cleanseref04_Of.j0 k a0 a1 true a2_0 a2_1 a2_2 a3_0 a3_1 a3_2) else ((cleanseref02_Valid.f a2_0 a2_1 a2_2).bind fun t326 => (if t326 = true then ((cleanseref02_Valid.f a3_0 a3_1 a3_2).bind fun t327 => (if t327 = true then (if a0 = 5 then (if a1 < 0 then (cleanseref04_Of.j0 k a0 a1 true a2_0 a2_1 a2_2 a3_0 a3_1 a3_2) else (cleanseref04_Of.j0 k a0 a1 (decide (a1 > 999999999)) a2_0 a2_1 a2_2 a3_0 a3_1 a3_2)) else (cleanseref04_Of.j0 k a0 a1 false a2_0 a2_1 a2_2 a3_0 a3_1 a3_2)) else (cleanseref04_Of.j0 k a0 a1 true a2_0 a2_1 a2_2 a3_0 a3_1 a3_2))) else (cleanseref04_Of.j0 k a0 a1 true a2_0 a2_1 a2_2 a3_0 a3_1 a3_2))))) = some (r1, r2, r3) := h
 clear h
 have HC5 := Aside0.mk H
 clear H
 go_enter Tryd.func21, Tryd.ntmps21
 go_upto_region 1 with (first | ((with_reducible refine gate_dst (N := 6) rfl ?_); refine box_event ?hg (N := 6) ?hd (cs := #[.int .i64 a2_0, .int .i64 a2_1, .string a2_2]) (t := 26) ?hr ?_; (case hd => rfl); (case hg => rfl); (case hr => (go_simp; done)); intro gb323 hg w6 hbox hb; have n0_ := Aside0.mk (below_step HB.out hb); have n1_ := Aside0.mk (hbox); clear HB; have HB := n0_; have BK323 := n1_; clear n0_ n1_; clear hb hbox hg) | ((with_reducible refine gate_dst (N := 7) rfl ?_); refine box_event ?hg (N := 7) ?hd (cs := #[.int .i64 a3_0, .int .i64 a3_1, .string a3_2]) (t := 26) ?hr ?_; (case hd => rfl); (case hg => rfl); (case hr => (go_simp; done)); intro gb324 hg w7 hbox hb; have n0_ := Aside0.mk (blk_below (g := gb323) (o := .cells #[.int .i64 a2_0, .int .i64 a2_1, .string a2_2] 26 (0, 0)) (by exact BK323.out) hb); have n1_ := Aside0.mk (below_step HB.out hb); have n2_ := Aside0.mk (hbox); have n5_ := Aside0.mk ((by rw [hg]; exact Nat.ne_of_lt (blk_lt (g := gb323) (o := .cells #[.int .i64 a2_0, .int .i64 a2_1, .string a2_2] 26 (0, 0)) (by exact BK323.out)) : gb323 ≠ gb324)); have n6_ := Aside0.mk ((by rw [hg]; exact Nat.ne_of_gt (blk_lt (g := gb323) (o := .cells #[.int .i64 a2_0, .int .i64 a2_1, .string a2_2] 26 (0, 0)) (by exact BK323.out)) : gb324 ≠ gb323)); clear BK323; clear HB; have BK323 := n0_; have HB := n1_; have BK324 := n2_; have NB323_324 := n5_; have NB324_323 := n6_; clear n0_ n1_ n2_ n5_ n6_; clear hb hbox hg) | ((with_reducible refine gate_dst (N := 8) rfl ?_); refine box_event ?hg (N := 8) ?hd (cs := #[.int .i64 0, .int .i64 0]) (t := 32) ?hr ?_; (case hd => rfl); (case hg => rfl); (case hr => (go_simp; done)); intro gb325 hg w8 hbox hb; have n0_ := Aside0.mk (blk_below (g := gb323) (o := .cells #[.int .i64 a2_0, .int .i64 a2_1, .string a2_2] 26 (0, 0)) (by exact BK323.out) hb); have n1_ := Aside0.mk (blk_below (g := gb324) (o := .cells #[.int .i64 a3_0, .int .i64 a3_1, .string a3_2] 26 (0, 0)) (by exact BK324.out) hb); have n2_ := Aside0.mk (below_step HB.out hb); have n3_ := Aside0.mk (hbox); have n5_ := Aside0.mk ((by rw [hg]; exact (below_size HB.out) : w.heap.size ≤ gb325)); have n6_ := Aside0.mk ((by rw [hg]; exact Nat.ne_of_lt (blk_lt (g := gb323) (o := .cells #[.int .i64 a2_0, .int .i64 a2_1, .string a2_2] 26 (0, 0)) (by exact BK323.out)) : gb323 ≠ gb325)); have n7_ := Aside0.mk ((by rw [hg]; exact Nat.ne_of_gt (blk_lt (g := gb323) (o := .cells #[.int .i64 a2_0, .int .i64 a2_1, .string a2_2] 26 (0, 0)) (by exact BK323.out)) : gb325 ≠ gb323)); have n8_ := Aside0.mk ((by rw [hg]; exact Nat.ne_of_lt (blk_lt (g := gb324) (o := .cells #[.int .i64 a3_0, .int .i64 a3_1, .string a3_2] 26 (0, 0)) (by exact BK324.out)) : gb324 ≠ gb325)); have n9_ := Aside0.mk ((by rw [hg]; exact Nat.ne_of_gt (blk_lt (g := gb324) (o := .cells #[.int .i64 a3_0, .int .i64 a3_1, .string a3_2] 26 (0, 0)) (by exact BK324.out)) : gb325 ≠ gb324)); clear BK323; clear BK324; clear HB; have BK323 := n0_; have BK324 := n1_; have HB := n2_; have BK325 := n3_; have GE325 := n5_; have NB323_325 := n6_; have NB325_323 := n7_; have NB324_325 := n8_; have NB325_324 := n9_; clear n0_ n1_ n2_ n3_ n5_ n6_ n7_ n8_ n9_; clear hb hbox hg))
 go_cut [39] (fun v39 wc => ∃ (kq : Nat) (x39_4 : Bool), v39 = .bool x39_4 ∧ Aside0 (cleanseref04_Of.j0 kq a0 a1 x39_4 a2_0 a2_1 a2_2 a3_0 a3_1 a3_2 = some (r1, r2, r3)) ∧ Aside0 (kq ≤ k) ∧ Aside0 (wc.heap[gb323]? = some (.cells #[.int .i64 a2_0, .int .i64 a2_1, .string a2_2] 26 (0, 0))) ∧ Aside0 (wc.heap[gb324]? = some (.cells #[.int .i64 a3_0, .int .i64 a3_1, .string a3_2] 26 (0, 0))) ∧ Aside0 (wc.heap[gb325]? = some (.cells #[.int .i64 0, .int .i64 0] 32 (0, 0))) ∧ Aside0 (Below w.heap.size w wc))
 case first =>
  have H := HC5.out
  clear HC5
  by_cases c9 : a0 < 1
  ·rw [if_pos c9] at H
   have c9b0 : decide (a0 < 1) = true := decide_eq_true c9
   clear c9
   have H' := Aside0.mk H
   clear H
   go_wp2
   go_meet
   case rel => exact ⟨_, (true), (by rfl), H', ⟨by omega⟩, ⟨by exact BK323.out⟩, ⟨by exact BK324.out⟩, ⟨by exact BK325.out⟩, ⟨by repeat ((with_reducible (exact HB.out)))⟩⟩
  rw [if_neg c9] at H
  have c9b0 : decide (a0 < 1) = false := decide_eq_false c9
  clear c9
  by_cases c10 : a0 > 5
  ·rw [if_pos c10] at H
   have c10b0 : decide (5 < a0) = true := decide_eq_true c10
   clear c10
   have H' := Aside0.mk H
   clear H
   go_wp2
   go_meet
   case rel => exact ⟨_, (true), (by rfl), H', ⟨by omega⟩, ⟨by exact BK323.out⟩, ⟨by exact BK324.out⟩, ⟨by exact BK325.out⟩, ⟨by repeat ((with_reducible (exact HB.out)))⟩⟩
  rw [if_neg c10] at H
  have c10b0 : decide (5 < a0) = false := decide_eq_false c10
  clear c10
  replace H := Option.bind_eq_some_iff.mp H
  obtain ⟨t326, A110, H⟩ := H
  replace H : (if t326 = true then ((cleanseref02_Valid.f a3_0 a3_1 a3_2).bind fun t327 => (if t327 = true then (if a0 = 5 then (if a1 < 0 then (cleanseref04_Of.j0 k a0 a1 true a2_0 a2_1 a2_2 a3_0 a3_1 a3_2) else (cleanseref04_Of.j0 k a0 a1 (decide (a1 > 999999999)) a2_0 a2_1 a2_2 a3_0 a3_1 a3_2)) else (cleanseref04_Of.j0 k a0 a1 false a2_0 a2_1 a2_2 a3_0 a3_1 a3_2)) else (cleanseref04_Of.j0 k a0 a1 true a2_0 a2_1 a2_2 a3_0 a3_1 a3_2))) else (cleanseref04_Of.j0 k a0 a1 true a2_0 a2_1 a2_2 a3_0 a3_1 a3_2)) = some (r1, r2, r3) := H
  have A11 := Aside0.mk A110
  clear A110
  by_cases c12 : t326 = true
  ·subst c12
   have H1 : ((cleanseref02_Valid.f a3_0 a3_1 a3_2).bind fun t327 => (if t327 = true then (if a0 = 5 then (if a1 < 0 then (cleanseref04_Of.j0 k a0 a1 true a2_0 a2_1 a2_2 a3_0 a3_1 a3_2) else (cleanseref04_Of.j0 k a0 a1 (decide (a1 > 999999999)) a2_0 a2_1 a2_2 a3_0 a3_1 a3_2)) else (cleanseref04_Of.j0 k a0 a1 false a2_0 a2_1 a2_2 a3_0 a3_1 a3_2)) else (cleanseref04_Of.j0 k a0 a1 true a2_0 a2_1 a2_2 a3_0 a3_1 a3_2))) = some (r1, r2, r3) := by rw [if_pos rfl] at H; exact H
   clear H
   have H := H1
   clear H1
   replace H := Option.bind_eq_some_iff.mp H
   obtain ⟨t327, A130, H⟩ := H
   replace H : (if t327 = true then (if a0 = 5 then (if a1 < 0 then (cleanseref04_Of.j0 k a0 a1 true a2_0 a2_1 a2_2 a3_0 a3_1 a3_2) else (cleanseref04_Of.j0 k a0 a1 (decide (a1 > 999999999)) a2_0 a2_1 a2_2 a3_0 a3_1 a3_2)) else (cleanseref04_Of.j0 k a0 a1 false a2_0 a2_1 a2_2 a3_0 a3_1 a3_2)) else (cleanseref04_Of.j0 k a0 a1 true a2_0 a2_1 a2_2 a3_0 a3_1 a3_2)) = some (r1, r2, r3) := H
   have A13 := Aside0.mk A130
   clear A130
   by_cases c14 : t327 = true
   ·subst c14
    have H1 : (if a0 = 5 then (if a1 < 0 then (cleanseref04_Of.j0 k a0 a1 true a2_0 a2_1 a2_2 a3_0 a3_1 a3_2) else (cleanseref04_Of.j0 k a0 a1 (decide (a1 > 999999999)) a2_0 a2_1 a2_2 a3_0 a3_1 a3_2)) else (cleanseref04_Of.j0 k a0 a1 false a2_0 a2_1 a2_2 a3_0 a3_1 a3_2)) = some (r1, r2, r3) := by rw [if_pos rfl] at H; exact H
    clear H
    have H := H1
    clear H1
    by_cases c15 : a0 = 5
    ·rw [if_pos c15] at H
     have c15b0 : (a0 == 5) = true := beq_iff_eq.mpr c15
     have c15b1 : (a0 != 5) = false := bne_eq_false_iff_eq.mpr c15
     clear c15
     by_cases c16 : a1 < 0
     ·rw [if_pos c16] at H
      have c16b0 : decide (a1 < 0) = true := decide_eq_true c16
      clear c16
      have H' := Aside0.mk H
      clear H
      have hnb17 := NB323_324.out
      have hnc17 := NB324_323.out
      have hnb18 := NB323_325.out
      have hnc18 := NB325_323.out
      have hcz19_0 := cel_ BK323.out 0 rfl
      have hcz19_1 := cel_ BK323.out 1 rfl
      have hcz19_2 := cel_ BK323.out 2 rfl
      have hfz19_0 := blk_frozen BK323.out 0
      have hfz19_1 := blk_frozen BK323.out 1
      have hfz19_2 := blk_frozen BK323.out 2
      go_wp2_with (first | (go_at_call 40; (with_reducible refine (cleanseref02_Valid.calls a2_0 a2_1 a2_2 true _ A11.out).mono ?_); rintro e w20 ⟨rfl, hb⟩; have n0_ := Aside0.mk (blk_below (g := gb323) (o := .cells #[.int .i64 a2_0, .int .i64 a2_1, .string a2_2] 26 (0, 0)) (by exact BK323.out) hb); have n1_ := Aside0.mk (blk_below (g := gb324) (o := .cells #[.int .i64 a3_0, .int .i64 a3_1, .string a3_2] 26 (0, 0)) (by exact BK324.out) hb); have n2_ := Aside0.mk (blk_below (g := gb325) (o := .cells #[.int .i64 0, .int .i64 0] 32 (0, 0)) (by exact BK325.out) hb); have n3_ := Aside0.mk (below_step HB.out hb); clear BK323; clear BK324; clear BK325; clear HB; have BK323 := n0_; have BK324 := n1_; have BK325 := n2_; have HB := n3_; clear n0_ n1_ n2_ n3_; (try clear hb); have hnb21 := NB324_325.out; have hnc21 := NB325_324.out; have hcz22_0 := cel_ BK324.out 0 rfl; have hcz22_1 := cel_ BK324.out 1 rfl; have hcz22_2 := cel_ BK324.out 2 rfl; have hfz22_0 := blk_frozen BK324.out 0; have hfz22_1 := blk_frozen BK324.out 1; have hfz22_2 := blk_frozen BK324.out 2) | (go_at_call 40; (with_reducible refine (cleanseref02_Valid.calls a3_0 a3_1 a3_2 true _ A13.out).mono ?_); rintro e w23 ⟨rfl, hb⟩; have n0_ := Aside0.mk (blk_below (g := gb323) (o := .cells #[.int .i64 a2_0, .int .i64 a2_1, .string a2_2] 26 (0, 0)) (by exact BK323.out) hb); have n1_ := Aside0.mk (blk_below (g := gb324) (o := .cells #[.int .i64 a3_0, .int .i64 a3_1, .string a3_2] 26 (0, 0)) (by exact BK324.out) hb); have n2_ := Aside0.mk (blk_below (g := gb325) (o := .cells #[.int .i64 0, .int .i64 0] 32 (0, 0)) (by exact BK325.out) hb); have n3_ := Aside0.mk (below_step HB.out hb); clear BK323; clear BK324; clear BK325; clear HB; have BK323 := n0_; have BK324 := n1_; have BK325 := n2_; have HB := n3_; clear n0_ n1_ n2_ n3_; (try clear hb)))
      go_meet
      case rel => exact ⟨_, (true), (by rfl), H', ⟨by omega⟩, ⟨by exact BK323.out⟩, ⟨by exact BK324.out⟩, ⟨by exact BK325.out⟩, ⟨by repeat ((with_reducible (exact HB.out)))⟩⟩
     rw [if_neg c16] at H
     have c16b0 : decide (a1 < 0) = false := decide_eq_false c16
     clear c16
     have H' := Aside0.mk H
     clear H
     have hnb24 := NB323_324.out
     have hnc24 := NB324_323.out
     have hnb25 := NB323_325.out
     have hnc25 := NB325_323.out
     have hcz26_0 := cel_ BK323.out 0 rfl
     have hcz26_1 := cel_ BK323.out 1 rfl
     have hcz26_2 := cel_ BK323.out 2 rfl
     have hfz26_0 := blk_frozen BK323.out 0
     have hfz26_1 := blk_frozen BK323.out 1
     have hfz26_2 := blk_frozen BK323.out 2
     go_wp2_with (first | (go_at_call 40; (with_reducible refine (cleanseref02_Valid.calls a2_0 a2_1 a2_2 true _ A11.out).mono ?_); rintro e w27 ⟨rfl, hb⟩; have n0_ := Aside0.mk (blk_below (g := gb323) (o := .cells #[.int .i64 a2_0, .int .i64 a2_1, .string a2_2] 26 (0, 0)) (by exact BK323.out) hb); have n1_ := Aside0.mk (blk_below (g := gb324) (o := .cells #[.int .i64 a3_0, .int .i64 a3_1, .string a3_2] 26 (0, 0)) (by exact BK324.out) hb); have n2_ := Aside0.mk (blk_below (g := gb325) (o := .cells #[.int .i64 0, .int .i64 0] 32 (0, 0)) (by exact BK325.out) hb); have n3_ := Aside0.mk (below_step HB.out hb); clear BK323; clear BK324; clear BK325; clear HB; have BK323 := n0_; have BK324 := n1_; have BK325 := n2_; have HB := n3_; clear n0_ n1_ n2_ n3_; (try clear hb); have hnb28 := NB324_325.out; have hnc28 := NB325_324.out; have hcz29_0 := cel_ BK324.out 0 rfl; have hcz29_1 := cel_ BK324.out 1 rfl; have hcz29_2 := cel_ BK324.out 2 rfl; have hfz29_0 := blk_frozen BK324.out 0; have hfz29_1 := blk_frozen BK324.out 1; have hfz29_2 := blk_frozen BK324.out 2) | (go_at_call 40; (with_reducible refine (cleanseref02_Valid.calls a3_0 a3_1 a3_2 true _ A13.out).mono ?_); rintro e w30 ⟨rfl, hb⟩; have n0_ := Aside0.mk (blk_below (g := gb323) (o := .cells #[.int .i64 a2_0, .int .i64 a2_1, .string a2_2] 26 (0, 0)) (by exact BK323.out) hb); have n1_ := Aside0.mk (blk_below (g := gb324) (o := .cells #[.int .i64 a3_0, .int .i64 a3_1, .string a3_2] 26 (0, 0)) (by exact BK324.out) hb); have n2_ := Aside0.mk (blk_below (g := gb325) (o := .cells #[.int .i64 0, .int .i64 0] 32 (0, 0)) (by exact BK325.out) hb); have n3_ := Aside0.mk (below_step HB.out hb); clear BK323; clear BK324; clear BK325; clear HB; have BK323 := n0_; have BK324 := n1_; have BK325 := n2_; have HB := n3_; clear n0_ n1_ n2_ n3_; (try clear hb)))
     go_meet
     case rel => exact ⟨_, (decide (a1 > 999999999)), (by rfl), H', ⟨by omega⟩, ⟨by exact BK323.out⟩, ⟨by exact BK324.out⟩, ⟨by exact BK325.out⟩, ⟨by repeat ((with_reducible (exact HB.out)))⟩⟩
    rw [if_neg c15] at H
    have c15b0 : (a0 == 5) = false := beq_eq_false_iff_ne.mpr c15
    have c15b1 : (a0 != 5) = true := bne_iff_ne.mpr c15
    have H' := Aside0.mk H
    clear H
    have hnb31 := NB323_324.out
    have hnc31 := NB324_323.out
    have hnb32 := NB323_325.out
    have hnc32 := NB325_323.out
    have hcz33_0 := cel_ BK323.out 0 rfl
    have hcz33_1 := cel_ BK323.out 1 rfl
    have hcz33_2 := cel_ BK323.out 2 rfl
    have hfz33_0 := blk_frozen BK323.out 0
    have hfz33_1 := blk_frozen BK323.out 1
    have hfz33_2 := blk_frozen BK323.out 2
    go_wp2_with (first | (go_at_call 40; (with_reducible refine (cleanseref02_Valid.calls a2_0 a2_1 a2_2 true _ A11.out).mono ?_); rintro e w34 ⟨rfl, hb⟩; have n0_ := Aside0.mk (blk_below (g := gb323) (o := .cells #[.int .i64 a2_0, .int .i64 a2_1, .string a2_2] 26 (0, 0)) (by exact BK323.out) hb); have n1_ := Aside0.mk (blk_below (g := gb324) (o := .cells #[.int .i64 a3_0, .int .i64 a3_1, .string a3_2] 26 (0, 0)) (by exact BK324.out) hb); have n2_ := Aside0.mk (blk_below (g := gb325) (o := .cells #[.int .i64 0, .int .i64 0] 32 (0, 0)) (by exact BK325.out) hb); have n3_ := Aside0.mk (below_step HB.out hb); clear BK323; clear BK324; clear BK325; clear HB; have BK323 := n0_; have BK324 := n1_; have BK325 := n2_; have HB := n3_; clear n0_ n1_ n2_ n3_; (try clear hb); have hnb35 := NB324_325.out; have hnc35 := NB325_324.out; have hcz36_0 := cel_ BK324.out 0 rfl; have hcz36_1 := cel_ BK324.out 1 rfl; have hcz36_2 := cel_ BK324.out 2 rfl; have hfz36_0 := blk_frozen BK324.out 0; have hfz36_1 := blk_frozen BK324.out 1; have hfz36_2 := blk_frozen BK324.out 2) | (go_at_call 40; (with_reducible refine (cleanseref02_Valid.calls a3_0 a3_1 a3_2 true _ A13.out).mono ?_); rintro e w37 ⟨rfl, hb⟩; have n0_ := Aside0.mk (blk_below (g := gb323) (o := .cells #[.int .i64 a2_0, .int .i64 a2_1, .string a2_2] 26 (0, 0)) (by exact BK323.out) hb); have n1_ := Aside0.mk (blk_below (g := gb324) (o := .cells #[.int .i64 a3_0, .int .i64 a3_1, .string a3_2] 26 (0, 0)) (by exact BK324.out) hb); have n2_ := Aside0.mk (blk_below (g := gb325) (o := .cells #[.int .i64 0, .int .i64 0] 32 (0, 0)) (by exact BK325.out) hb); have n3_ := Aside0.mk (below_step HB.out hb); clear BK323; clear BK324; clear BK325; clear HB; have BK323 := n0_; have BK324 := n1_; have BK325 := n2_; have HB := n3_; clear n0_ n1_ n2_ n3_; (try clear hb)))
    go_meet
    case rel => exact ⟨_, (false), (by rfl), H', ⟨by omega⟩, ⟨by exact BK323.out⟩, ⟨by exact BK324.out⟩, ⟨by exact BK325.out⟩, ⟨by repeat ((with_reducible (exact HB.out)))⟩⟩
   replace c14 := Bool.eq_false_iff.mpr c14
   subst c14
   have H1 : (cleanseref04_Of.j0 k a0 a1 true a2_0 a2_1 a2_2 a3_0 a3_1 a3_2) = some (r1, r2, r3) := by rw [if_neg (show ¬ (false = true) by decide)] at H; exact H
   clear H
   have H := H1
   clear H1
   have H' := Aside0.mk H
   clear H
   have hnb38 := NB323_324.out
   have hnc38 := NB324_323.out
   have hnb39 := NB323_325.out
   have hnc39 := NB325_323.out
   have hcz40_0 := cel_ BK323.out 0 rfl
   have hcz40_1 := cel_ BK323.out 1 rfl
   have hcz40_2 := cel_ BK323.out 2 rfl
   have hfz40_0 := blk_frozen BK323.out 0
   have hfz40_1 := blk_frozen BK323.out 1
   have hfz40_2 := blk_frozen BK323.out 2
   go_wp2_with (first | (go_at_call 40; (with_reducible refine (cleanseref02_Valid.calls a2_0 a2_1 a2_2 true _ A11.out).mono ?_); rintro e w41 ⟨rfl, hb⟩; have n0_ := Aside0.mk (blk_below (g := gb323) (o := .cells #[.int .i64 a2_0, .int .i64 a2_1, .string a2_2] 26 (0, 0)) (by exact BK323.out) hb); have n1_ := Aside0.mk (blk_below (g := gb324) (o := .cells #[.int .i64 a3_0, .int .i64 a3_1, .string a3_2] 26 (0, 0)) (by exact BK324.out) hb); have n2_ := Aside0.mk (blk_below (g := gb325) (o := .cells #[.int .i64 0, .int .i64 0] 32 (0, 0)) (by exact BK325.out) hb); have n3_ := Aside0.mk (below_step HB.out hb); clear BK323; clear BK324; clear BK325; clear HB; have BK323 := n0_; have BK324 := n1_; have BK325 := n2_; have HB := n3_; clear n0_ n1_ n2_ n3_; (try clear hb); have hnb42 := NB324_325.out; have hnc42 := NB325_324.out; have hcz43_0 := cel_ BK324.out 0 rfl; have hcz43_1 := cel_ BK324.out 1 rfl; have hcz43_2 := cel_ BK324.out 2 rfl; have hfz43_0 := blk_frozen BK324.out 0; have hfz43_1 := blk_frozen BK324.out 1; have hfz43_2 := blk_frozen BK324.out 2) | (go_at_call 40; (with_reducible refine (cleanseref02_Valid.calls a3_0 a3_1 a3_2 false _ A13.out).mono ?_); rintro e w44 ⟨rfl, hb⟩; have n0_ := Aside0.mk (blk_below (g := gb323) (o := .cells #[.int .i64 a2_0, .int .i64 a2_1, .string a2_2] 26 (0, 0)) (by exact BK323.out) hb); have n1_ := Aside0.mk (blk_below (g := gb324) (o := .cells #[.int .i64 a3_0, .int .i64 a3_1, .string a3_2] 26 (0, 0)) (by exact BK324.out) hb); have n2_ := Aside0.mk (blk_below (g := gb325) (o := .cells #[.int .i64 0, .int .i64 0] 32 (0, 0)) (by exact BK325.out) hb); have n3_ := Aside0.mk (below_step HB.out hb); clear BK323; clear BK324; clear BK325; clear HB; have BK323 := n0_; have BK324 := n1_; have BK325 := n2_; have HB := n3_; clear n0_ n1_ n2_ n3_; (try clear hb)))
   go_meet
   case rel => exact ⟨_, (true), (by rfl), H', ⟨by omega⟩, ⟨by exact BK323.out⟩, ⟨by exact BK324.out⟩, ⟨by exact BK325.out⟩, ⟨by repeat ((with_reducible (exact HB.out)))⟩⟩
  replace c12 := Bool.eq_false_iff.mpr c12
  subst c12
  have H1 : (cleanseref04_Of.j0 k a0 a1 true a2_0 a2_1 a2_2 a3_0 a3_1 a3_2) = some (r1, r2, r3) := by rw [if_neg (show ¬ (false = true) by decide)] at H; exact H
  clear H
  have H := H1
  clear H1
  have H' := Aside0.mk H
  clear H
  have hnb45 := NB323_324.out
  have hnc45 := NB324_323.out
  have hnb46 := NB323_325.out
  have hnc46 := NB325_323.out
  have hcz47_0 := cel_ BK323.out 0 rfl
  have hcz47_1 := cel_ BK323.out 1 rfl
  have hcz47_2 := cel_ BK323.out 2 rfl
  have hfz47_0 := blk_frozen BK323.out 0
  have hfz47_1 := blk_frozen BK323.out 1
  have hfz47_2 := blk_frozen BK323.out 2
  go_wp2_with (first | (go_at_call 40; (with_reducible refine (cleanseref02_Valid.calls a2_0 a2_1 a2_2 false _ A11.out).mono ?_); rintro e w48 ⟨rfl, hb⟩; have n0_ := Aside0.mk (blk_below (g := gb323) (o := .cells #[.int .i64 a2_0, .int .i64 a2_1, .string a2_2] 26 (0, 0)) (by exact BK323.out) hb); have n1_ := Aside0.mk (blk_below (g := gb324) (o := .cells #[.int .i64 a3_0, .int .i64 a3_1, .string a3_2] 26 (0, 0)) (by exact BK324.out) hb); have n2_ := Aside0.mk (blk_below (g := gb325) (o := .cells #[.int .i64 0, .int .i64 0] 32 (0, 0)) (by exact BK325.out) hb); have n3_ := Aside0.mk (below_step HB.out hb); clear BK323; clear BK324; clear BK325; clear HB; have BK323 := n0_; have BK324 := n1_; have BK325 := n2_; have HB := n3_; clear n0_ n1_ n2_ n3_; (try clear hb)))
  go_meet
  case rel => exact ⟨_, (true), (by rfl), H', ⟨by omega⟩, ⟨by exact BK323.out⟩, ⟨by exact BK324.out⟩, ⟨by exact BK325.out⟩, ⟨by repeat ((with_reducible (exact HB.out)))⟩⟩
 clear HC5
 obtain ⟨kq, x39_4, rfl, HA, HJ4, BK323, BK324, BK325, HB⟩ := hcut
 cases kq with
 | zero => exact absurd HA.out (by simp [cleanseref04_Of.j0])
 | succ kj4 =>
  have H := HA.out
  clear HA
  simp only [cleanseref04_Of.j0] at H
  by_cases c49 : x39_4 = true
  ·subst c49
   have H1 : (some (0, 0, 1)) = some (r1, r2, r3) := by rw [if_pos rfl] at H; exact H
   clear H
   have H := H1
   clear H1
   simp only [Option.some.injEq, Prod.mk.injEq] at H
   obtain ⟨rfl, rfl, rfl⟩ := H
   have hnb50 := NB325_323.out
   have hnc50 := NB323_325.out
   have hnb51 := NB325_324.out
   have hnc51 := NB324_325.out
   have hcz52_0 := cel_ BK325.out 0 rfl
   have hcz52_1 := cel_ BK325.out 1 rfl
   have hfz52_0 := blk_frozen BK325.out 0
   have hfz52_1 := blk_frozen BK325.out 1
   go_wp2
   refine bodyPost_ret (results_ct rfl _ _ gb325 32 #[.int .i64 0, .int .i64 0] (0, 0) _ rfl (by refine blk_put (cs := #[.int .i64 0, .int .i64 0]) ?_ 1 _ rfl; refine blk_put (cs := #[.int .i64 0, .int .i64 0]) ?_ 0 _ rfl; exact BK325.out) Tryd.underlying32 rfl (by kernel_rfl)) rfl ?_
   exact ⟨by rfl, by repeat ((with_reducible first | exact HB.out | refine below_set ?_ GE325.out))⟩
  replace c49 := Bool.eq_false_iff.mpr c49
  subst c49
  have H1 : (if a2_0 = 0 then (cleanseref04_Of.j1 kj4 a0 a1 true a2_0 a2_1 a2_2 a3_0 a3_1 a3_2) else (cleanseref04_Of.j1 kj4 a0 a1 (a3_0 == 0) a2_0 a2_1 a2_2 a3_0 a3_1 a3_2)) = some (r1, r2, r3) := by rw [if_neg (show ¬ (false = true) by decide)] at H; exact H
  clear H
  have H := H1
  clear H1
  have HC53 := Aside0.mk H
  clear H
  go_upto_region 3 with (fail)
  go_cut [48] (fun v48 wc => ∃ (kq : Nat) (x48_52 : Bool), v48 = .bool x48_52 ∧ Aside0 (cleanseref04_Of.j1 kq a0 a1 x48_52 a2_0 a2_1 a2_2 a3_0 a3_1 a3_2 = some (r1, r2, r3)) ∧ Aside0 (kq ≤ kj4) ∧ Aside0 (wc.heap[gb323]? = some (.cells #[.int .i64 a2_0, .int .i64 a2_1, .string a2_2] 26 (0, 0))) ∧ Aside0 (wc.heap[gb324]? = some (.cells #[.int .i64 a3_0, .int .i64 a3_1, .string a3_2] 26 (0, 0))) ∧ Aside0 (wc.heap[gb325]? = some (.cells #[.int .i64 0, .int .i64 0] 32 (0, 0))) ∧ Aside0 (Below w.heap.size w wc))
  case first =>
   have H := HC53.out
   clear HC53
   by_cases c54 : a2_0 = 0
   ·rw [if_pos c54] at H
    have c54b0 : (a2_0 == 0) = true := beq_iff_eq.mpr c54
    have c54b1 : (a2_0 != 0) = false := bne_eq_false_iff_eq.mpr c54
    clear c54
    have H' := Aside0.mk H
    clear H
    have hnb55 := NB323_324.out
    have hnc55 := NB324_323.out
    have hnb56 := NB323_325.out
    have hnc56 := NB325_323.out
    have hcz57_0 := cel_ BK323.out 0 rfl
    have hcz57_1 := cel_ BK323.out 1 rfl
    have hcz57_2 := cel_ BK323.out 2 rfl
    have hfz57_0 := blk_frozen BK323.out 0
    have hfz57_1 := blk_frozen BK323.out 1
    have hfz57_2 := blk_frozen BK323.out 2
    go_wp2
    go_meet
    case rel => exact ⟨_, (true), (by rfl), H', ⟨by have := HJ4.out; omega⟩, ⟨by exact BK323.out⟩, ⟨by exact BK324.out⟩, ⟨by exact BK325.out⟩, ⟨by repeat ((with_reducible (exact HB.out)))⟩⟩
   rw [if_neg c54] at H
   have c54b0 : (a2_0 == 0) = false := beq_eq_false_iff_ne.mpr c54
   have c54b1 : (a2_0 != 0) = true := bne_iff_ne.mpr c54
   have H' := Aside0.mk H
   clear H
   have hnb58 := NB323_324.out
   have hnc58 := NB324_323.out
   have hnb59 := NB323_325.out
   have hnc59 := NB325_323.out
   have hcz60_0 := cel_ BK323.out 0 rfl
   have hcz60_1 := cel_ BK323.out 1 rfl
   have hcz60_2 := cel_ BK323.out 2 rfl
   have hfz60_0 := blk_frozen BK323.out 0
   have hfz60_1 := blk_frozen BK323.out 1
   have hfz60_2 := blk_frozen BK323.out 2
   have hnb61 := NB324_325.out
   have hnc61 := NB325_324.out
   have hcz62_0 := cel_ BK324.out 0 rfl
   have hcz62_1 := cel_ BK324.out 1 rfl
   have hcz62_2 := cel_ BK324.out 2 rfl
   have hfz62_0 := blk_frozen BK324.out 0
   have hfz62_1 := blk_frozen BK324.out 1
   have hfz62_2 := blk_frozen BK324.out 2
   go_wp2
   go_meet
   case rel => exact ⟨_, ((a3_0 == 0)), (by rfl), H', ⟨by have := HJ4.out; omega⟩, ⟨by exact BK323.out⟩, ⟨by exact BK324.out⟩, ⟨by exact BK325.out⟩, ⟨by repeat ((with_reducible (exact HB.out)))⟩⟩
  clear HC53
  obtain ⟨kq, x48_52, rfl, HA, HJ52, BK323, BK324, BK325, HB⟩ := hcut
  cases kq with
  | zero => exact absurd HA.out (by simp [cleanseref04_Of.j1])
  | succ kj52 =>
   have H := HA.out
   clear HA
   simp only [cleanseref04_Of.j1] at H
   by_cases c63 : x48_52 = true
   ·subst c63
    have H1 : (some (0, 1, 0)) = some (r1, r2, r3) := by rw [if_pos rfl] at H; exact H
    clear H
    have H := H1
    clear H1
    simp only [Option.some.injEq, Prod.mk.injEq] at H
    obtain ⟨rfl, rfl, rfl⟩ := H
    have hnb64 := NB325_323.out
    have hnc64 := NB323_325.out
    have hnb65 := NB325_324.out
    have hnc65 := NB324_325.out
    have hcz66_0 := cel_ BK325.out 0 rfl
    have hcz66_1 := cel_ BK325.out 1 rfl
    have hfz66_0 := blk_frozen BK325.out 0
    have hfz66_1 := blk_frozen BK325.out 1
    go_wp2
    refine bodyPost_ret (results_ct rfl _ _ gb325 32 #[.int .i64 0, .int .i64 1] (0, 0) _ rfl (by refine blk_put (cs := #[.int .i64 0, .int .i64 0]) ?_ 1 _ rfl; refine blk_put (cs := #[.int .i64 0, .int .i64 0]) ?_ 0 _ rfl; exact BK325.out) Tryd.underlying32 rfl (by kernel_rfl)) rfl ?_
    exact ⟨by rfl, by repeat ((with_reducible first | exact HB.out | refine below_set ?_ GE325.out))⟩
   replace c63 := Bool.eq_false_iff.mpr c63
   subst c63
   have H1 : (if a0 = 1 then (if (a2_0 == a3_0 && (a2_1 == a3_1 && (a2_2.toList == a3_2.toList))) = true then (some (1, 1, 0)) else (some (0, 1, 0))) else (if a0 = 5 then (if a2_0 = a3_0 then (if a2_0 = 2 then ((cleanseref04_Near.f kj52 a2_1 a3_1 a1).bind fun bt328 => (some (bt328.1, bt328.2, 0))) else (if a2_0 = 3 then ((cleanseref04_Near.f kj52 a2_1 a3_1 a1).bind fun bt330 => (some (bt330.1, bt330.2, 0))) else (some (0, 0, 10)))) else (some (0, 0, 10))) else (if a2_0 = 1 then (cleanseref04_Of.j2 kj52 a0 (a3_0 != 1) a2_0 a2_1 a2_2 a3_0 a3_1 a3_2) else (cleanseref04_Of.j2 kj52 a0 true a2_0 a2_1 a2_2 a3_0 a3_1 a3_2)))) = some (r1, r2, r3) := by rw [if_neg (show ¬ (false = true) by decide)] at H; exact H
   clear H
   have H := H1
   clear H1
   by_cases c67 : a0 = 1
   ·rw [if_pos c67] at H
    have c67b0 : (a0 == 1) = true := beq_iff_eq.mpr c67
    have c67b1 : (a0 != 1) = false := bne_eq_false_iff_eq.mpr c67
    clear c67
    by_cases c68 : (a2_0 == a3_0 && (a2_1 == a3_1 && (a2_2.toList == a3_2.toList))) = true
    ·rw [if_pos c68] at H
     have c68b0 : (a2_0 == a3_0 && (a2_1 == a3_1 && (a2_2.toList == a3_2.toList))) = true := c68
     (try (have c68b1 : decide (a2_0 = a3_0 && (a2_1 == a3_1 && (a2_2.toList == a3_2.toList))) = true := by simpa using c68))
     (try (have c68b2 : (a2_0 == a3_0 && (a2_1 == a3_1 && (a2_2.toList == a3_2.toList))) = true := by simpa using c68))
     clear c68
     simp only [Option.some.injEq, Prod.mk.injEq] at H
     obtain ⟨rfl, rfl, rfl⟩ := H
     have hnb69 := NB323_324.out
     have hnc69 := NB324_323.out
     have hnb70 := NB323_325.out
     have hnc70 := NB325_323.out
     have hcz71_0 := cel_ BK323.out 0 rfl
     have hcz71_1 := cel_ BK323.out 1 rfl
     have hcz71_2 := cel_ BK323.out 2 rfl
     have hfz71_0 := blk_frozen BK323.out 0
     have hfz71_1 := blk_frozen BK323.out 1
     have hfz71_2 := blk_frozen BK323.out 2
     have hnb72 := NB324_325.out
     have hnc72 := NB325_324.out
     have hcz73_0 := cel_ BK324.out 0 rfl
     have hcz73_1 := cel_ BK324.out 1 rfl
     have hcz73_2 := cel_ BK324.out 2 rfl
     have hfz73_0 := blk_frozen BK324.out 0
     have hfz73_1 := blk_frozen BK324.out 1
     have hfz73_2 := blk_frozen BK324.out 2
     have hcz74_0 := cel_ BK325.out 0 rfl
     have hcz74_1 := cel_ BK325.out 1 rfl
     have hfz74_0 := blk_frozen BK325.out 0
     have hfz74_1 := blk_frozen BK325.out 1
     go_wp2
     refine bodyPost_ret (results_ct rfl _ _ gb325 32 #[.int .i64 1, .int .i64 1] (0, 0) _ rfl (by refine blk_put (cs := #[.int .i64 1, .int .i64 0]) ?_ 1 _ rfl; refine blk_put (cs := #[.int .i64 0, .int .i64 0]) ?_ 0 _ rfl; exact BK325.out) Tryd.underlying32 rfl (by kernel_rfl)) rfl ?_
     exact ⟨by rfl, by repeat ((with_reducible first | exact HB.out | refine below_set ?_ GE325.out))⟩
    rw [if_neg c68] at H
    have c68b0 : (a2_0 == a3_0 && (a2_1 == a3_1 && (a2_2.toList == a3_2.toList))) = false := by simpa using c68
    (try (have c68b1 : decide (a2_0 = a3_0 && (a2_1 == a3_1 && (a2_2.toList == a3_2.toList))) = false := by simpa using c68))
    (try (have c68b2 : (a2_0 == a3_0 && (a2_1 == a3_1 && (a2_2.toList == a3_2.toList))) = false := by simpa using c68))
    (try (have c68b3 : ¬ (a2_0 = a3_0 && (a2_1 == a3_1 && (a2_2.toList == a3_2.toList))) := by simpa using c68))
    clear c68
    simp only [Option.some.injEq, Prod.mk.injEq] at H
    obtain ⟨rfl, rfl, rfl⟩ := H
    have hnb75 := NB323_324.out
    have hnc75 := NB324_323.out
    have hnb76 := NB323_325.out
    have hnc76 := NB325_323.out
    have hcz77_0 := cel_ BK323.out 0 rfl
    have hcz77_1 := cel_ BK323.out 1 rfl
    have hcz77_2 := cel_ BK323.out 2 rfl
    have hfz77_0 := blk_frozen BK323.out 0
    have hfz77_1 := blk_frozen BK323.out 1
    have hfz77_2 := blk_frozen BK323.out 2
    have hnb78 := NB324_325.out
    have hnc78 := NB325_324.out
    have hcz79_0 := cel_ BK324.out 0 rfl
    have hcz79_1 := cel_ BK324.out 1 rfl
    have hcz79_2 := cel_ BK324.out 2 rfl
    have hfz79_0 := blk_frozen BK324.out 0
    have hfz79_1 := blk_frozen BK324.out 1
    have hfz79_2 := blk_frozen BK324.out 2
    have hcz80_0 := cel_ BK325.out 0 rfl
    have hcz80_1 := cel_ BK325.out 1 rfl
    have hfz80_0 := blk_frozen BK325.out 0
    have hfz80_1 := blk_frozen BK325.out 1
    go_wp2
    refine bodyPost_ret (results_ct rfl _ _ gb325 32 #[.int .i64 0, .int .i64 1] (0, 0) _ rfl (by refine blk_put (cs := #[.int .i64 0, .int .i64 0]) ?_ 1 _ rfl; refine blk_put (cs := #[.int .i64 0, .int .i64 0]) ?_ 0 _ rfl; exact BK325.out) Tryd.underlying32 rfl (by kernel_rfl)) rfl ?_
    exact ⟨by rfl, by repeat ((with_reducible first | exact HB.out | refine below_set ?_ GE325.out))⟩
   rw [if_neg c67] at H
   have c67b0 : (a0 == 1) = false := beq_eq_false_iff_ne.mpr c67
   have c67b1 : (a0 != 1) = true := bne_iff_ne.mpr c67
   by_cases c81 : a0 = 5
   ·rw [if_pos c81] at H
    have c81b0 : (a0 == 5) = true := beq_iff_eq.mpr c81
    have c81b1 : (a0 != 5) = false := bne_eq_false_iff_eq.mpr c81
    clear c81
    by_cases c82 : a2_0 = a3_0
    ·rw [if_pos c82] at H
     have c82b0 : (a2_0 == a3_0) = true := beq_iff_eq.mpr c82
     have c82b1 : (a2_0 != a3_0) = false := bne_eq_false_iff_eq.mpr c82
     clear c82
     by_cases c83 : a2_0 = 2
     ·rw [if_pos c83] at H
      have c83b0 : (a2_0 == 2) = true := beq_iff_eq.mpr c83
      have c83b1 : (a2_0 != 2) = false := bne_eq_false_iff_eq.mpr c83
      clear c83
      replace H := Option.bind_eq_some_iff.mp H
      obtain ⟨⟨t328, t329⟩, A840, H⟩ := H
      replace H : (some (t328, t329, 0)) = some (r1, r2, r3) := H
      have A84 := Aside0.mk A840
      clear A840
      simp only [Option.some.injEq, Prod.mk.injEq] at H
      obtain ⟨rfl, rfl, rfl⟩ := H
      have hnb85 := NB323_324.out
      have hnc85 := NB324_323.out
      have hnb86 := NB323_325.out
      have hnc86 := NB325_323.out
      have hcz87_0 := cel_ BK323.out 0 rfl
      have hcz87_1 := cel_ BK323.out 1 rfl
      have hcz87_2 := cel_ BK323.out 2 rfl
      have hfz87_0 := blk_frozen BK323.out 0
      have hfz87_1 := blk_frozen BK323.out 1
      have hfz87_2 := blk_frozen BK323.out 2
      have hnb88 := NB324_325.out
      have hnc88 := NB325_324.out
      have hcz89_0 := cel_ BK324.out 0 rfl
      have hcz89_1 := cel_ BK324.out 1 rfl
      have hcz89_2 := cel_ BK324.out 2 rfl
      have hfz89_0 := blk_frozen BK324.out 0
      have hfz89_1 := blk_frozen BK324.out 1
      have hfz89_2 := blk_frozen BK324.out 2
      go_wp2_with (first | ((with_reducible refine gate_callee (f := 25) rfl ?_); refine goesL_ (some 80) rfl rfl Tryd.func25 (by kernel_rfl) rfl #[.int .i64 a2_1, .int .i64 a3_1, .int .i64 a1] rfl (by (try simp only [List.map_toArray, List.map_cons, List.map_nil]); rfl) ?_; (with_reducible refine (cleanseref04_Near.calls kj52 a2_1 a3_1 a1 t328 t329 _ A84.out).mono ?_); rintro e w90 ⟨rfl, hb⟩; refine ⟨_, rfl, ?_⟩; have n0_ := Aside0.mk (blk_below (g := gb323) (o := .cells #[.int .i64 a2_0, .int .i64 a2_1, .string a2_2] 26 (0, 0)) (by exact BK323.out) hb); have n1_ := Aside0.mk (blk_below (g := gb324) (o := .cells #[.int .i64 a3_0, .int .i64 a3_1, .string a3_2] 26 (0, 0)) (by exact BK324.out) hb); have n2_ := Aside0.mk (blk_below (g := gb325) (o := .cells #[.int .i64 0, .int .i64 0] 32 (0, 0)) (by exact BK325.out) hb); have n3_ := Aside0.mk (below_step HB.out hb); clear BK323; clear BK324; clear BK325; clear HB; have BK323 := n0_; have BK324 := n1_; have BK325 := n2_; have HB := n3_; clear n0_ n1_ n2_ n3_; (try clear hb); have hcz91_0 := cel_ BK325.out 0 rfl; have hcz91_1 := cel_ BK325.out 1 rfl; have hfz91_0 := blk_frozen BK325.out 0; have hfz91_1 := blk_frozen BK325.out 1))
      refine bodyPost_ret (results_ct rfl _ _ gb325 32 #[.int .i64 t328, .int .i64 t329] (0, 0) _ rfl (by refine blk_put (cs := #[.int .i64 t328, .int .i64 0]) ?_ 1 _ rfl; refine blk_put (cs := #[.int .i64 0, .int .i64 0]) ?_ 0 _ rfl; exact BK325.out) Tryd.underlying32 rfl (by kernel_rfl)) rfl ?_
      exact ⟨by rfl, by repeat ((with_reducible first | exact HB.out | refine below_set ?_ GE325.out))⟩
     rw [if_neg c83] at H
     have c83b0 : (a2_0 == 2) = false := beq_eq_false_iff_ne.mpr c83
     have c83b1 : (a2_0 != 2) = true := bne_iff_ne.mpr c83
     by_cases c92 : a2_0 = 3
     ·rw [if_pos c92] at H
      have c92b0 : (a2_0 == 3) = true := beq_iff_eq.mpr c92
      have c92b1 : (a2_0 != 3) = false := bne_eq_false_iff_eq.mpr c92
      clear c92
      replace H := Option.bind_eq_some_iff.mp H
      obtain ⟨⟨t330, t331⟩, A930, H⟩ := H
      replace H : (some (t330, t331, 0)) = some (r1, r2, r3) := H
      have A93 := Aside0.mk A930
      clear A930
      simp only [Option.some.injEq, Prod.mk.injEq] at H
      obtain ⟨rfl, rfl, rfl⟩ := H
      have hnb94 := NB323_324.out
      have hnc94 := NB324_323.out
      have hnb95 := NB323_325.out
      have hnc95 := NB325_323.out
      have hcz96_0 := cel_ BK323.out 0 rfl
      have hcz96_1 := cel_ BK323.out 1 rfl
      have hcz96_2 := cel_ BK323.out 2 rfl
      have hfz96_0 := blk_frozen BK323.out 0
      have hfz96_1 := blk_frozen BK323.out 1
      have hfz96_2 := blk_frozen BK323.out 2
      have hnb97 := NB324_325.out
      have hnc97 := NB325_324.out
      have hcz98_0 := cel_ BK324.out 0 rfl
      have hcz98_1 := cel_ BK324.out 1 rfl
      have hcz98_2 := cel_ BK324.out 2 rfl
      have hfz98_0 := blk_frozen BK324.out 0
      have hfz98_1 := blk_frozen BK324.out 1
      have hfz98_2 := blk_frozen BK324.out 2
      go_wp2_with (first | ((with_reducible refine gate_callee (f := 25) rfl ?_); refine goesL_ (some 80) rfl rfl Tryd.func25 (by kernel_rfl) rfl #[.int .i64 a2_1, .int .i64 a3_1, .int .i64 a1] rfl (by (try simp only [List.map_toArray, List.map_cons, List.map_nil]); rfl) ?_; (with_reducible refine (cleanseref04_Near.calls kj52 a2_1 a3_1 a1 t330 t331 _ A93.out).mono ?_); rintro e w99 ⟨rfl, hb⟩; refine ⟨_, rfl, ?_⟩; have n0_ := Aside0.mk (blk_below (g := gb323) (o := .cells #[.int .i64 a2_0, .int .i64 a2_1, .string a2_2] 26 (0, 0)) (by exact BK323.out) hb); have n1_ := Aside0.mk (blk_below (g := gb324) (o := .cells #[.int .i64 a3_0, .int .i64 a3_1, .string a3_2] 26 (0, 0)) (by exact BK324.out) hb); have n2_ := Aside0.mk (blk_below (g := gb325) (o := .cells #[.int .i64 0, .int .i64 0] 32 (0, 0)) (by exact BK325.out) hb); have n3_ := Aside0.mk (below_step HB.out hb); clear BK323; clear BK324; clear BK325; clear HB; have BK323 := n0_; have BK324 := n1_; have BK325 := n2_; have HB := n3_; clear n0_ n1_ n2_ n3_; (try clear hb); have hcz100_0 := cel_ BK325.out 0 rfl; have hcz100_1 := cel_ BK325.out 1 rfl; have hfz100_0 := blk_frozen BK325.out 0; have hfz100_1 := blk_frozen BK325.out 1))
      refine bodyPost_ret (results_ct rfl _ _ gb325 32 #[.int .i64 t330, .int .i64 t331] (0, 0) _ rfl (by refine blk_put (cs := #[.int .i64 t330, .int .i64 0]) ?_ 1 _ rfl; refine blk_put (cs := #[.int .i64 0, .int .i64 0]) ?_ 0 _ rfl; exact BK325.out) Tryd.underlying32 rfl (by kernel_rfl)) rfl ?_
      exact ⟨by rfl, by repeat ((with_reducible first | exact HB.out | refine below_set ?_ GE325.out))⟩
     rw [if_neg c92] at H
     have c92b0 : (a2_0 == 3) = false := beq_eq_false_iff_ne.mpr c92
     have c92b1 : (a2_0 != 3) = true := bne_iff_ne.mpr c92
     simp only [Option.some.injEq, Prod.mk.injEq] at H
     obtain ⟨rfl, rfl, rfl⟩ := H
     have hnb101 := NB323_324.out
     have hnc101 := NB324_323.out
     have hnb102 := NB323_325.out
     have hnc102 := NB325_323.out
     have hcz103_0 := cel_ BK323.out 0 rfl
     have hcz103_1 := cel_ BK323.out 1 rfl
     have hcz103_2 := cel_ BK323.out 2 rfl
     have hfz103_0 := blk_frozen BK323.out 0
     have hfz103_1 := blk_frozen BK323.out 1
     have hfz103_2 := blk_frozen BK323.out 2
     have hnb104 := NB324_325.out
     have hnc104 := NB325_324.out
     have hcz105_0 := cel_ BK324.out 0 rfl
     have hcz105_1 := cel_ BK324.out 1 rfl
     have hcz105_2 := cel_ BK324.out 2 rfl
     have hfz105_0 := blk_frozen BK324.out 0
     have hfz105_1 := blk_frozen BK324.out 1
     have hfz105_2 := blk_frozen BK324.out 2
     have hcz106_0 := cel_ BK325.out 0 rfl
     have hcz106_1 := cel_ BK325.out 1 rfl
     have hfz106_0 := blk_frozen BK325.out 0
     have hfz106_1 := blk_frozen BK325.out 1
     go_wp2
     refine bodyPost_ret (results_ct rfl _ _ gb325 32 #[.int .i64 0, .int .i64 0] (0, 0) _ rfl (by refine blk_put (cs := #[.int .i64 0, .int .i64 0]) ?_ 1 _ rfl; refine blk_put (cs := #[.int .i64 0, .int .i64 0]) ?_ 0 _ rfl; exact BK325.out) Tryd.underlying32 rfl (by kernel_rfl)) rfl ?_
     exact ⟨by rfl, by repeat ((with_reducible first | exact HB.out | refine below_set ?_ GE325.out))⟩
    rw [if_neg c82] at H
    have c82b0 : (a2_0 == a3_0) = false := beq_eq_false_iff_ne.mpr c82
    have c82b1 : (a2_0 != a3_0) = true := bne_iff_ne.mpr c82
    simp only [Option.some.injEq, Prod.mk.injEq] at H
    obtain ⟨rfl, rfl, rfl⟩ := H
    have hnb107 := NB323_324.out
    have hnc107 := NB324_323.out
    have hnb108 := NB323_325.out
    have hnc108 := NB325_323.out
    have hcz109_0 := cel_ BK323.out 0 rfl
    have hcz109_1 := cel_ BK323.out 1 rfl
    have hcz109_2 := cel_ BK323.out 2 rfl
    have hfz109_0 := blk_frozen BK323.out 0
    have hfz109_1 := blk_frozen BK323.out 1
    have hfz109_2 := blk_frozen BK323.out 2
    have hnb110 := NB324_325.out
    have hnc110 := NB325_324.out
    have hcz111_0 := cel_ BK324.out 0 rfl
    have hcz111_1 := cel_ BK324.out 1 rfl
    have hcz111_2 := cel_ BK324.out 2 rfl
    have hfz111_0 := blk_frozen BK324.out 0
    have hfz111_1 := blk_frozen BK324.out 1
    have hfz111_2 := blk_frozen BK324.out 2
    have hcz112_0 := cel_ BK325.out 0 rfl
    have hcz112_1 := cel_ BK325.out 1 rfl
    have hfz112_0 := blk_frozen BK325.out 0
    have hfz112_1 := blk_frozen BK325.out 1
    go_wp2
    refine bodyPost_ret (results_ct rfl _ _ gb325 32 #[.int .i64 0, .int .i64 0] (0, 0) _ rfl (by refine blk_put (cs := #[.int .i64 0, .int .i64 0]) ?_ 1 _ rfl; refine blk_put (cs := #[.int .i64 0, .int .i64 0]) ?_ 0 _ rfl; exact BK325.out) Tryd.underlying32 rfl (by kernel_rfl)) rfl ?_
    exact ⟨by rfl, by repeat ((with_reducible first | exact HB.out | refine below_set ?_ GE325.out))⟩
   rw [if_neg c81] at H
   have c81b0 : (a0 == 5) = false := beq_eq_false_iff_ne.mpr c81
   have c81b1 : (a0 != 5) = true := bne_iff_ne.mpr c81
   have HC113 := Aside0.mk H
   clear H
   go_upto_region 13 with (fail)
   go_cut [88] (fun v88 wc => ∃ (kq : Nat) (x88_112 : Bool), v88 = .bool x88_112 ∧ Aside0 (cleanseref04_Of.j2 kq a0 x88_112 a2_0 a2_1 a2_2 a3_0 a3_1 a3_2 = some (r1, r2, r3)) ∧ Aside0 (kq ≤ kj52) ∧ Aside0 (wc.heap[gb323]? = some (.cells #[.int .i64 a2_0, .int .i64 a2_1, .string a2_2] 26 (0, 0))) ∧ Aside0 (wc.heap[gb324]? = some (.cells #[.int .i64 a3_0, .int .i64 a3_1, .string a3_2] 26 (0, 0))) ∧ Aside0 (wc.heap[gb325]? = some (.cells #[.int .i64 0, .int .i64 0] 32 (0, 0))) ∧ Aside0 (Below w.heap.size w wc))
   case first =>
    have H := HC113.out
    clear HC113
    by_cases c114 : a2_0 = 1
    ·rw [if_pos c114] at H
     have c114b0 : (a2_0 == 1) = true := beq_iff_eq.mpr c114
     have c114b1 : (a2_0 != 1) = false := bne_eq_false_iff_eq.mpr c114
     clear c114
     have H' := Aside0.mk H
     clear H
     have hnb115 := NB323_324.out
     have hnc115 := NB324_323.out
     have hnb116 := NB323_325.out
     have hnc116 := NB325_323.out
     have hcz117_0 := cel_ BK323.out 0 rfl
     have hcz117_1 := cel_ BK323.out 1 rfl
     have hcz117_2 := cel_ BK323.out 2 rfl
     have hfz117_0 := blk_frozen BK323.out 0
     have hfz117_1 := blk_frozen BK323.out 1
     have hfz117_2 := blk_frozen BK323.out 2
     have hnb118 := NB324_325.out
     have hnc118 := NB325_324.out
     have hcz119_0 := cel_ BK324.out 0 rfl
     have hcz119_1 := cel_ BK324.out 1 rfl
     have hcz119_2 := cel_ BK324.out 2 rfl
     have hfz119_0 := blk_frozen BK324.out 0
     have hfz119_1 := blk_frozen BK324.out 1
     have hfz119_2 := blk_frozen BK324.out 2
     go_wp2
     go_meet
     case rel => exact ⟨_, ((a3_0 != 1)), (by rfl), H', ⟨by have := HJ4.out; have := HJ52.out; omega⟩, ⟨by exact BK323.out⟩, ⟨by exact BK324.out⟩, ⟨by exact BK325.out⟩, ⟨by repeat ((with_reducible (exact HB.out)))⟩⟩
    rw [if_neg c114] at H
    have c114b0 : (a2_0 == 1) = false := beq_eq_false_iff_ne.mpr c114
    have c114b1 : (a2_0 != 1) = true := bne_iff_ne.mpr c114
    have H' := Aside0.mk H
    clear H
    have hnb120 := NB323_324.out
    have hnc120 := NB324_323.out
    have hnb121 := NB323_325.out
    have hnc121 := NB325_323.out
    have hcz122_0 := cel_ BK323.out 0 rfl
    have hcz122_1 := cel_ BK323.out 1 rfl
    have hcz122_2 := cel_ BK323.out 2 rfl
    have hfz122_0 := blk_frozen BK323.out 0
    have hfz122_1 := blk_frozen BK323.out 1
    have hfz122_2 := blk_frozen BK323.out 2
    go_wp2
    go_meet
    case rel => exact ⟨_, (true), (by rfl), H', ⟨by have := HJ4.out; have := HJ52.out; omega⟩, ⟨by exact BK323.out⟩, ⟨by exact BK324.out⟩, ⟨by exact BK325.out⟩, ⟨by repeat ((with_reducible (exact HB.out)))⟩⟩
   clear HC113
   clear c67 c67b0 c67b1
   clear c81 c81b0 c81b1
   obtain ⟨kq, x88_112, rfl, HA, HJ112, BK323, BK324, BK325, HB⟩ := hcut
   cases kq with
   | zero => exact absurd HA.out (by simp [cleanseref04_Of.j2])
   | succ kj112 =>
    have H := HA.out
    clear HA
    simp only [cleanseref04_Of.j2] at H
    by_cases c123 : x88_112 = true
    ·subst c123
     have H1 : (some (0, 0, 10)) = some (r1, r2, r3) := by rw [if_pos rfl] at H; exact H
     clear H
     have H := H1
     clear H1
     simp only [Option.some.injEq, Prod.mk.injEq] at H
     obtain ⟨rfl, rfl, rfl⟩ := H
     have hnb124 := NB325_323.out
     have hnc124 := NB323_325.out
     have hnb125 := NB325_324.out
     have hnc125 := NB324_325.out
     have hcz126_0 := cel_ BK325.out 0 rfl
     have hcz126_1 := cel_ BK325.out 1 rfl
     have hfz126_0 := blk_frozen BK325.out 0
     have hfz126_1 := blk_frozen BK325.out 1
     go_wp2
     refine bodyPost_ret (results_ct rfl _ _ gb325 32 #[.int .i64 0, .int .i64 0] (0, 0) _ rfl (by refine blk_put (cs := #[.int .i64 0, .int .i64 0]) ?_ 1 _ rfl; refine blk_put (cs := #[.int .i64 0, .int .i64 0]) ?_ 0 _ rfl; exact BK325.out) Tryd.underlying32 rfl (by kernel_rfl)) rfl ?_
     exact ⟨by rfl, by repeat ((with_reducible first | exact HB.out | refine below_set ?_ GE325.out))⟩
    replace c123 := Bool.eq_false_iff.mpr c123
    subst c123
    have H1 : (if a0 = 3 then ((cleanseref03_Tokens.f kj112 a2_2).bind fun t332 => ((cleanseref03_Tokens.f kj112 a3_2).bind fun t335 => ((cleanseref04_Jaccard.f kj112 t332 t335).bind fun bt338 => (some (bt338.1, bt338.2, 0))))) else ((cleanseref03_Fold.f kj112 a2_2).bind fun t340 => ((cleanseref03_Fold.f kj112 a3_2).bind fun t341 => (if a0 = 2 then ((cleanseref04_Alike.f kj112 t340 t341).bind fun bt342 => (some (bt342.1, bt342.2, 0))) else ((cleanseref04_Jaro.f kj112 t340 t341).bind fun bt344 => (some (bt344.1, bt344.2, 0))))))) = some (r1, r2, r3) := by rw [if_neg (show ¬ (false = true) by decide)] at H; exact H
    clear H
    have H := H1
    clear H1
    by_cases c127 : a0 = 3
    ·rw [if_pos c127] at H
     have c127b0 : (a0 == 3) = true := beq_iff_eq.mpr c127
     have c127b1 : (a0 != 3) = false := bne_eq_false_iff_eq.mpr c127
     clear c127
     replace H := Option.bind_eq_some_iff.mp H
     obtain ⟨t332, A1280, H⟩ := H
     replace H : ((cleanseref03_Tokens.f kj112 a3_2).bind fun t335 => ((cleanseref04_Jaccard.f kj112 t332 t335).bind fun bt338 => (some (bt338.1, bt338.2, 0)))) = some (r1, r2, r3) := H
     have A128 := Aside0.mk A1280
     clear A1280
     replace H := Option.bind_eq_some_iff.mp H
     obtain ⟨t335, A1290, H⟩ := H
     replace H : ((cleanseref04_Jaccard.f kj112 t332 t335).bind fun bt338 => (some (bt338.1, bt338.2, 0))) = some (r1, r2, r3) := H
     have A129 := Aside0.mk A1290
     clear A1290
     replace H := Option.bind_eq_some_iff.mp H
     obtain ⟨⟨t338, t339⟩, A1300, H⟩ := H
     replace H : (some (t338, t339, 0)) = some (r1, r2, r3) := H
     have A130 := Aside0.mk A1300
     clear A1300
     simp only [Option.some.injEq, Prod.mk.injEq] at H
     obtain ⟨rfl, rfl, rfl⟩ := H
     try go_wp2
     have n0_ := Aside0.mk (blk_drew BK323.out)
     have n1_ := Aside0.mk (blk_drew BK324.out)
     have n2_ := Aside0.mk (blk_drew BK325.out)
     have n3_ := Aside0.mk (below_drew1 HB.out)
     clear BK323
     clear BK324
     clear BK325
     clear HB
     have BK323 := n0_
     have BK324 := n1_
     have BK325 := n2_
     have HB := n3_
     clear n0_ n1_ n2_ n3_
     refine start_ (n := 9) (S := fun w' => w'.cell? ⟨gb323, 0, none⟩ = some (.int .i64 a2_0) ∧ w'.cell? ⟨gb323, 1, none⟩ = some (.int .i64 a2_1) ∧ w'.cell? ⟨gb323, 2, none⟩ = some (.string a2_2) ∧ w'.cell? ⟨gb324, 0, none⟩ = some (.int .i64 a3_0) ∧ w'.cell? ⟨gb324, 1, none⟩ = some (.int .i64 a3_1) ∧ w'.cell? ⟨gb324, 2, none⟩ = some (.string a3_2)) (ds := []) #[false, false, false, false, false, false, false, false, false] (by kernel_rfl) rfl rfl ⟨(blk_cell BK323.out 0).trans rfl, (blk_cell BK323.out 1).trans rfl, (blk_cell BK323.out 2).trans rfl, (blk_cell BK324.out 0).trans rfl, (blk_cell BK324.out 1).trans rfl, (blk_cell BK324.out 2).trans rfl⟩ (fun hHeld => ?_); refine with_tabW cleanseref04_Of.tab16 cleanseref04_Of.bits16 (fun HT_ HW_ => ?_)
     generalize wc.drew = w131 at BK323 BK324 BK325 HB hHeld ⊢
     refine pure_ (i := 0) (N := some 92) (v := ?_) (a' := ?_) #[true, false, false, false, false, false, false, false, false] rfl rfl (any_of HT_.out (by kernel_rfl)) (fun _ _ _ h => h) (Or.inl ⟨by rfl, ?_⟩) ?_ ?_
     rotate_left
     ·intro w'
      go_simp
      with_reducible rfl
     rotate_left
     ·simp only [Act.put, pS_, pZ_, pC_, i64_w, i32_w]
      rfl
     refine pure_ (i := 3) (N := some 95) (v := ?_) (a' := ?_) #[true, false, false, true, false, false, false, false, false] rfl rfl (any_of HT_.out (by kernel_rfl)) (fun _ _ _ h => h) (Or.inl ⟨by rfl, ?_⟩) ?_ ?_
     rotate_left
     ·intro w'
      go_simp
      with_reducible rfl
     rotate_left
     ·simp only [Act.put, pS_, pZ_, pC_, i64_w, i32_w]
      rfl
     refine take_ (i := 1) (N := some 93) (v := ?_) (a' := ?_) #[true, true, false, true, false, false, false, false, false] rfl rfl (take_ofW HT_.out HW_.out (by kernel_rfl)) (fun _ _ _ h => h) (Or.inl ⟨by rfl, ?_⟩) hHeld ?_ ?_
     rotate_left
     ·rintro w' ⟨s0, s1, s2, s3, s4, s5⟩
      go_simp
      with_reducible rfl
     rotate_left
     ·simp only [Act.put, pS_, pZ_, pC_, i64_w, i32_w]
      rfl
     refine take_ (i := 4) (N := some 96) (v := ?_) (a' := ?_) #[true, true, false, true, true, false, false, false, false] rfl rfl (take_ofW HT_.out HW_.out (by kernel_rfl)) (fun _ _ _ h => h) (Or.inl ⟨by rfl, ?_⟩) hHeld ?_ ?_
     rotate_left
     ·rintro w' ⟨s0, s1, s2, s3, s4, s5⟩
      go_simp
      with_reducible rfl
     rotate_left
     ·simp only [Act.put, pS_, pZ_, pC_, i64_w, i32_w]
      rfl
     refine one_ (i := 2) (N := some 94) #[true, true, true, true, true, false, false, false, false] rfl rfl (one_of HT_.out (by kernel_rfl)) (by decide) (fun K hK => ?_)
     refine goes_ Tryd.func41 (by kernel_rfl) rfl #[.string a2_2] (by rfl) rfl rfl (by (try simp only [List.map_toArray, List.map_cons, List.map_nil]); rfl) ?_
     with_reducible refine (cleanseref03_Tokens.calls kj112 a2_2 t332 _ A128.out).mono ?_
     rintro e w132 ⟨v333, rfl, ho0, hb⟩
     refine ⟨_, rfl, ?_⟩
     have n0_ := Aside0.mk (Kd.R_lower ho0 (below_size HB.out))
     have n1_ := Aside0.mk (blk_below (g := gb323) (o := .cells #[.int .i64 a2_0, .int .i64 a2_1, .string a2_2] 26 (0, 0)) (by exact BK323.out) hb)
     have n2_ := Aside0.mk (blk_below (g := gb324) (o := .cells #[.int .i64 a3_0, .int .i64 a3_1, .string a3_2] 26 (0, 0)) (by exact BK324.out) hb)
     have n3_ := Aside0.mk (blk_below (g := gb325) (o := .cells #[.int .i64 0, .int .i64 0] 32 (0, 0)) (by exact BK325.out) hb)
     have n4_ := Aside0.mk (below_step HB.out hb)
     clear BK323
     clear BK324
     clear BK325
     clear HB
     have HO334 := n0_
     have BK323 := n1_
     have BK324 := n2_
     have BK325 := n3_
     have HB := n4_
     clear n0_ n1_ n2_ n3_ n4_
     (try clear hb)
     (try clear ho0)
     refine hK.out _ _ ⟨(blk_cell BK323.out 0).trans rfl, (blk_cell BK323.out 1).trans rfl, (blk_cell BK323.out 2).trans rfl, (blk_cell BK324.out 0).trans rfl, (blk_cell BK324.out 1).trans rfl, (blk_cell BK324.out 2).trans rfl⟩ (fun hHeld => ?_)
     clear hK K
     refine norm_ (a' := ?_) ?_ ?_
     rotate_left
     ·show Act.put _ (some 94) _ = _
      simp only [Act.put, pS_, pZ_, pC_, i64_w, i32_w]
      rfl
     refine one_ (i := 5) (N := some 97) #[true, true, true, true, true, true, false, false, false] rfl rfl (one_of HT_.out (by kernel_rfl)) (by decide) (fun K hK => ?_)
     refine goes_ Tryd.func41 (by kernel_rfl) rfl #[.string a3_2] (by rfl) rfl rfl (by (try simp only [List.map_toArray, List.map_cons, List.map_nil]); rfl) ?_
     with_reducible refine (cleanseref03_Tokens.calls kj112 a3_2 t335 _ A129.out).mono ?_
     rintro e w133 ⟨v336, rfl, ho0, hb⟩
     refine ⟨_, rfl, ?_⟩
     have n0_ := Aside0.mk (Kd.R_elder' (by exact HO334.out) (Kd.R_base ho0) hb)
     have n1_ := Aside0.mk (Kd.R_lower (Kd.R_new' ho0 (Kd.R_lt (by exact HO334.out))) (below_size HB.out))
     have n2_ := Aside0.mk (blk_below (g := gb323) (o := .cells #[.int .i64 a2_0, .int .i64 a2_1, .string a2_2] 26 (0, 0)) (by exact BK323.out) hb)
     have n3_ := Aside0.mk (blk_below (g := gb324) (o := .cells #[.int .i64 a3_0, .int .i64 a3_1, .string a3_2] 26 (0, 0)) (by exact BK324.out) hb)
     have n4_ := Aside0.mk (blk_below (g := gb325) (o := .cells #[.int .i64 0, .int .i64 0] 32 (0, 0)) (by exact BK325.out) hb)
     have n5_ := Aside0.mk (below_step HB.out hb)
     clear HO334
     clear BK323
     clear BK324
     clear BK325
     clear HB
     have HO334 := n0_
     have HO337 := n1_
     have BK323 := n2_
     have BK324 := n3_
     have BK325 := n4_
     have HB := n5_
     clear n0_ n1_ n2_ n3_ n4_ n5_
     (try clear hb)
     (try clear ho0)
     obtain ⟨Ao134, co134, eo134⟩ := Kd.R_slice HO334.out
     (subst eo134)
     obtain ⟨Ao135, co135, eo135⟩ := Kd.R_slice HO337.out
     (subst eo135)
     refine hK.out _ _ ⟨(blk_cell BK323.out 0).trans rfl, (blk_cell BK323.out 1).trans rfl, (blk_cell BK323.out 2).trans rfl, (blk_cell BK324.out 0).trans rfl, (blk_cell BK324.out 1).trans rfl, (blk_cell BK324.out 2).trans rfl⟩ (fun hHeld => ?_)
     clear hK K
     refine norm_ (a' := ?_) ?_ ?_
     rotate_left
     ·show Act.put _ (some 97) _ = _
      simp only [Act.put, pS_, pZ_, pC_, i64_w, i32_w]
      rfl
     refine one_ (i := 6) (N := some 98) #[true, true, true, true, true, true, true, false, false] rfl rfl (one_of HT_.out (by kernel_rfl)) (by decide) (fun K hK => ?_)
     refine goes_ Tryd.func19 (by kernel_rfl) rfl #[.slice Ao134 t332.length co134, .slice Ao135 t335.length co135] (by rfl) rfl rfl (by (try simp only [List.map_toArray, List.map_cons, List.map_nil]); rfl) ?_
     with_reducible refine (cleanseref04_Jaccard.calls kj112 _ _ t332 _ _ t335 t338 t339 _ ?side1 ?side2 ?side3 ?side4 A130.out).mono ?_
     (case side1 => repeat ((exact (Kd.R_reads' HO334.out).2.2)))
     (case side2 => exact (Kd.R_reads' HO334.out).2.1)
     (case side3 => repeat ((exact (Kd.R_reads' HO337.out).2.2)))
     (case side4 => exact (Kd.R_reads' HO337.out).2.1)
     rintro e w136 ⟨rfl, hb⟩
     refine ⟨_, rfl, ?_⟩
     have n0_ := Aside0.mk (Kd.R_below (by exact HO334.out) hb)
     have n1_ := Aside0.mk (Kd.R_below (by exact HO337.out) hb)
     have n2_ := Aside0.mk (blk_below (g := gb323) (o := .cells #[.int .i64 a2_0, .int .i64 a2_1, .string a2_2] 26 (0, 0)) (by exact BK323.out) hb)
     have n3_ := Aside0.mk (blk_below (g := gb324) (o := .cells #[.int .i64 a3_0, .int .i64 a3_1, .string a3_2] 26 (0, 0)) (by exact BK324.out) hb)
     have n4_ := Aside0.mk (blk_below (g := gb325) (o := .cells #[.int .i64 0, .int .i64 0] 32 (0, 0)) (by exact BK325.out) hb)
     have n5_ := Aside0.mk (below_step HB.out hb)
     clear HO334
     clear HO337
     clear BK323
     clear BK324
     clear BK325
     clear HB
     have HO334 := n0_
     have HO337 := n1_
     have BK323 := n2_
     have BK324 := n3_
     have BK325 := n4_
     have HB := n5_
     clear n0_ n1_ n2_ n3_ n4_ n5_
     (try clear hb)
     refine hK.out _ _ ⟨(blk_cell BK323.out 0).trans rfl, (blk_cell BK323.out 1).trans rfl, (blk_cell BK323.out 2).trans rfl, (blk_cell BK324.out 0).trans rfl, (blk_cell BK324.out 1).trans rfl, (blk_cell BK324.out 2).trans rfl⟩ (fun hHeld => ?_)
     clear hK K
     refine norm_ (a' := ?_) ?_ ?_
     rotate_left
     ·show Act.put _ (some 98) _ = _
      simp only [Act.put, pS_, pZ_, pC_, i64_w, i32_w]
      rfl
     refine one_ (i := 7) (N := none) #[true, true, true, true, true, true, true, true, false] rfl rfl (one_of HT_.out (by kernel_rfl)) (by decide) (fun K hK => ?_)
     have hs137 : w136.cell? ⟨gb325, 0, none⟩ = some (.int .i64 0) := (blk_cell BK325.out 0).trans rfl
     have hfs137 := blk_frozen BK325.out 0
     have hns137_0 := NB323_325.out
     have hns137_1 := NB324_325.out
     have hms137_0 := NB325_323.out
     have hms137_1 := NB325_324.out
     have hs138 : w136.cell? ⟨gb325, 1, none⟩ = some (.int .i64 0) := (blk_cell BK325.out 1).trans rfl
     have hfs138 := blk_frozen BK325.out 1
     have hns138_0 := NB323_325.out
     have hns138_1 := NB324_325.out
     have hms138_0 := NB325_323.out
     have hms138_1 := NB325_324.out
     refine skip_ (w1 := ?_) (by rfl) rfl ?_ ?_
     rotate_left
     ·go_simp
      rfl
     refine hK.out _ _ ⟨((cell_far (p := ⟨gb325, _, none⟩) NB323_325.out _).trans (((cell_far (p := ⟨gb325, _, none⟩) NB323_325.out _).trans (hHeld.1)))), ((cell_far (p := ⟨gb325, _, none⟩) NB323_325.out _).trans (((cell_far (p := ⟨gb325, _, none⟩) NB323_325.out _).trans (hHeld.2.1)))), ((cell_far (p := ⟨gb325, _, none⟩) NB323_325.out _).trans (((cell_far (p := ⟨gb325, _, none⟩) NB323_325.out _).trans (hHeld.2.2.1)))), ((cell_far (p := ⟨gb325, _, none⟩) NB324_325.out _).trans (((cell_far (p := ⟨gb325, _, none⟩) NB324_325.out _).trans (hHeld.2.2.2.1)))), ((cell_far (p := ⟨gb325, _, none⟩) NB324_325.out _).trans (((cell_far (p := ⟨gb325, _, none⟩) NB324_325.out _).trans (hHeld.2.2.2.2.1)))), ((cell_far (p := ⟨gb325, _, none⟩) NB324_325.out _).trans (((cell_far (p := ⟨gb325, _, none⟩) NB324_325.out _).trans (hHeld.2.2.2.2.2))))⟩ (fun hHeld => ?_)
     clear hK K
     refine pure_ (i := 8) (N := some 9) (v := ?_) (a' := ?_) #[true, true, true, true, true, true, true, true, true] rfl rfl (any_of HT_.out (by kernel_rfl)) (fun _ _ _ h => h) (Or.inl ⟨by rfl, ?_⟩) ?_ ?_
     rotate_left
     ·intro w'
      go_simp
      with_reducible rfl
     rotate_left
     ·simp only [Act.put, pS_, pZ_, pC_, i64_w, i32_w]
      rfl
     refine done_ (done_of HT_.out (by kernel_rfl)) ?_
     try go_wp2
     refine bodyPost_ret (results_ct rfl _ _ gb325 32 #[.int .i64 t338, .int .i64 t339] (0, 0) _ rfl (by refine blk_put (cs := #[.int .i64 t338, .int .i64 0]) ?_ 1 _ rfl; refine blk_put (cs := #[.int .i64 0, .int .i64 0]) ?_ 0 _ rfl; exact BK325.out) Tryd.underlying32 rfl (by kernel_rfl)) rfl ?_
     exact ⟨by rfl, by repeat ((with_reducible first | exact HB.out | refine below_set ?_ GE325.out))⟩
    rw [if_neg c127] at H
    have c127b0 : (a0 == 3) = false := beq_eq_false_iff_ne.mpr c127
    have c127b1 : (a0 != 3) = true := bne_iff_ne.mpr c127
    replace H := Option.bind_eq_some_iff.mp H
    obtain ⟨t340, A1390, H⟩ := H
    replace H : ((cleanseref03_Fold.f kj112 a3_2).bind fun t341 => (if a0 = 2 then ((cleanseref04_Alike.f kj112 t340 t341).bind fun bt342 => (some (bt342.1, bt342.2, 0))) else ((cleanseref04_Jaro.f kj112 t340 t341).bind fun bt344 => (some (bt344.1, bt344.2, 0))))) = some (r1, r2, r3) := H
    have A139 := Aside0.mk A1390
    clear A1390
    replace H := Option.bind_eq_some_iff.mp H
    obtain ⟨t341, A1400, H⟩ := H
    replace H : (if a0 = 2 then ((cleanseref04_Alike.f kj112 t340 t341).bind fun bt342 => (some (bt342.1, bt342.2, 0))) else ((cleanseref04_Jaro.f kj112 t340 t341).bind fun bt344 => (some (bt344.1, bt344.2, 0)))) = some (r1, r2, r3) := H
    have A140 := Aside0.mk A1400
    clear A1400
    by_cases c141 : a0 = 2
    ·rw [if_pos c141] at H
     have c141b0 : (a0 == 2) = true := beq_iff_eq.mpr c141
     have c141b1 : (a0 != 2) = false := bne_eq_false_iff_eq.mpr c141
     clear c141
     replace H := Option.bind_eq_some_iff.mp H
     obtain ⟨⟨t342, t343⟩, A1420, H⟩ := H
     replace H : (some (t342, t343, 0)) = some (r1, r2, r3) := H
     have A142 := Aside0.mk A1420
     clear A1420
     simp only [Option.some.injEq, Prod.mk.injEq] at H
     obtain ⟨rfl, rfl, rfl⟩ := H
     have hnb143 := NB323_324.out
     have hnc143 := NB324_323.out
     have hnb144 := NB323_325.out
     have hnc144 := NB325_323.out
     have hcz145_0 := cel_ BK323.out 0 rfl
     have hcz145_1 := cel_ BK323.out 1 rfl
     have hcz145_2 := cel_ BK323.out 2 rfl
     have hfz145_0 := blk_frozen BK323.out 0
     have hfz145_1 := blk_frozen BK323.out 1
     have hfz145_2 := blk_frozen BK323.out 2
     go_wp2_with (first | ((with_reducible refine gate_callee (f := 42) rfl ?_); refine goesL_ (some 101) rfl rfl Tryd.func42 (by kernel_rfl) rfl #[.string a2_2] rfl (by (try simp only [List.map_toArray, List.map_cons, List.map_nil]); rfl) ?_; (with_reducible refine (cleanseref03_Fold.calls kj112 a2_2 t340 _ A139.out).mono ?_); rintro e w146 ⟨rfl, hb⟩; refine ⟨_, rfl, ?_⟩; have n0_ := Aside0.mk (blk_below (g := gb323) (o := .cells #[.int .i64 a2_0, .int .i64 a2_1, .string a2_2] 26 (0, 0)) (by exact BK323.out) hb); have n1_ := Aside0.mk (blk_below (g := gb324) (o := .cells #[.int .i64 a3_0, .int .i64 a3_1, .string a3_2] 26 (0, 0)) (by exact BK324.out) hb); have n2_ := Aside0.mk (blk_below (g := gb325) (o := .cells #[.int .i64 0, .int .i64 0] 32 (0, 0)) (by exact BK325.out) hb); have n3_ := Aside0.mk (below_step HB.out hb); clear BK323; clear BK324; clear BK325; clear HB; have BK323 := n0_; have BK324 := n1_; have BK325 := n2_; have HB := n3_; clear n0_ n1_ n2_ n3_; (try clear hb); have hnb147 := NB324_325.out; have hnc147 := NB325_324.out; have hcz148_0 := cel_ BK324.out 0 rfl; have hcz148_1 := cel_ BK324.out 1 rfl; have hcz148_2 := cel_ BK324.out 2 rfl; have hfz148_0 := blk_frozen BK324.out 0; have hfz148_1 := blk_frozen BK324.out 1; have hfz148_2 := blk_frozen BK324.out 2) | ((with_reducible refine gate_callee (f := 42) rfl ?_); refine goesL_ (some 104) rfl rfl Tryd.func42 (by kernel_rfl) rfl #[.string a3_2] rfl (by (try simp only [List.map_toArray, List.map_cons, List.map_nil]); rfl) ?_; (with_reducible refine (cleanseref03_Fold.calls kj112 a3_2 t341 _ A140.out).mono ?_); rintro e w149 ⟨rfl, hb⟩; refine ⟨_, rfl, ?_⟩; have n0_ := Aside0.mk (blk_below (g := gb323) (o := .cells #[.int .i64 a2_0, .int .i64 a2_1, .string a2_2] 26 (0, 0)) (by exact BK323.out) hb); have n1_ := Aside0.mk (blk_below (g := gb324) (o := .cells #[.int .i64 a3_0, .int .i64 a3_1, .string a3_2] 26 (0, 0)) (by exact BK324.out) hb); have n2_ := Aside0.mk (blk_below (g := gb325) (o := .cells #[.int .i64 0, .int .i64 0] 32 (0, 0)) (by exact BK325.out) hb); have n3_ := Aside0.mk (below_step HB.out hb); clear BK323; clear BK324; clear BK325; clear HB; have BK323 := n0_; have BK324 := n1_; have BK325 := n2_; have HB := n3_; clear n0_ n1_ n2_ n3_; (try clear hb)) | ((with_reducible refine gate_callee (f := 17) rfl ?_); refine goesL_ (some 109) rfl rfl Tryd.func17 (by kernel_rfl) rfl #[.string t340, .string t341] rfl (by (try simp only [List.map_toArray, List.map_cons, List.map_nil]); rfl) ?_; (with_reducible refine (cleanseref04_Alike.calls kj112 t340 t341 t342 t343 _ A142.out).mono ?_); rintro e w150 ⟨rfl, hb⟩; refine ⟨_, rfl, ?_⟩; have n0_ := Aside0.mk (blk_below (g := gb323) (o := .cells #[.int .i64 a2_0, .int .i64 a2_1, .string a2_2] 26 (0, 0)) (by exact BK323.out) hb); have n1_ := Aside0.mk (blk_below (g := gb324) (o := .cells #[.int .i64 a3_0, .int .i64 a3_1, .string a3_2] 26 (0, 0)) (by exact BK324.out) hb); have n2_ := Aside0.mk (blk_below (g := gb325) (o := .cells #[.int .i64 0, .int .i64 0] 32 (0, 0)) (by exact BK325.out) hb); have n3_ := Aside0.mk (below_step HB.out hb); clear BK323; clear BK324; clear BK325; clear HB; have BK323 := n0_; have BK324 := n1_; have BK325 := n2_; have HB := n3_; clear n0_ n1_ n2_ n3_; (try clear hb); have hcz151_0 := cel_ BK325.out 0 rfl; have hcz151_1 := cel_ BK325.out 1 rfl; have hfz151_0 := blk_frozen BK325.out 0; have hfz151_1 := blk_frozen BK325.out 1))
     refine bodyPost_ret (results_ct rfl _ _ gb325 32 #[.int .i64 t342, .int .i64 t343] (0, 0) _ rfl (by refine blk_put (cs := #[.int .i64 t342, .int .i64 0]) ?_ 1 _ rfl; refine blk_put (cs := #[.int .i64 0, .int .i64 0]) ?_ 0 _ rfl; exact BK325.out) Tryd.underlying32 rfl (by kernel_rfl)) rfl ?_
     exact ⟨by rfl, by repeat ((with_reducible first | exact HB.out | refine below_set ?_ GE325.out))⟩
    rw [if_neg c141] at H
    have c141b0 : (a0 == 2) = false := beq_eq_false_iff_ne.mpr c141
    have c141b1 : (a0 != 2) = true := bne_iff_ne.mpr c141
    replace H := Option.bind_eq_some_iff.mp H
    obtain ⟨⟨t344, t345⟩, A1520, H⟩ := H
    replace H : (some (t344, t345, 0)) = some (r1, r2, r3) := H
    have A152 := Aside0.mk A1520
    clear A1520
    simp only [Option.some.injEq, Prod.mk.injEq] at H
    obtain ⟨rfl, rfl, rfl⟩ := H
    have hnb153 := NB323_324.out
    have hnc153 := NB324_323.out
    have hnb154 := NB323_325.out
    have hnc154 := NB325_323.out
    have hcz155_0 := cel_ BK323.out 0 rfl
    have hcz155_1 := cel_ BK323.out 1 rfl
    have hcz155_2 := cel_ BK323.out 2 rfl
    have hfz155_0 := blk_frozen BK323.out 0
    have hfz155_1 := blk_frozen BK323.out 1
    have hfz155_2 := blk_frozen BK323.out 2
    go_wp2_with (first | ((with_reducible refine gate_callee (f := 42) rfl ?_); refine goesL_ (some 101) rfl rfl Tryd.func42 (by kernel_rfl) rfl #[.string a2_2] rfl (by (try simp only [List.map_toArray, List.map_cons, List.map_nil]); rfl) ?_; (with_reducible refine (cleanseref03_Fold.calls kj112 a2_2 t340 _ A139.out).mono ?_); rintro e w156 ⟨rfl, hb⟩; refine ⟨_, rfl, ?_⟩; have n0_ := Aside0.mk (blk_below (g := gb323) (o := .cells #[.int .i64 a2_0, .int .i64 a2_1, .string a2_2] 26 (0, 0)) (by exact BK323.out) hb); have n1_ := Aside0.mk (blk_below (g := gb324) (o := .cells #[.int .i64 a3_0, .int .i64 a3_1, .string a3_2] 26 (0, 0)) (by exact BK324.out) hb); have n2_ := Aside0.mk (blk_below (g := gb325) (o := .cells #[.int .i64 0, .int .i64 0] 32 (0, 0)) (by exact BK325.out) hb); have n3_ := Aside0.mk (below_step HB.out hb); clear BK323; clear BK324; clear BK325; clear HB; have BK323 := n0_; have BK324 := n1_; have BK325 := n2_; have HB := n3_; clear n0_ n1_ n2_ n3_; (try clear hb); have hnb157 := NB324_325.out; have hnc157 := NB325_324.out; have hcz158_0 := cel_ BK324.out 0 rfl; have hcz158_1 := cel_ BK324.out 1 rfl; have hcz158_2 := cel_ BK324.out 2 rfl; have hfz158_0 := blk_frozen BK324.out 0; have hfz158_1 := blk_frozen BK324.out 1; have hfz158_2 := blk_frozen BK324.out 2) | ((with_reducible refine gate_callee (f := 42) rfl ?_); refine goesL_ (some 104) rfl rfl Tryd.func42 (by kernel_rfl) rfl #[.string a3_2] rfl (by (try simp only [List.map_toArray, List.map_cons, List.map_nil]); rfl) ?_; (with_reducible refine (cleanseref03_Fold.calls kj112 a3_2 t341 _ A140.out).mono ?_); rintro e w159 ⟨rfl, hb⟩; refine ⟨_, rfl, ?_⟩; have n0_ := Aside0.mk (blk_below (g := gb323) (o := .cells #[.int .i64 a2_0, .int .i64 a2_1, .string a2_2] 26 (0, 0)) (by exact BK323.out) hb); have n1_ := Aside0.mk (blk_below (g := gb324) (o := .cells #[.int .i64 a3_0, .int .i64 a3_1, .string a3_2] 26 (0, 0)) (by exact BK324.out) hb); have n2_ := Aside0.mk (blk_below (g := gb325) (o := .cells #[.int .i64 0, .int .i64 0] 32 (0, 0)) (by exact BK325.out) hb); have n3_ := Aside0.mk (below_step HB.out hb); clear BK323; clear BK324; clear BK325; clear HB; have BK323 := n0_; have BK324 := n1_; have BK325 := n2_; have HB := n3_; clear n0_ n1_ n2_ n3_; (try clear hb)) | ((with_reducible refine gate_callee (f := 23) rfl ?_); refine goesL_ (some 112) rfl rfl Tryd.func23 (by kernel_rfl) rfl #[.string t340, .string t341] rfl (by (try simp only [List.map_toArray, List.map_cons, List.map_nil]); rfl) ?_; (with_reducible refine (cleanseref04_Jaro.calls kj112 t340 t341 t344 t345 _ A152.out).mono ?_); rintro e w160 ⟨rfl, hb⟩; refine ⟨_, rfl, ?_⟩; have n0_ := Aside0.mk (blk_below (g := gb323) (o := .cells #[.int .i64 a2_0, .int .i64 a2_1, .string a2_2] 26 (0, 0)) (by exact BK323.out) hb); have n1_ := Aside0.mk (blk_below (g := gb324) (o := .cells #[.int .i64 a3_0, .int .i64 a3_1, .string a3_2] 26 (0, 0)) (by exact BK324.out) hb); have n2_ := Aside0.mk (blk_below (g := gb325) (o := .cells #[.int .i64 0, .int .i64 0] 32 (0, 0)) (by exact BK325.out) hb); have n3_ := Aside0.mk (below_step HB.out hb); clear BK323; clear BK324; clear BK325; clear HB; have BK323 := n0_; have BK324 := n1_; have BK325 := n2_; have HB := n3_; clear n0_ n1_ n2_ n3_; (try clear hb); have hcz161_0 := cel_ BK325.out 0 rfl; have hcz161_1 := cel_ BK325.out 1 rfl; have hfz161_0 := blk_frozen BK325.out 0; have hfz161_1 := blk_frozen BK325.out 1))
    refine bodyPost_ret (results_ct rfl _ _ gb325 32 #[.int .i64 t344, .int .i64 t345] (0, 0) _ rfl (by refine blk_put (cs := #[.int .i64 t344, .int .i64 0]) ?_ 1 _ rfl; refine blk_put (cs := #[.int .i64 0, .int .i64 0]) ?_ 0 _ rfl; exact BK325.out) Tryd.underlying32 rfl (by kernel_rfl)) rfl ?_
    exact ⟨by rfl, by repeat ((with_reducible first | exact HB.out | refine below_set ?_ GE325.out))⟩

end Go.Proofs.YtgomlpndoolllaaDoor.Q
end

section
/- The reference's sorted lists, words and folded texts; plain Lean over the printed functions. -/
namespace Go.Proofs.YtgomlpndoolllaaDoor.Pure
open Go Go.RowKit Go.Proofs.YtgomlpndoolllaaDoor.Q Go.Proofs.YtgomlpndoolllaaDoorW.PrintWords Go.Proofs.YtgomlpndoolllaaDoorW.PrintLast Go.Proofs.YtgomlpndoolllaaDoorW.PrintMore
set_option linter.unusedVariables false
set_option linter.unusedSimpArgs false

theorem rd_nat (xs : List ByteArray) (j : Nat) (h : j < xs.length) : rdOf ByteArray.empty xs (j : Int) = xs[j] := by
  simp [rdOf, List.getD_eq_getElem?_getD, h]
theorem inc_head {a : List UInt8} {x : List (List UInt8)} (h : Inc (a :: x)) : (∀ z ∈ x, bl a z = true) ∧ Inc x := List.pairwise_cons.1 h
theorem map_tl_ofL (l : List (List UInt8)) : (l.map ofL).map tl = l := by
  rw [List.map_map]
  exact (List.map_congr_left (fun a _ => tl_ofL a)).trans (List.map_id l)
theorem rd_ofL (S : List (List UInt8)) (j : Nat) (h : j < S.length) : rdOf ByteArray.empty (S.map ofL) (j : Int) = ofL S[j] := by
  rw [rd_nat _ _ (by simpa using h)]; simp
theorem put_inc {S : List (List UInt8)} {x : List UInt8} {j : Nat} (hS : Inc S) (h1 : ∀ z ∈ S.take j, bl z x = true) (h2 : ∀ z ∈ S.drop j, bl x z = true) : Inc (S.take j ++ [x] ++ S.drop j) := by
  have hsplit : Inc (S.take j ++ S.drop j) := by rw [List.take_append_drop]; exact hS
  obtain ⟨ha, hb, hc⟩ := List.pairwise_append.1 hsplit
  refine List.pairwise_append.2 ⟨List.pairwise_append.2 ⟨ha, List.pairwise_singleton _ _, fun z hz y hy => by rw [List.mem_singleton.1 hy]; exact h1 z hz⟩, hb, fun z hz y hy => ?_⟩
  rcases List.mem_append.1 hz with hz | hz
  · exact hc z hz y hy
  · rw [List.mem_singleton.1 hz]; exact h2 y hy
theorem put_mem (S : List (List UInt8)) (x : List UInt8) (j : Nat) (z : List UInt8) : z ∈ S.take j ++ [x] ++ S.drop j ↔ z = x ∨ z ∈ S := by
  have : z ∈ S ↔ z ∈ S.take j ∨ z ∈ S.drop j := by rw [← List.mem_append, List.take_append_drop]
  rw [this]
  simp only [List.mem_append, List.mem_singleton]
  constructor
  · rintro ((h | h) | h)
    · exact .inr (.inl h)
    · exact .inl h
    · exact .inr (.inr h)
  · rintro (h | h | h)
    · exact .inl (.inr h)
    · exact .inl (.inl h)
    · exact .inr h
theorem sorted_l1 (xs : List ByteArray) (hn : xs.length ≤ 1000000) (i : Nat) (hi : i < xs.length) (S : List (List UInt8)) (hS : Inc S) (hl : S.length ≤ i) (r : List ByteArray)
    (next : ∀ T, Inc T → T.length ≤ i + 1 → (∀ z, z ∈ T ↔ z = tl xs[i] ∨ z ∈ S) → Ev (fun k => cleanseref03_Sorted.l0 k xs (T.map ofL) ((i + 1 : Nat) : Int)) r) :
    ∀ (d j : Nat), d + j = S.length → (∀ z ∈ S.take j, bl z (tl xs[i]) = true) → Ev (fun k => cleanseref03_Sorted.l1 k xs (S.map ofL) i j) r
  | 0, j, hd, hlt => by
    have hj : j = S.length := by omega
    have := next (S.take j ++ [tl xs[i]] ++ S.drop j) (put_inc hS hlt (by rw [List.drop_eq_nil_of_le (by omega)]; simp)) (by simp; omega) (put_mem S _ j)
    refine Ev.step (fun k => ?_) this
    simp only [cleanseref03_Sorted.l1]
    rw [if_neg (by simp; omega)]
    simp only [Option.bind_some, List.nil_append, List.length_nil, Nat.zero_add, Int.toNat_natCast]
    rw [if_pos (by omega), if_pos (by simp; omega), if_pos (by simp; omega), if_pos (by omega), if_pos (by omega), if_pos (by simp; omega), if_pos (by simp; omega), rd_nat _ _ hi, wrap_succ _ (by omega)]
    simp [List.map_append, List.map_take, List.map_drop, ofL_tl]
  | d + 1, j, hd, hlt => by
    have hj : j < S.length := by omega
    by_cases h1 : bl S[j] (tl xs[i]) = true
    · refine Ev.step (fun k => ?_) (sorted_l1 xs hn i hi S hS hl r next d (j + 1) (by omega) (fun z hz => ?_))
      · simp only [cleanseref03_Sorted.l1]
        rw [if_pos (by simp; omega), if_pos (by omega), if_pos (by omega), if_pos (by omega), rd_nat _ _ hi, rd_ofL _ _ hj, tl_ofL, if_pos h1, wrap_succ _ (by omega)]
      · rw [List.take_succ_eq_append_getElem hj] at hz
        rcases List.mem_append.1 hz with hz | hz
        · exact hlt z hz
        · rw [List.mem_singleton.1 hz]; exact h1
    · by_cases h2 : S[j] = tl xs[i]
      · have := next S hS (by omega) (fun z => ⟨.inr, fun h => by
          rcases h with h | h
          · rw [h, ← h2]; exact List.getElem_mem hj
          · exact h⟩)
        refine Ev.step (fun k => ?_) this
        simp only [cleanseref03_Sorted.l1]
        rw [if_pos (by simp; omega), if_pos (by omega), if_pos (by omega), if_pos (by omega), rd_nat _ _ hi, rd_ofL _ _ hj, tl_ofL, if_neg h1, if_pos h2, wrap_succ _ (by omega)]
      · have h3 : bl (tl xs[i]) S[j] = true := (bl_total h2).resolve_left h1
        have := next (S.take j ++ [tl xs[i]] ++ S.drop j) (put_inc hS hlt (fun z hz => by
          rw [List.drop_eq_getElem_cons hj] at hz
          rcases List.mem_cons.1 hz with e | e
          · rw [e]; exact h3
          · have hp : Inc (S.drop j) := List.Pairwise.sublist (List.drop_sublist _ _) hS
            rw [List.drop_eq_getElem_cons hj] at hp
            exact bl_trans h3 ((inc_head hp).1 z e))) (by simp; omega) (put_mem S _ j)
        refine Ev.step (fun k => ?_) this
        simp only [cleanseref03_Sorted.l1]
        rw [if_pos (by simp; omega), if_pos (by omega), if_pos (by omega), if_pos (by omega), rd_nat _ _ hi, rd_ofL _ _ hj, tl_ofL, if_neg h1, if_neg h2]
        simp only [Option.bind_some, List.nil_append, List.length_nil, Nat.zero_add, Int.toNat_natCast]
        rw [if_pos (by simp; omega), if_pos (by simp; omega), if_pos (by simp; omega), if_pos (by simp; omega), wrap_succ _ (by omega)]
        simp [List.map_append, List.map_take, List.map_drop, ofL_tl]
theorem sorted_l0 (xs : List ByteArray) (hn : xs.length ≤ 1000000) : ∀ (d i : Nat), d + i = xs.length → ∀ S : List (List UInt8), Inc S → S.length ≤ i →
    Ev (fun k => cleanseref03_Sorted.l0 k xs (S.map ofL) i) ((sortU (S ++ (xs.drop i).map tl)).map ofL)
  | 0, i, hd, S, hS, hl => by
    refine Ev.step (f := fun _ => some (S.map ofL)) (fun k => by simp only [cleanseref03_Sorted.l0]; rw [if_neg (by omega)]) ?_
    rw [List.drop_eq_nil_of_le (by omega), List.map_nil, List.append_nil, sortU_of_inc hS]
    exact Ev.now _
  | d + 1, i, hd, S, hS, hl => by
    have hi : i < xs.length := by omega
    refine Ev.step (f := fun k => cleanseref03_Sorted.l1 k xs (S.map ofL) i ((0 : Nat) : Int)) (fun k => by simp only [cleanseref03_Sorted.l0]; rw [if_pos (by omega)]; rfl) ?_
    refine sorted_l1 xs hn i hi S hS hl _ (fun T hT hTl hm => ?_) S.length 0 (by omega) (by simp)
    have := sorted_l0 xs hn d (i + 1) (by omega) T hT hTl
    rw [show sortU (S ++ (xs.drop i).map tl) = sortU (T ++ (xs.drop (i + 1)).map tl) from sortU_congr (fun z => by
      rw [List.drop_eq_getElem_cons hi, List.map_cons, List.mem_append, List.mem_append, List.mem_cons, hm z]
      constructor
      · rintro (h | h | h)
        · exact .inl (.inr h)
        · exact .inl (.inl h)
        · exact .inr h
      · rintro ((h | h) | h)
        · exact .inr (.inl h)
        · exact .inl h
        · exact .inr (.inr h))]
    exact this
theorem sorted_f (xs : List ByteArray) (hn : xs.length ≤ 1000000) : Ev (fun k => cleanseref03_Sorted.f k xs) ((sortU (xs.map tl)).map ofL) := by
  have := sorted_l0 xs hn xs.length 0 rfl [] List.Pairwise.nil (by simp)
  simp only [List.map_nil, List.nil_append, List.drop_zero] at this
  exact Ev.congr (fun k => rfl) this
theorem joinB_append : ∀ (a b : List (List UInt8)), a ≠ [] → b ≠ [] → joinB (a ++ b) = joinB a ++ 32 :: joinB b
  | [], _, h, _ => absurd rfl h
  | [x], [], _, h => absurd rfl h
  | [x], y :: r, _, _ => rfl
  | x :: y :: r, b, _, hb => by
    show x ++ 32 :: joinB ((y :: r) ++ b) = _
    rw [joinB_append (y :: r) b (by simp) hb]
    simp [joinB]
theorem words_f {s : ByteArray} (h : s.size ≤ 1000000) : cleanseref03_Words.f s = some ((wordsL s.toList).map ofL) := by unfold cleanseref03_Words.f; rw [if_pos h, ← Go.ByteArray.toList_eq]
theorem joinB_le (m : Nat) : ∀ ws : List (List UInt8), (∀ w ∈ ws, w.length ≤ m) → (joinB ws).length ≤ ws.length * (m + 1)
  | [], _ => by simp [joinB]
  | [x], h => by have := h x List.mem_cons_self; simp [joinB]; omega
  | x :: y :: r, h => by
    have hx := h x List.mem_cons_self
    have ih := joinB_le m (y :: r) (fun w hw => h w (List.mem_cons_of_mem _ hw))
    show (x ++ 32 :: joinB (y :: r)).length ≤ _
    rw [List.length_append, List.length_cons, List.length_cons (a := x), Nat.add_mul, Nat.one_mul]
    omega
theorem joinB_take (ws : List (List UInt8)) (i : Nat) (h : i < ws.length) (h0 : 0 < i) : joinB (ws.take (i + 1)) = joinB (ws.take i) ++ 32 :: ws[i] := by
  rw [List.take_succ_eq_append_getElem h, joinB_append _ _ (fun e => by have := congrArg List.length e; rw [List.length_take, List.length_nil] at this; omega) (by simp)]
  rfl
theorem rfold_l0 (ws : List (List UInt8)) (hl : ws.length ≤ 1000000) (hm : ∀ w ∈ ws, w.length ≤ 1000000) : ∀ (d i : Nat), d + i = ws.length → Ev (fun k => cleanseref03_Fold.l0 k (ws.map ofL) (ofL (joinB (ws.take i))) i) (ofL (joinB ws))
  | 0, i, hd => by
    refine Ev.step (f := fun _ => some (ofL (joinB ws))) (fun k => ?_) (Ev.now _)
    simp only [cleanseref03_Fold.l0]
    rw [if_neg (by rw [List.length_map]; omega), List.take_of_length_le (by omega)]
  | d + 1, i, hd => by
    have hi : i < ws.length := by omega
    have ih := rfold_l0 ws hl hm d (i + 1) (by omega)
    have hb := joinB_le 1000000 (ws.take i) (fun w hw => hm w (List.mem_of_mem_take hw))
    have hb2 : (ws.take i).length * (1000000 + 1) ≤ 1000000 * (1000000 + 1) := Nat.mul_le_mul_right _ (by rw [List.length_take]; omega)
    have hwi := hm _ (List.getElem_mem hi)
    have hlb : (⟨#[32]⟩ : ByteArray) = ofL [32] := rfl
    refine Ev.step (fun k => ?_) ih
    simp only [cleanseref03_Fold.l0]
    rw [if_pos (by rw [List.length_map]; omega), rd_ofL _ _ hi, wrap_succ _ (by omega), hlb]
    by_cases h0 : 0 < i
    · have happ : ofL (joinB (ws.take i)) ++ ofL [32] ++ ofL ws[i] = ofL (joinB (ws.take (i + 1))) := tl_inj (by rw [tl_append, tl_append, tl_ofL, tl_ofL, tl_ofL, tl_ofL, joinB_take ws i hi h0]; simp)
      rw [if_pos (by omega), if_pos (by rw [ofL_size]; omega), if_pos (by omega), if_pos (by rw [← tl_size (_ ++ ofL [32]), tl_append, tl_ofL, tl_ofL, ofL_size]; simp; omega), happ]
    · obtain rfl : i = 0 := by omega
      have happ : ofL (joinB (ws.take 0)) ++ ofL (ws[0]'hi) = ofL (joinB (ws.take (0 + 1))) := tl_inj (by
        rw [tl_append, tl_ofL, tl_ofL, tl_ofL]
        cases ws with
        | nil => simp at hi
        | cons a r => simp [joinB])
      rw [if_neg (by omega), if_pos (by omega), if_pos (by rw [ofL_size, ofL_size]; omega), happ]
theorem rfold_f {s : ByteArray} (h : s.toList.length ≤ 1000) : Ev (fun k => cleanseref03_Fold.f k s) (ofL (foldL s.toList)) := by
  have e := tl_size s
  have hw := words_len s.toList
  refine Ev.congr (fun k => ?_) (rfold_l0 (wordsL s.toList) (by omega) (fun w hw => by have := word_len hw; omega) (wordsL s.toList).length 0 (by omega))
  unfold cleanseref03_Fold.f
  rw [words_f (by omega)]
  rfl
theorem rtokens_f {s : ByteArray} (h : s.toList.length ≤ 1000) : Ev (fun k => cleanseref03_Tokens.f k s) ((sortU (wordsL s.toList)).map ofL) := by
  have e := tl_size s
  have hw := words_len s.toList
  have hs := sorted_f ((wordsL s.toList).map ofL) (by rw [List.length_map]; omega)
  rw [map_tl_ofL] at hs
  refine Ev.congr (fun k => ?_) (Ev.bind hs (Ev.now _) (f := fun _ t => some t))
  unfold cleanseref03_Tokens.f
  rw [words_f (by omega)]
  rfl
end Go.Proofs.YtgomlpndoolllaaDoor.Pure
end

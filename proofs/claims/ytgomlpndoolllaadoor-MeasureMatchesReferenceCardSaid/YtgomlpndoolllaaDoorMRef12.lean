/- Parts of the proof of MRef: words, contracts and plain laws. -/
import Derived.Test.YtgomlpndoolllaaDoorMRef11
section
namespace Go.Proofs.YtgomlpndoolllaaDoor.Q
open Go.RowKit Go.Proofs.YtgomlpndoolllaaDoorW.PrintWords Go.Proofs.YtgomlpndoolllaaDoorW.PrintLast Go.Proofs.YtgomlpndoolllaaDoorW.PrintMore
attribute [local go_sem] max2_int min2_int max_two min_two max_three min_three max_four min_four   -- for this text's walks alone
set_option linter.unusedVariables false
set_option linter.unusedSimpArgs false

/-! ### cleanseref01_of: function 62 -/
def cleanseref01_of.j0 : Nat → Bool → Int → Int → Int → Bool → Option (Int × Int × Int)
 | 0, _, _, _, _, _ => none
 | k + 1, x0, x1, x2, x8, x25 => if x25 = true then (some (0, 0, 2)) else (if x8 = 0 then (none) else (if x0 = true then (some (wrap64 (-(wrap64 (IntKind.u64.wrap (Int.tdiv x1 x8)))), wrap64 (IntKind.u64.wrap (Int.tdiv x2 x8)), 0)) else (some (wrap64 (IntKind.u64.wrap (Int.tdiv x1 x8)), wrap64 (IntKind.u64.wrap (Int.tdiv x2 x8)), 0))))
def cleanseref01_of.f (k : Nat) (a0 : Bool) (a1 : Int) (a2 : Int) : Option (Int × Int × Int) := if a2 = 0 then (some (0, 0, 1)) else ((cleanseref01_Gcd.f k a1 a2).bind fun t203 => (if t203 = 0 then (none) else (if (IntKind.u64.wrap (Int.tdiv a1 t203)) > 1000000000 then (cleanseref01_of.j0 k a0 a1 a2 t203 true) else (cleanseref01_of.j0 k a0 a1 a2 t203 (decide ((IntKind.u64.wrap (Int.tdiv a2 t203)) > 1000000000))))))
set_option maxHeartbeats 8000000 in
set_option maxRecDepth 100000 in
theorem cleanseref01_of.calls (k : Nat) (a0 : Bool) (a1 : Int) (a2 : Int) (r1 : Int) (r2 : Int) (r3 : Int) (w : World) (h : cleanseref01_of.f k a0 a1 a2 = some (r1, r2, r3)) :
  Calls Tryd.prog 62 #[.bool a0, .int .u64 a1, .int .u64 a2] w fun e w' => e = .returned (.tuple #[.agg #[.int .i64 r1, .int .i64 r2], .int .i64 r3]) ∧ Below w.heap.size w w' := by
 have hu32 := Tryd.underlying32
 have HB := Aside0.mk (Below.refl w.heap.size w)
 have H : (if a2 = 0 then (some (0, 0, 1)) else ((cleanseref01_Gcd.f k a1 a2).bind fun t203 => (if t203 = 0 then (none) else (if (IntKind.u64.wrap (Int.tdiv a1 t203)) > 1000000000 then (cleanseref01_of.j0 k a0 a1 a2 t203 true) else (cleanseref01_of.j0 k a0 a1 a2 t203 (decide ((IntKind.u64.wrap (Int.tdiv a2 t203)) > 1000000000))))))) = some (r1, r2, r3) := h
 clear h
 by_cases c4 : a2 = 0
 ·rw [if_pos c4] at H
  have c4b0 : (a2 == 0) = true := beq_iff_eq.mpr c4
  have c4b1 : (a2 != 0) = false := bne_eq_false_iff_eq.mpr c4
  clear c4
  simp only [Option.some.injEq, Prod.mk.injEq] at H
  obtain ⟨rfl, rfl, rfl⟩ := H
  go_enter Tryd.func62, Tryd.ntmps62
  go_wp2_with (first | ((with_reducible refine gate_dst (N := 6) rfl ?_); refine box_event ?hg (N := 6) ?hd (cs := #[.int .i64 0, .int .i64 0]) (t := 32) ?hr ?_; (case hd => rfl); (case hg => rfl); (case hr => (go_simp; done)); intro gb202 hg w5 hbox hb; have n0_ := Aside0.mk (below_step HB.out hb); have n1_ := Aside0.mk (hbox); have n3_ := Aside0.mk ((by rw [hg]; exact (below_size HB.out) : w.heap.size ≤ gb202)); clear HB; have HB := n0_; have BK202 := n1_; have GE202 := n3_; clear n0_ n1_ n3_; clear hb hbox hg; have hcz6_0 := cel_ BK202.out 0 rfl; have hcz6_1 := cel_ BK202.out 1 rfl; have hfz6_0 := blk_frozen BK202.out 0; have hfz6_1 := blk_frozen BK202.out 1))
  refine bodyPost_ret (results_ct rfl _ _ gb202 32 #[.int .i64 0, .int .i64 0] (0, 0) _ rfl (by refine blk_put (cs := #[.int .i64 0, .int .i64 0]) ?_ 1 _ rfl; refine blk_put (cs := #[.int .i64 0, .int .i64 0]) ?_ 0 _ rfl; exact BK202.out) Tryd.underlying32 rfl (by kernel_rfl)) rfl ?_
  exact ⟨by rfl, by repeat ((with_reducible first | exact HB.out | refine below_set ?_ GE202.out))⟩
 rw [if_neg c4] at H
 have c4b0 : (a2 == 0) = false := beq_eq_false_iff_ne.mpr c4
 have c4b1 : (a2 != 0) = true := bne_iff_ne.mpr c4
 replace H := Option.bind_eq_some_iff.mp H
 obtain ⟨t203, A70, H⟩ := H
 replace H : (if t203 = 0 then (none) else (if (IntKind.u64.wrap (Int.tdiv a1 t203)) > 1000000000 then (cleanseref01_of.j0 k a0 a1 a2 t203 true) else (cleanseref01_of.j0 k a0 a1 a2 t203 (decide ((IntKind.u64.wrap (Int.tdiv a2 t203)) > 1000000000))))) = some (r1, r2, r3) := H
 have A7 := Aside0.mk A70
 clear A70
 have HC8 := Aside0.mk H
 clear H
 go_enter Tryd.func62, Tryd.ntmps62
 go_upto_region 4 with (first | ((with_reducible refine gate_dst (N := 6) rfl ?_); refine box_event ?hg (N := 6) ?hd (cs := #[.int .i64 0, .int .i64 0]) (t := 32) ?hr ?_; (case hd => rfl); (case hg => rfl); (case hr => (go_simp; done)); intro gb202 hg w9 hbox hb; have n0_ := Aside0.mk (below_step HB.out hb); have n1_ := Aside0.mk (hbox); have n3_ := Aside0.mk ((by rw [hg]; exact (below_size HB.out) : w.heap.size ≤ gb202)); clear HB; have HB := n0_; have BK202 := n1_; have GE202 := n3_; clear n0_ n1_ n3_; clear hb hbox hg) | ((with_reducible refine gate_callee (f := 57) rfl ?_); refine goesL_ (some 15) rfl rfl Tryd.func57 (by kernel_rfl) rfl #[.int .u64 a1, .int .u64 a2] rfl (by (try simp only [List.map_toArray, List.map_cons, List.map_nil]); rfl) ?_; (with_reducible refine (cleanseref01_Gcd.calls k a1 a2 t203 _ A7.out).mono ?_); rintro e w' ⟨rfl, ⟨nd, rfl⟩⟩; refine ⟨_, rfl, ?_⟩))
 go_cut [25] (fun v25 wc => ∃ (kq : Nat) (x25_7 : Bool), v25 = .bool x25_7 ∧ Aside0 (cleanseref01_of.j0 kq a0 a1 a2 t203 x25_7 = some (r1, r2, r3)) ∧ Aside0 (kq ≤ k) ∧ Aside0 (wc.heap[gb202]? = some (.cells #[.int .i64 0, .int .i64 0] 32 (0, 0))) ∧ Aside0 (Below w.heap.size w wc))
 case first =>
  have H := HC8.out
  clear HC8
  by_cases c10 : t203 = 0
  ·rw [if_pos c10] at H
   exact absurd H (by simp)
  rw [if_neg c10] at H
  have c10b0 : (t203 == 0) = false := beq_eq_false_iff_ne.mpr c10
  have c10b1 : (t203 != 0) = true := bne_iff_ne.mpr c10
  by_cases c11 : (IntKind.u64.wrap (Int.tdiv a1 t203)) > 1000000000
  ·rw [if_pos c11] at H
   have c11b0 : decide (1000000000 < (IntKind.u64.wrap (Int.tdiv a1 t203))) = true := decide_eq_true c11
   clear c11
   have H' := Aside0.mk H
   clear H
   go_wp2
   go_meet
   case rel => exact ⟨_, (true), (by rfl), H', ⟨by omega⟩, ⟨by (with_reducible repeat ((refine blk_drewN ?_ _))); exact BK202.out⟩, ⟨by repeat ((with_reducible first | exact HB.out | apply pw_below_drewN))⟩⟩
  rw [if_neg c11] at H
  have c11b0 : decide (1000000000 < (IntKind.u64.wrap (Int.tdiv a1 t203))) = false := decide_eq_false c11
  clear c11
  have H' := Aside0.mk H
  clear H
  go_wp2
  go_meet
  case rel => exact ⟨_, (decide ((IntKind.u64.wrap (Int.tdiv a2 t203)) > 1000000000)), (by rfl), H', ⟨by omega⟩, ⟨by (with_reducible repeat ((refine blk_drewN ?_ _))); exact BK202.out⟩, ⟨by repeat ((with_reducible first | exact HB.out | apply pw_below_drewN))⟩⟩
 clear HC8
 clear c4 c4b0 c4b1
 obtain ⟨kq, x25_7, rfl, HA, HJ7, BK202, HB⟩ := hcut
 cases kq with
 | zero => exact absurd HA.out (by simp [cleanseref01_of.j0])
 | succ kj7 =>
  have H := HA.out
  clear HA
  simp only [cleanseref01_of.j0] at H
  by_cases c12 : x25_7 = true
  ·subst c12
   have H1 : (some (0, 0, 2)) = some (r1, r2, r3) := by rw [if_pos rfl] at H; exact H
   clear H
   have H := H1
   clear H1
   simp only [Option.some.injEq, Prod.mk.injEq] at H
   obtain ⟨rfl, rfl, rfl⟩ := H
   have hcz13_0 := cel_ BK202.out 0 rfl
   have hcz13_1 := cel_ BK202.out 1 rfl
   have hfz13_0 := blk_frozen BK202.out 0
   have hfz13_1 := blk_frozen BK202.out 1
   go_wp2
   refine bodyPost_ret (results_ct rfl _ _ gb202 32 #[.int .i64 0, .int .i64 0] (0, 0) _ rfl (by refine blk_put (cs := #[.int .i64 0, .int .i64 0]) ?_ 1 _ rfl; refine blk_put (cs := #[.int .i64 0, .int .i64 0]) ?_ 0 _ rfl; exact BK202.out) Tryd.underlying32 rfl (by kernel_rfl)) rfl ?_
   exact ⟨by rfl, by repeat ((with_reducible first | exact HB.out | refine below_set ?_ GE202.out))⟩
  replace c12 := Bool.eq_false_iff.mpr c12
  subst c12
  have H1 : (if t203 = 0 then (none) else (if a0 = true then (some (wrap64 (-(wrap64 (IntKind.u64.wrap (Int.tdiv a1 t203)))), wrap64 (IntKind.u64.wrap (Int.tdiv a2 t203)), 0)) else (some (wrap64 (IntKind.u64.wrap (Int.tdiv a1 t203)), wrap64 (IntKind.u64.wrap (Int.tdiv a2 t203)), 0)))) = some (r1, r2, r3) := by rw [if_neg (show ¬ (false = true) by decide)] at H; exact H
  clear H
  have H := H1
  clear H1
  by_cases c14 : t203 = 0
  ·rw [if_pos c14] at H
   exact absurd H (by simp)
  rw [if_neg c14] at H
  have c14b0 : (t203 == 0) = false := beq_eq_false_iff_ne.mpr c14
  have c14b1 : (t203 != 0) = true := bne_iff_ne.mpr c14
  by_cases c15 : a0 = true
  ·subst c15
   have H1 : (some (wrap64 (-(wrap64 (IntKind.u64.wrap (Int.tdiv a1 t203)))), wrap64 (IntKind.u64.wrap (Int.tdiv a2 t203)), 0)) = some (r1, r2, r3) := by rw [if_pos rfl] at H; exact H
   clear H
   have H := H1
   clear H1
   simp only [Option.some.injEq, Prod.mk.injEq] at H
   obtain ⟨rfl, rfl, rfl⟩ := H
   have hcz16_0 := cel_ BK202.out 0 rfl
   have hcz16_1 := cel_ BK202.out 1 rfl
   have hfz16_0 := blk_frozen BK202.out 0
   have hfz16_1 := blk_frozen BK202.out 1
   go_wp2
   refine bodyPost_ret (results_ct rfl _ _ gb202 32 #[.int .i64 (wrap64 (-(wrap64 (IntKind.u64.wrap (Int.tdiv a1 t203))))), .int .i64 (wrap64 (IntKind.u64.wrap (Int.tdiv a2 t203)))] (0, 0) _ rfl (by refine blk_put (cs := #[.int .i64 (wrap64 (-(wrap64 (IntKind.u64.wrap (Int.tdiv a1 t203))))), .int .i64 0]) ?_ 1 _ rfl; refine blk_put (cs := #[.int .i64 0, .int .i64 0]) ?_ 0 _ rfl; exact BK202.out) Tryd.underlying32 rfl (by kernel_rfl)) rfl ?_
   exact ⟨by rfl, by repeat ((with_reducible first | exact HB.out | refine below_set ?_ GE202.out))⟩
  replace c15 := Bool.eq_false_iff.mpr c15
  subst c15
  have H1 : (some (wrap64 (IntKind.u64.wrap (Int.tdiv a1 t203)), wrap64 (IntKind.u64.wrap (Int.tdiv a2 t203)), 0)) = some (r1, r2, r3) := by rw [if_neg (show ¬ (false = true) by decide)] at H; exact H
  clear H
  have H := H1
  clear H1
  simp only [Option.some.injEq, Prod.mk.injEq] at H
  obtain ⟨rfl, rfl, rfl⟩ := H
  have hcz17_0 := cel_ BK202.out 0 rfl
  have hcz17_1 := cel_ BK202.out 1 rfl
  have hfz17_0 := blk_frozen BK202.out 0
  have hfz17_1 := blk_frozen BK202.out 1
  go_wp2
  refine bodyPost_ret (results_ct rfl _ _ gb202 32 #[.int .i64 (wrap64 (IntKind.u64.wrap (Int.tdiv a1 t203))), .int .i64 (wrap64 (IntKind.u64.wrap (Int.tdiv a2 t203)))] (0, 0) _ rfl (by refine blk_put (cs := #[.int .i64 (wrap64 (IntKind.u64.wrap (Int.tdiv a1 t203))), .int .i64 0]) ?_ 1 _ rfl; refine blk_put (cs := #[.int .i64 0, .int .i64 0]) ?_ 0 _ rfl; exact BK202.out) Tryd.underlying32 rfl (by kernel_rfl)) rfl ?_
  exact ⟨by rfl, by repeat ((with_reducible first | exact HB.out | refine below_set ?_ GE202.out))⟩

/-! ### cleanseref01_Make: function 49 -/
def cleanseref01_Make.f (k : Nat) (a0 : Int) (a1 : Int) : Option (Int × Int × Int) := (cleanseref01_size.f a0).bind fun t205 => ((cleanseref01_size.f a1).bind fun t206 => ((cleanseref01_of.f k ((decide (a0 < 0)) != (decide (a1 < 0))) t205 t206).bind fun bt207 => (some (bt207.1, bt207.2.1, bt207.2.2))))
set_option maxHeartbeats 8000000 in
set_option maxRecDepth 100000 in
theorem cleanseref01_Make.calls (k : Nat) (a0 : Int) (a1 : Int) (r1 : Int) (r2 : Int) (r3 : Int) (w : World) (h : cleanseref01_Make.f k a0 a1 = some (r1, r2, r3)) :
  Calls Tryd.prog 49 #[.int .i64 a0, .int .i64 a1] w fun e w' => e = .returned (.tuple #[.agg #[.int .i64 r1, .int .i64 r2], .int .i64 r3]) ∧ Below w.heap.size w w' := by
 have hu32 := Tryd.underlying32
 have HB := Aside0.mk (Below.refl w.heap.size w)
 have H : ((cleanseref01_size.f a0).bind fun t205 => ((cleanseref01_size.f a1).bind fun t206 => ((cleanseref01_of.f k ((decide (a0 < 0)) != (decide (a1 < 0))) t205 t206).bind fun bt207 => (some (bt207.1, bt207.2.1, bt207.2.2))))) = some (r1, r2, r3) := h
 clear h
 replace H := Option.bind_eq_some_iff.mp H
 obtain ⟨t205, A30, H⟩ := H
 replace H : ((cleanseref01_size.f a1).bind fun t206 => ((cleanseref01_of.f k ((decide (a0 < 0)) != (decide (a1 < 0))) t205 t206).bind fun bt207 => (some (bt207.1, bt207.2.1, bt207.2.2)))) = some (r1, r2, r3) := H
 have A3 := Aside0.mk A30
 clear A30
 replace H := Option.bind_eq_some_iff.mp H
 obtain ⟨t206, A40, H⟩ := H
 replace H : ((cleanseref01_of.f k ((decide (a0 < 0)) != (decide (a1 < 0))) t205 t206).bind fun bt207 => (some (bt207.1, bt207.2.1, bt207.2.2))) = some (r1, r2, r3) := H
 have A4 := Aside0.mk A40
 clear A40
 replace H := Option.bind_eq_some_iff.mp H
 obtain ⟨⟨t207, t208, t209⟩, A50, H⟩ := H
 replace H : (some (t207, t208, t209)) = some (r1, r2, r3) := H
 have A5 := Aside0.mk A50
 clear A50
 simp only [Option.some.injEq, Prod.mk.injEq] at H
 obtain ⟨rfl, rfl, rfl⟩ := H
 go_enter Tryd.func49, Tryd.ntmps49
 go_wp2_with (first | ((with_reducible refine gate_dst (N := 4) rfl ?_); refine box_event ?hg (N := 4) ?hd (cs := #[.int .i64 0, .int .i64 0]) (t := 32) ?hr ?_; (case hd => rfl); (case hg => rfl); (case hr => (go_simp; done)); intro gb204 hg w6 hbox hb; have n0_ := Aside0.mk (below_step HB.out hb); have n1_ := Aside0.mk (hbox); have n3_ := Aside0.mk ((by rw [hg]; exact (below_size HB.out) : w.heap.size ≤ gb204)); clear HB; have HB := n0_; have BK204 := n1_; have GE204 := n3_; clear n0_ n1_ n3_; clear hb hbox hg) | ((with_reducible refine gate_callee (f := 58) rfl ?_); refine goesL_ (some 12) rfl rfl Tryd.func58 (by kernel_rfl) rfl #[.int .i64 a0] rfl (by (try simp only [List.map_toArray, List.map_cons, List.map_nil]); rfl) ?_; (with_reducible refine (cleanseref01_size.calls a0 t205 _ A3.out).mono ?_); rintro e w' ⟨rfl, ⟨nd, rfl⟩⟩; refine ⟨_, rfl, ?_⟩; (try (rw [drewN_self w6]; generalize hq_ : World.drewN w6 _ = w6; have n0_ : Aside0 (w6.heap[gb204]? = some (.cells #[.int .i64 0, .int .i64 0] 32 (0, 0))) := ⟨by rw [← hq_]; exact (by (with_reducible repeat ((refine blk_drewN ?_ _))); exact BK204.out)⟩; have n1_ : Aside0 (Below w.heap.size w w6) := ⟨by rw [← hq_]; exact (by repeat ((with_reducible first | exact HB.out | apply pw_below_drewN)))⟩; clear BK204 HB hq_; have BK204 := n0_; have HB := n1_; clear n0_ n1_))) | ((with_reducible refine gate_callee (f := 58) rfl ?_); refine goesL_ (some 14) rfl rfl Tryd.func58 (by kernel_rfl) rfl #[.int .i64 a1] rfl (by (try simp only [List.map_toArray, List.map_cons, List.map_nil]); rfl) ?_; (with_reducible refine (cleanseref01_size.calls a1 t206 _ A4.out).mono ?_); rintro e w' ⟨rfl, ⟨nd, rfl⟩⟩; refine ⟨_, rfl, ?_⟩; (try (rw [drewN_self w6]; generalize hq_ : World.drewN w6 _ = w6; have n0_ : Aside0 (w6.heap[gb204]? = some (.cells #[.int .i64 0, .int .i64 0] 32 (0, 0))) := ⟨by rw [← hq_]; exact (by (with_reducible repeat ((refine blk_drewN ?_ _))); exact BK204.out)⟩; have n1_ : Aside0 (Below w.heap.size w w6) := ⟨by rw [← hq_]; exact (by repeat ((with_reducible first | exact HB.out | apply pw_below_drewN)))⟩; clear BK204 HB hq_; have BK204 := n0_; have HB := n1_; clear n0_ n1_))) | ((with_reducible refine gate_callee (f := 62) rfl ?_); refine goesL_ (some 15) rfl rfl Tryd.func62 (by kernel_rfl) rfl #[.bool ((decide (a0 < 0)) != (decide (a1 < 0))), .int .u64 t205, .int .u64 t206] rfl (by (try simp only [List.map_toArray, List.map_cons, List.map_nil]); rfl) ?_; (with_reducible refine (cleanseref01_of.calls k ((decide (a0 < 0)) != (decide (a1 < 0))) t205 t206 t207 t208 t209 _ A5.out).mono ?_); rintro e w7 ⟨rfl, hb⟩; refine ⟨_, rfl, ?_⟩; have n0_ := Aside0.mk (blk_below (g := gb204) (o := .cells #[.int .i64 0, .int .i64 0] 32 (0, 0)) (by exact BK204.out) hb); have n1_ := Aside0.mk (below_step HB.out hb); clear BK204; clear HB; have BK204 := n0_; have HB := n1_; clear n0_ n1_; (try clear hb); have hcz8_0 := cel_ BK204.out 0 rfl; have hcz8_1 := cel_ BK204.out 1 rfl; have hfz8_0 := blk_frozen BK204.out 0; have hfz8_1 := blk_frozen BK204.out 1))
 refine bodyPost_ret (results_ct rfl _ _ gb204 32 #[.int .i64 t207, .int .i64 t208] (0, 0) _ rfl (by refine blk_put (cs := #[.int .i64 t207, .int .i64 0]) ?_ 1 _ rfl; refine blk_put (cs := #[.int .i64 0, .int .i64 0]) ?_ 0 _ rfl; exact BK204.out) Tryd.underlying32 rfl (by kernel_rfl)) rfl ?_
 exact ⟨by rfl, by repeat ((with_reducible first | exact HB.out | refine below_set ?_ GE204.out))⟩

/-! ### cleanseref04_share: function 36 -/
def cleanseref04_share.f (k : Nat) (a0 : Int) (a1 : Int) : Option (Int × Int) := (cleanseref01_Make.f k a0 a1).bind fun bt211 => (if bt211.2.2 = 0 then (some (bt211.1, bt211.2.1)) else (some (0, 1)))
set_option maxHeartbeats 8000000 in
set_option maxRecDepth 100000 in
theorem cleanseref04_share.calls (k : Nat) (a0 : Int) (a1 : Int) (r1 : Int) (r2 : Int) (w : World) (h : cleanseref04_share.f k a0 a1 = some (r1, r2)) :
  Calls Tryd.prog 36 #[.int .i64 a0, .int .i64 a1] w fun e w' => e = .returned (.agg #[.int .i64 r1, .int .i64 r2]) ∧ Below w.heap.size w w' := by
 have hu32 := Tryd.underlying32
 have HB := Aside0.mk (Below.refl w.heap.size w)
 have H : ((cleanseref01_Make.f k a0 a1).bind fun bt211 => (if bt211.2.2 = 0 then (some (bt211.1, bt211.2.1)) else (some (0, 1)))) = some (r1, r2) := h
 clear h
 replace H := Option.bind_eq_some_iff.mp H
 obtain ⟨⟨t211, t212, t213⟩, A30, H⟩ := H
 replace H : (if t213 = 0 then (some (t211, t212)) else (some (0, 1))) = some (r1, r2) := H
 have A3 := Aside0.mk A30
 clear A30
 by_cases c4 : t213 = 0
 ·rw [if_pos c4] at H
  have c4b0 : (t213 == 0) = true := beq_iff_eq.mpr c4
  have c4b1 : (t213 != 0) = false := bne_eq_false_iff_eq.mpr c4
  clear c4
  simp only [Option.some.injEq, Prod.mk.injEq] at H
  obtain ⟨rfl, rfl⟩ := H
  go_enter Tryd.func36, Tryd.ntmps36
  go_wp2_with (first | ((with_reducible refine gate_dst (N := 4) rfl ?_); refine box_event ?hg (N := 4) ?hd (cs := #[.int .i64 0, .int .i64 0]) (t := 32) ?hr ?_; (case hd => rfl); (case hg => rfl); (case hr => (go_simp; done)); intro gb210 hg w5 hbox hb; have n0_ := Aside0.mk (below_step HB.out hb); have n1_ := Aside0.mk (hbox); have n3_ := Aside0.mk ((by rw [hg]; exact (below_size HB.out) : w.heap.size ≤ gb210)); clear HB; have HB := n0_; have BK210 := n1_; have GE210 := n3_; clear n0_ n1_ n3_; clear hb hbox hg) | ((with_reducible refine gate_callee (f := 49) rfl ?_); refine goesL_ (some 10) rfl rfl Tryd.func49 (by kernel_rfl) rfl #[.int .i64 a0, .int .i64 a1] rfl (by (try simp only [List.map_toArray, List.map_cons, List.map_nil]); rfl) ?_; (with_reducible refine (cleanseref01_Make.calls k a0 a1 t211 t212 t213 _ A3.out).mono ?_); rintro e w6 ⟨rfl, hb⟩; refine ⟨_, rfl, ?_⟩; have n0_ := Aside0.mk (blk_below (g := gb210) (o := .cells #[.int .i64 0, .int .i64 0] 32 (0, 0)) (by exact BK210.out) hb); have n1_ := Aside0.mk (below_step HB.out hb); clear BK210; clear HB; have BK210 := n0_; have HB := n1_; clear n0_ n1_; (try clear hb)) | ((with_reducible refine gate_dst (N := 5) rfl ?_); refine box_event ?hg (N := 5) ?hd (cs := #[.int .i64 0, .int .i64 0]) (t := 32) ?hr ?_; (case hd => rfl); (case hg => rfl); (case hr => (go_simp; done)); intro gb214 hg w7 hbox hb; have n0_ := Aside0.mk (blk_below (g := gb210) (o := .cells #[.int .i64 0, .int .i64 0] 32 (0, 0)) (by exact BK210.out) hb); have n1_ := Aside0.mk (below_step HB.out hb); have n2_ := Aside0.mk (hbox); have n4_ := Aside0.mk ((by rw [hg]; exact (below_size HB.out) : w.heap.size ≤ gb214)); have n5_ := Aside0.mk ((by rw [hg]; exact Nat.ne_of_lt (blk_lt (g := gb210) (o := .cells #[.int .i64 0, .int .i64 0] 32 (0, 0)) (by exact BK210.out)) : gb210 ≠ gb214)); have n6_ := Aside0.mk ((by rw [hg]; exact Nat.ne_of_gt (blk_lt (g := gb210) (o := .cells #[.int .i64 0, .int .i64 0] 32 (0, 0)) (by exact BK210.out)) : gb214 ≠ gb210)); clear BK210; clear HB; have BK210 := n0_; have HB := n1_; have BK214 := n2_; have GE214 := n4_; have NB210_214 := n5_; have NB214_210 := n6_; clear n0_ n1_ n2_ n4_ n5_ n6_; clear hb hbox hg; have hnb8 := NB214_210.out; have hnc8 := NB210_214.out; have hcz9_0 := cel_ BK214.out 0 rfl; have hcz9_1 := cel_ BK214.out 1 rfl; have hfz9_0 := blk_frozen BK214.out 0; have hfz9_1 := blk_frozen BK214.out 1; have hcz10_0 := cel_ BK210.out 0 rfl; have hcz10_1 := cel_ BK210.out 1 rfl; have hfz10_0 := blk_frozen BK210.out 0; have hfz10_1 := blk_frozen BK210.out 1))
  refine bodyPost_ret (results_cell_row rfl _ _ gb210 32 #[.int .i64 t211, .int .i64 t212] (0, 0) _ rfl (by refine blk_put (cs := #[.int .i64 t211, .int .i64 0]) ?_ 1 _ rfl; refine blk_put (cs := #[.int .i64 0, .int .i64 0]) ?_ 0 _ rfl; refine blk_far ?_ NB210_214.out _; refine blk_far ?_ NB210_214.out _; exact BK210.out) Tryd.underlying32 rfl (by kernel_rfl)) rfl ?_
  exact ⟨by rfl, by repeat ((with_reducible first | exact HB.out | refine below_set ?_ GE210.out | refine below_set ?_ GE214.out))⟩
 rw [if_neg c4] at H
 have c4b0 : (t213 == 0) = false := beq_eq_false_iff_ne.mpr c4
 have c4b1 : (t213 != 0) = true := bne_iff_ne.mpr c4
 simp only [Option.some.injEq, Prod.mk.injEq] at H
 obtain ⟨rfl, rfl⟩ := H
 go_enter Tryd.func36, Tryd.ntmps36
 go_wp2_with (first | ((with_reducible refine gate_dst (N := 4) rfl ?_); refine box_event ?hg (N := 4) ?hd (cs := #[.int .i64 0, .int .i64 0]) (t := 32) ?hr ?_; (case hd => rfl); (case hg => rfl); (case hr => (go_simp; done)); intro gb210 hg w11 hbox hb; have n0_ := Aside0.mk (below_step HB.out hb); have n1_ := Aside0.mk (hbox); have n3_ := Aside0.mk ((by rw [hg]; exact (below_size HB.out) : w.heap.size ≤ gb210)); clear HB; have HB := n0_; have BK210 := n1_; have GE210 := n3_; clear n0_ n1_ n3_; clear hb hbox hg) | ((with_reducible refine gate_callee (f := 49) rfl ?_); refine goesL_ (some 10) rfl rfl Tryd.func49 (by kernel_rfl) rfl #[.int .i64 a0, .int .i64 a1] rfl (by (try simp only [List.map_toArray, List.map_cons, List.map_nil]); rfl) ?_; (with_reducible refine (cleanseref01_Make.calls k a0 a1 t211 t212 t213 _ A3.out).mono ?_); rintro e w12 ⟨rfl, hb⟩; refine ⟨_, rfl, ?_⟩; have n0_ := Aside0.mk (blk_below (g := gb210) (o := .cells #[.int .i64 0, .int .i64 0] 32 (0, 0)) (by exact BK210.out) hb); have n1_ := Aside0.mk (below_step HB.out hb); clear BK210; clear HB; have BK210 := n0_; have HB := n1_; clear n0_ n1_; (try clear hb)) | ((with_reducible refine gate_dst (N := 5) rfl ?_); refine box_event ?hg (N := 5) ?hd (cs := #[.int .i64 0, .int .i64 0]) (t := 32) ?hr ?_; (case hd => rfl); (case hg => rfl); (case hr => (go_simp; done)); intro gb214 hg w13 hbox hb; have n0_ := Aside0.mk (blk_below (g := gb210) (o := .cells #[.int .i64 0, .int .i64 0] 32 (0, 0)) (by exact BK210.out) hb); have n1_ := Aside0.mk (below_step HB.out hb); have n2_ := Aside0.mk (hbox); have n4_ := Aside0.mk ((by rw [hg]; exact (below_size HB.out) : w.heap.size ≤ gb214)); have n5_ := Aside0.mk ((by rw [hg]; exact Nat.ne_of_lt (blk_lt (g := gb210) (o := .cells #[.int .i64 0, .int .i64 0] 32 (0, 0)) (by exact BK210.out)) : gb210 ≠ gb214)); have n6_ := Aside0.mk ((by rw [hg]; exact Nat.ne_of_gt (blk_lt (g := gb210) (o := .cells #[.int .i64 0, .int .i64 0] 32 (0, 0)) (by exact BK210.out)) : gb214 ≠ gb210)); clear BK210; clear HB; have BK210 := n0_; have HB := n1_; have BK214 := n2_; have GE214 := n4_; have NB210_214 := n5_; have NB214_210 := n6_; clear n0_ n1_ n2_ n4_ n5_ n6_; clear hb hbox hg; have hnb14 := NB214_210.out; have hnc14 := NB210_214.out; have hcz15_0 := cel_ BK214.out 0 rfl; have hcz15_1 := cel_ BK214.out 1 rfl; have hfz15_0 := blk_frozen BK214.out 0; have hfz15_1 := blk_frozen BK214.out 1; have hcz16_0 := cel_ BK210.out 0 rfl; have hcz16_1 := cel_ BK210.out 1 rfl; have hfz16_0 := blk_frozen BK210.out 0; have hfz16_1 := blk_frozen BK210.out 1))
 refine bodyPost_ret (results_cell_row rfl _ _ gb210 32 #[.int .i64 0, .int .i64 1] (0, 0) _ rfl (by refine blk_put (cs := #[.int .i64 0, .int .i64 0]) ?_ 1 _ rfl; refine blk_put (cs := #[.int .i64 0, .int .i64 0]) ?_ 0 _ rfl; refine blk_far ?_ NB210_214.out _; refine blk_far ?_ NB210_214.out _; exact BK210.out) Tryd.underlying32 rfl (by kernel_rfl)) rfl ?_
 exact ⟨by rfl, by repeat ((with_reducible first | exact HB.out | refine below_set ?_ GE210.out | refine below_set ?_ GE214.out))⟩

end Go.Proofs.YtgomlpndoolllaaDoor.Q
end

section
namespace Go.Proofs.YtgomlpndoolllaaDoor.Q
open Go.RowKit Go.Proofs.YtgomlpndoolllaaDoorW.PrintWords Go.Proofs.YtgomlpndoolllaaDoorW.PrintLast Go.Proofs.YtgomlpndoolllaaDoorW.PrintMore
attribute [local go_sem] max2_int min2_int max_two min_two max_three min_three max_four min_four   -- for this text's walks alone
set_option linter.unusedVariables false
set_option linter.unusedSimpArgs false

/-! ### cleanseref04_in: function 37 -/
def cleanseref04_in.l0 : Nat → List ByteArray → Int → ByteArray → Int → Option (Bool)
 | 0, _, _, _, _ => none
 | k + 1, x0, x1, x2, x7 => if x7 < x1 then (if 0 ≤ x7 then (if x7 < (x0.length : Int) then (if (rdOf ByteArray.empty x0 x7).toList = x2.toList then (some true) else (cleanseref04_in.l0 k x0 x1 x2 (wrap64 (x7 + 1)))) else (none)) else (none)) else (some false)
def cleanseref04_in.f (k : Nat) (l0 : List ByteArray) (a1 : Int) (a2 : ByteArray) : Option (Bool) := cleanseref04_in.l0 k l0 a1 a2 0
set_option maxHeartbeats 8000000 in
set_option maxRecDepth 100000 in
theorem cleanseref04_in.calls (k : Nat) (A0 : Option Addr) (c0 : Nat) (l0 : List ByteArray) (a1 : Int) (a2 : ByteArray) (r : Bool) (w : World) (hr0 : Kd.C Kd.string w A0 l0.length l0) (hc0 : l0.length ≤ c0) (h : cleanseref04_in.f k l0 a1 a2 = some r) :
  Calls Tryd.prog 37 #[.slice A0 l0.length c0, .int .i64 a1, .string a2] w fun e w' => e = .returned (.bool r) ∧ Drawn0 w w' := by
 have HR0 := Aside0.mk hr0
 have HC0 := Aside0.mk hc0
 clear hr0 hc0
 have H : (cleanseref04_in.l0 k l0 a1 a2 0) = some r := h
 clear h
 have H' := Aside0.mk H
 clear H
 go_enter Tryd.func37, Tryd.ntmps37
 go_wp2
 go_loopg [7] k (fun kq v7 w' => ∃ (x7_1 : Int), v7 = .int .i64 x7_1 ∧ Aside0 (cleanseref04_in.l0 kq l0 a1 a2 x7_1 = some r) ∧ Aside0 (kq ≤ k) ∧ Drawn0 w w')
 case atStart => exact ⟨(0), (by rfl), H', ⟨Nat.le_refl _⟩, by exact Drawn0.refl _⟩
 clear H'
 obtain ⟨x7_1, rfl, HA, HK1, ⟨m1, rfl⟩⟩ := hrel
 cases gk with
 | zero => exact absurd HA.out (by simp [cleanseref04_in.l0])
 | succ k1 =>
  have H := HA.out
  clear HA
  simp only [cleanseref04_in.l0] at H
  by_cases c4 : x7_1 < a1
  ·rw [if_pos c4] at H
   have c4b0 : decide (x7_1 < a1) = true := decide_eq_true c4
   clear c4
   by_cases c5 : 0 ≤ x7_1
   ·rw [if_pos c5] at H
    have c5b0 : decide (0 ≤ x7_1) = true := decide_eq_true c5
    clear c5
    by_cases c6 : x7_1 < (l0.length : Int)
    ·rw [if_pos c6] at H
     have c6b0 : decide (x7_1 < (l0.length : Int)) = true := decide_eq_true c6
     clear c6
     by_cases c7 : (rdOf ByteArray.empty l0 x7_1).toList = a2.toList
     ·rw [if_pos c7] at H
      have c7b0 : ((rdOf ByteArray.empty l0 x7_1).toList == a2.toList) = true := beq_iff_eq.mpr c7
      have c7b1 : ((rdOf ByteArray.empty l0 x7_1).toList != a2.toList) = false := bne_eq_false_iff_eq.mpr c7
      clear c7
      obtain rfl := Option.some.inj H
      have p215 : 0 ≤ (x7_1 : Int) := of_decide_eq_true (by (with_reducible assumption))
      have q215 : x7_1 < (l0.length : Int) := of_decide_eq_true (by (with_reducible assumption))
      obtain ⟨ad215, e215, hx215_0⟩ := Kd.at_string HR0.out x7_1 p215 q215
      cases e215
      replace p215 := eq_true p215
      replace q215 := eq_true q215
      go_wp2
      go_ret
      exact ⟨by rfl, by repeat (first | exact Drawn0.refl _ | apply Drawn0.step)⟩
     rw [if_neg c7] at H
     have c7b0 : ((rdOf ByteArray.empty l0 x7_1).toList == a2.toList) = false := beq_eq_false_iff_ne.mpr c7
     have c7b1 : ((rdOf ByteArray.empty l0 x7_1).toList != a2.toList) = true := bne_iff_ne.mpr c7
     have H' := Aside0.mk H
     clear H
     have p215 : 0 ≤ (x7_1 : Int) := of_decide_eq_true (by (with_reducible assumption))
     have q215 : x7_1 < (l0.length : Int) := of_decide_eq_true (by (with_reducible assumption))
     obtain ⟨ad215, e215, hx215_0⟩ := Kd.at_string HR0.out x7_1 p215 q215
     cases e215
     replace p215 := eq_true p215
     replace q215 := eq_true q215
     go_wp2
     go_roundg k1
     case measure => have := HK1.out; omega
     case rel => exact ⟨(wrap64 (x7_1 + 1)), (by rfl), H', ⟨by have := HK1.out; omega⟩, by repeat (first | exact Drawn0.refl _ | apply Drawn0.step)⟩
    rw [if_neg c6] at H
    exact absurd H (by simp)
   rw [if_neg c5] at H
   exact absurd H (by simp)
  rw [if_neg c4] at H
  have c4b0 : decide (x7_1 < a1) = false := decide_eq_false c4
  clear c4
  obtain rfl := Option.some.inj H
  go_wp2
  go_ret
  exact ⟨by rfl, by repeat (first | exact Drawn0.refl _ | apply Drawn0.step)⟩

end Go.Proofs.YtgomlpndoolllaaDoor.Q
end

section
namespace Go.Proofs.YtgomlpndoolllaaDoor.Q
open Go.RowKit Go.Proofs.YtgomlpndoolllaaDoorW.PrintWords Go.Proofs.YtgomlpndoolllaaDoorW.PrintLast Go.Proofs.YtgomlpndoolllaaDoorW.PrintMore
attribute [local go_sem] max2_int min2_int max_two min_two max_three min_three max_four min_four   -- for this text's walks alone
set_option linter.unusedVariables false
set_option linter.unusedSimpArgs false

/-! ### cleanseref04_Jaccard: function 19 -/
mutual
def cleanseref04_Jaccard.l0 : Nat → List ByteArray → List ByteArray → Int → Int → Int → Option (Int × Int)
 | 0, _, _, _, _, _ => none
 | k + 1, x0, x1, x5, x6, x7 => if x7 < (x0.length : Int) then (if 0 ≤ x7 then ((cleanseref04_in.f k x0 x7 (rdOf ByteArray.empty x0 x7)).bind fun t218 => (if t218 = true then (cleanseref04_Jaccard.l0 k x0 x1 x5 x6 (wrap64 (x7 + 1))) else ((cleanseref04_in.f k x1 (x1.length : Int) (rdOf ByteArray.empty x0 x7)).bind fun t220 => (if t220 = true then (cleanseref04_Jaccard.l0 k x0 x1 (wrap64 (x5 + 1)) (wrap64 (x6 + 1)) (wrap64 (x7 + 1))) else (cleanseref04_Jaccard.l0 k x0 x1 x5 (wrap64 (x6 + 1)) (wrap64 (x7 + 1))))))) else (none)) else (cleanseref04_Jaccard.l1 k x0 x1 x5 x6 0)
def cleanseref04_Jaccard.l1 : Nat → List ByteArray → List ByteArray → Int → Int → Int → Option (Int × Int)
 | 0, _, _, _, _, _ => none
 | k + 1, x0, x1, x5, x6, x8 => if x8 < (x1.length : Int) then (if 0 ≤ x8 then ((cleanseref04_in.f k x1 x8 (rdOf ByteArray.empty x1 x8)).bind fun t224 => (if t224 = true then (cleanseref04_Jaccard.l1 k x0 x1 x5 x6 (wrap64 (x8 + 1))) else ((cleanseref04_in.f k x0 (x0.length : Int) (rdOf ByteArray.empty x1 x8)).bind fun t226 => (if t226 = true then (cleanseref04_Jaccard.l1 k x0 x1 x5 x6 (wrap64 (x8 + 1))) else (cleanseref04_Jaccard.l1 k x0 x1 x5 (wrap64 (x6 + 1)) (wrap64 (x8 + 1))))))) else (none)) else (if x6 = 0 then (some (1, 1)) else ((cleanseref04_share.f k x5 x6).bind fun bt221 => (some (bt221.1, bt221.2))))
end
def cleanseref04_Jaccard.f (k : Nat) (l0 : List ByteArray) (l1 : List ByteArray) : Option (Int × Int) := cleanseref04_Jaccard.l0 k l0 l1 0 0 0
set_option maxHeartbeats 8000000 in
set_option maxRecDepth 100000 in
theorem cleanseref04_Jaccard.calls (k : Nat) (A0 : Option Addr) (c0 : Nat) (l0 : List ByteArray) (A1 : Option Addr) (c1 : Nat) (l1 : List ByteArray) (r1 : Int) (r2 : Int) (w : World) (hr0 : Kd.C Kd.string w A0 l0.length l0) (hc0 : l0.length ≤ c0) (hr1 : Kd.C Kd.string w A1 l1.length l1) (hc1 : l1.length ≤ c1) (h : cleanseref04_Jaccard.f k l0 l1 = some (r1, r2)) :
  Calls Tryd.prog 19 #[.slice A0 l0.length c0, .slice A1 l1.length c1] w fun e w' => e = .returned (.agg #[.int .i64 r1, .int .i64 r2]) ∧ Below w.heap.size w w' := by
 have hu32 := Tryd.underlying32
 have HR0 := Aside0.mk hr0
 have HC0 := Aside0.mk hc0
 clear hr0 hc0
 have HR1 := Aside0.mk hr1
 have HC1 := Aside0.mk hc1
 clear hr1 hc1
 have HB := Aside0.mk (Below.refl w.heap.size w)
 have H : (cleanseref04_Jaccard.l0 k l0 l1 0 0 0) = some (r1, r2) := h
 clear h
 have H' := Aside0.mk H
 clear H
 go_enter Tryd.func19, Tryd.ntmps19
 go_wp2_with (first | ((with_reducible refine gate_dst (N := 4) rfl ?_); (try (refine gate_guard (by rfl) ?_; dsimp only)); refine box_event ?hg (N := 4) ?hd (cs := #[.int .i64 0, .int .i64 0]) (t := 32) ?hr ?_; (case hd => rfl); (case hg => rfl); (case hr => (go_simp; done)); intro gb216 hg w3 hbox hb; have n0_ := Aside0.mk (below_step HB.out hb); have n1_ := Aside0.mk (hbox); have n3_ := Aside0.mk ((by rw [hg]; exact (below_size HB.out) : w.heap.size ≤ gb216)); clear HB; have HB := n0_; have BK216 := n1_; have GE216 := n3_; clear n0_ n1_ n3_; clear hb hbox hg))
 go_loopg [5, 6, 7] k (fun kq v5 v6 v7 w' => ∃ (x5_1 : Int) (x6_1 : Int) (x7_1 : Int), v5 = .int .i64 x5_1 ∧ v6 = .int .i64 x6_1 ∧ v7 = .int .i64 x7_1 ∧ Aside0 (cleanseref04_Jaccard.l0 kq l0 l1 x5_1 x6_1 x7_1 = some (r1, r2)) ∧ Aside0 (kq ≤ k) ∧ Aside0 (w'.heap[gb216]? = some (.cells #[.int .i64 0, .int .i64 0] 32 (0, 0))) ∧ Aside0 (Below w.heap.size w w'))
 case atStart => exact ⟨(0), (0), (0), (by rfl), (by rfl), (by rfl), H', ⟨Nat.le_refl _⟩, ⟨by exact BK216.out⟩, ⟨by repeat ((with_reducible (exact HB.out)))⟩⟩
 clear H'
 obtain ⟨x5_1, x6_1, x7_1, rfl, rfl, rfl, HA, HK1, BK216, HB⟩ := hrel
 cases gk with
 | zero => exact absurd HA.out (by simp [cleanseref04_Jaccard.l0])
 | succ k1 =>
  have H := HA.out
  clear HA
  simp only [cleanseref04_Jaccard.l0] at H
  by_cases c4 : x7_1 < (l0.length : Int)
  ·rw [if_pos c4] at H
   have c4b0 : decide (x7_1 < (l0.length : Int)) = true := decide_eq_true c4
   clear c4
   by_cases c5 : 0 ≤ x7_1
   ·rw [if_pos c5] at H
    have c5b0 : decide (0 ≤ x7_1) = true := decide_eq_true c5
    clear c5
    replace H := Option.bind_eq_some_iff.mp H
    obtain ⟨t218, A60, H⟩ := H
    replace H : (if t218 = true then (cleanseref04_Jaccard.l0 k1 l0 l1 x5_1 x6_1 (wrap64 (x7_1 + 1))) else ((cleanseref04_in.f k1 l1 (l1.length : Int) (rdOf ByteArray.empty l0 x7_1)).bind fun t220 => (if t220 = true then (cleanseref04_Jaccard.l0 k1 l0 l1 (wrap64 (x5_1 + 1)) (wrap64 (x6_1 + 1)) (wrap64 (x7_1 + 1))) else (cleanseref04_Jaccard.l0 k1 l0 l1 x5_1 (wrap64 (x6_1 + 1)) (wrap64 (x7_1 + 1)))))) = some (r1, r2) := H
    have A6 := Aside0.mk A60
    clear A60
    by_cases c7 : t218 = true
    ·subst c7
     have H1 : (cleanseref04_Jaccard.l0 k1 l0 l1 x5_1 x6_1 (wrap64 (x7_1 + 1))) = some (r1, r2) := by rw [if_pos rfl] at H; exact H
     clear H
     have H := H1
     clear H1
     have H' := Aside0.mk H
     clear H
     have p217 : 0 ≤ (x7_1 : Int) := of_decide_eq_true (by (with_reducible assumption))
     have q217 : x7_1 < (l0.length : Int) := of_decide_eq_true (by (with_reducible assumption))
     obtain ⟨ad217, e217, hx217_0⟩ := Kd.at_string HR0.out x7_1 p217 q217
     cases e217
     replace hx217_0 := (HB.out.cell (World.block_lt_of_cell? w _ hx217_0)).trans hx217_0
     replace p217 := eq_true p217
     replace q217 := eq_true q217
     go_wp2_with (first | ((with_reducible refine gate_callee (f := 37) rfl ?_); refine goesL_ (some 21) rfl rfl Tryd.func37 (by kernel_rfl) rfl #[.slice (some ad217) l0.length c0, .int .i64 x7_1, .string (rdOf ByteArray.empty l0 x7_1)] rfl (by (try simp only [List.map_toArray, List.map_cons, List.map_nil]); rfl) ?_; (with_reducible refine (cleanseref04_in.calls k1 _ _ l0 x7_1 (rdOf ByteArray.empty l0 x7_1) true _ ?side1 ?side2 A6.out).mono ?_); (case side1 => repeat ((exact (Kd.C_below HR0.out HB.out)))); (case side2 => exact HC0.out); rintro e w' ⟨rfl, ⟨nd, rfl⟩⟩; refine ⟨_, rfl, ?_⟩))
     go_roundg k1
     case measure => have := HK1.out; omega
     case rel => exact ⟨(x5_1), (x6_1), (wrap64 (x7_1 + 1)), (by rfl), (by rfl), (by rfl), H', ⟨by have := HK1.out; omega⟩, ⟨by (with_reducible repeat ((refine blk_drewN ?_ _))); exact BK216.out⟩, ⟨by repeat ((with_reducible first | exact HB.out | apply pw_below_drewN))⟩⟩
    replace c7 := Bool.eq_false_iff.mpr c7
    subst c7
    have H1 : ((cleanseref04_in.f k1 l1 (l1.length : Int) (rdOf ByteArray.empty l0 x7_1)).bind fun t220 => (if t220 = true then (cleanseref04_Jaccard.l0 k1 l0 l1 (wrap64 (x5_1 + 1)) (wrap64 (x6_1 + 1)) (wrap64 (x7_1 + 1))) else (cleanseref04_Jaccard.l0 k1 l0 l1 x5_1 (wrap64 (x6_1 + 1)) (wrap64 (x7_1 + 1))))) = some (r1, r2) := by rw [if_neg (show ¬ (false = true) by decide)] at H; exact H
    clear H
    have H := H1
    clear H1
    replace H := Option.bind_eq_some_iff.mp H
    obtain ⟨t220, A80, H⟩ := H
    replace H : (if t220 = true then (cleanseref04_Jaccard.l0 k1 l0 l1 (wrap64 (x5_1 + 1)) (wrap64 (x6_1 + 1)) (wrap64 (x7_1 + 1))) else (cleanseref04_Jaccard.l0 k1 l0 l1 x5_1 (wrap64 (x6_1 + 1)) (wrap64 (x7_1 + 1)))) = some (r1, r2) := H
    have A8 := Aside0.mk A80
    clear A80
    by_cases c9 : t220 = true
    ·subst c9
     have H1 : (cleanseref04_Jaccard.l0 k1 l0 l1 (wrap64 (x5_1 + 1)) (wrap64 (x6_1 + 1)) (wrap64 (x7_1 + 1))) = some (r1, r2) := by rw [if_pos rfl] at H; exact H
     clear H
     have H := H1
     clear H1
     have H' := Aside0.mk H
     clear H
     have p217 : 0 ≤ (x7_1 : Int) := of_decide_eq_true (by (with_reducible assumption))
     have q217 : x7_1 < (l0.length : Int) := of_decide_eq_true (by (with_reducible assumption))
     obtain ⟨ad217, e217, hx217_0⟩ := Kd.at_string HR0.out x7_1 p217 q217
     cases e217
     replace hx217_0 := (HB.out.cell (World.block_lt_of_cell? w _ hx217_0)).trans hx217_0
     replace p217 := eq_true p217
     replace q217 := eq_true q217
     go_wp2_with (first | ((with_reducible refine gate_callee (f := 37) rfl ?_); refine goesL_ (some 21) rfl rfl Tryd.func37 (by kernel_rfl) rfl #[.slice (some ad217) l0.length c0, .int .i64 x7_1, .string (rdOf ByteArray.empty l0 x7_1)] rfl (by (try simp only [List.map_toArray, List.map_cons, List.map_nil]); rfl) ?_; (with_reducible refine (cleanseref04_in.calls k1 _ _ l0 x7_1 (rdOf ByteArray.empty l0 x7_1) false _ ?side1 ?side2 A6.out).mono ?_); (case side1 => repeat ((exact (Kd.C_below HR0.out HB.out)))); (case side2 => exact HC0.out); rintro e w' ⟨rfl, ⟨nd, rfl⟩⟩; refine ⟨_, rfl, ?_⟩; have p219 : 0 ≤ (x7_1 : Int) := of_decide_eq_true (by (with_reducible assumption)); have q219 : x7_1 < (l0.length : Int) := of_decide_eq_true (by (with_reducible assumption)); obtain ⟨ad219, e219, hx219_0⟩ := Kd.at_string HR0.out x7_1 p219 q219; obtain rfl : ad217 = ad219 := (by injection e219); replace hx219_0 := (HB.out.cell (World.block_lt_of_cell? w _ hx219_0)).trans hx219_0; replace p219 := eq_true p219; replace q219 := eq_true q219) | ((with_reducible refine gate_callee (f := 37) rfl ?_); refine goesL_ (some 31) rfl rfl Tryd.func37 (by kernel_rfl) rfl #[.slice A1 l1.length c1, .int .i64 (l1.length : Int), .string (rdOf ByteArray.empty l0 x7_1)] rfl (by (try simp only [List.map_toArray, List.map_cons, List.map_nil]); rfl) ?_; (with_reducible refine (cleanseref04_in.calls k1 _ _ l1 (l1.length : Int) (rdOf ByteArray.empty l0 x7_1) true _ ?side1 ?side2 A8.out).mono ?_); (case side1 => repeat ((exact (Kd.C_below HR1.out (by repeat ((with_reducible first | exact HB.out | apply pw_below_drewN))))))); (case side2 => exact HC1.out); rintro e w' ⟨rfl, ⟨nd, rfl⟩⟩; refine ⟨_, rfl, ?_⟩))
     go_roundg k1
     case measure => have := HK1.out; omega
     case rel => exact ⟨(wrap64 (x5_1 + 1)), (wrap64 (x6_1 + 1)), (wrap64 (x7_1 + 1)), (by rfl), (by rfl), (by rfl), H', ⟨by have := HK1.out; omega⟩, ⟨by (with_reducible repeat ((refine blk_drewN ?_ _))); exact BK216.out⟩, ⟨by repeat ((with_reducible first | exact HB.out | apply pw_below_drewN))⟩⟩
    replace c9 := Bool.eq_false_iff.mpr c9
    subst c9
    have H1 : (cleanseref04_Jaccard.l0 k1 l0 l1 x5_1 (wrap64 (x6_1 + 1)) (wrap64 (x7_1 + 1))) = some (r1, r2) := by rw [if_neg (show ¬ (false = true) by decide)] at H; exact H
    clear H
    have H := H1
    clear H1
    have H' := Aside0.mk H
    clear H
    have p217 : 0 ≤ (x7_1 : Int) := of_decide_eq_true (by (with_reducible assumption))
    have q217 : x7_1 < (l0.length : Int) := of_decide_eq_true (by (with_reducible assumption))
    obtain ⟨ad217, e217, hx217_0⟩ := Kd.at_string HR0.out x7_1 p217 q217
    cases e217
    replace hx217_0 := (HB.out.cell (World.block_lt_of_cell? w _ hx217_0)).trans hx217_0
    replace p217 := eq_true p217
    replace q217 := eq_true q217
    go_wp2_with (first | ((with_reducible refine gate_callee (f := 37) rfl ?_); refine goesL_ (some 21) rfl rfl Tryd.func37 (by kernel_rfl) rfl #[.slice (some ad217) l0.length c0, .int .i64 x7_1, .string (rdOf ByteArray.empty l0 x7_1)] rfl (by (try simp only [List.map_toArray, List.map_cons, List.map_nil]); rfl) ?_; (with_reducible refine (cleanseref04_in.calls k1 _ _ l0 x7_1 (rdOf ByteArray.empty l0 x7_1) false _ ?side1 ?side2 A6.out).mono ?_); (case side1 => repeat ((exact (Kd.C_below HR0.out HB.out)))); (case side2 => exact HC0.out); rintro e w' ⟨rfl, ⟨nd, rfl⟩⟩; refine ⟨_, rfl, ?_⟩; have p219 : 0 ≤ (x7_1 : Int) := of_decide_eq_true (by (with_reducible assumption)); have q219 : x7_1 < (l0.length : Int) := of_decide_eq_true (by (with_reducible assumption)); obtain ⟨ad219, e219, hx219_0⟩ := Kd.at_string HR0.out x7_1 p219 q219; obtain rfl : ad217 = ad219 := (by injection e219); replace hx219_0 := (HB.out.cell (World.block_lt_of_cell? w _ hx219_0)).trans hx219_0; replace p219 := eq_true p219; replace q219 := eq_true q219) | ((with_reducible refine gate_callee (f := 37) rfl ?_); refine goesL_ (some 31) rfl rfl Tryd.func37 (by kernel_rfl) rfl #[.slice A1 l1.length c1, .int .i64 (l1.length : Int), .string (rdOf ByteArray.empty l0 x7_1)] rfl (by (try simp only [List.map_toArray, List.map_cons, List.map_nil]); rfl) ?_; (with_reducible refine (cleanseref04_in.calls k1 _ _ l1 (l1.length : Int) (rdOf ByteArray.empty l0 x7_1) false _ ?side1 ?side2 A8.out).mono ?_); (case side1 => repeat ((exact (Kd.C_below HR1.out (by repeat ((with_reducible first | exact HB.out | apply pw_below_drewN))))))); (case side2 => exact HC1.out); rintro e w' ⟨rfl, ⟨nd, rfl⟩⟩; refine ⟨_, rfl, ?_⟩))
    go_roundg k1
    case measure => have := HK1.out; omega
    case rel => exact ⟨(x5_1), (wrap64 (x6_1 + 1)), (wrap64 (x7_1 + 1)), (by rfl), (by rfl), (by rfl), H', ⟨by have := HK1.out; omega⟩, ⟨by (with_reducible repeat ((refine blk_drewN ?_ _))); exact BK216.out⟩, ⟨by repeat ((with_reducible first | exact HB.out | apply pw_below_drewN))⟩⟩
   rw [if_neg c5] at H
   exact absurd H (by simp)
  rw [if_neg c4] at H
  have c4b0 : decide (x7_1 < (l0.length : Int)) = false := decide_eq_false c4
  clear c4
  have H' := Aside0.mk H
  clear H
  go_wp2
  go_loopg [6, 8] k1 (fun kq v6 v8 w' => ∃ (x6_2 : Int) (x8_2 : Int), v6 = .int .i64 x6_2 ∧ v8 = .int .i64 x8_2 ∧ Aside0 (cleanseref04_Jaccard.l1 kq l0 l1 x5_1 x6_2 x8_2 = some (r1, r2)) ∧ Aside0 (kq ≤ k1) ∧ Aside0 (w'.heap[gb216]? = some (.cells #[.int .i64 0, .int .i64 0] 32 (0, 0))) ∧ Aside0 (Below w.heap.size w w'))
  case atStart => exact ⟨(x6_1), (0), (by rfl), (by rfl), H', ⟨Nat.le_refl _⟩, ⟨by exact BK216.out⟩, ⟨by repeat ((with_reducible (exact HB.out)))⟩⟩
  clear H'
  clear c4b0
  obtain ⟨x6_2, x8_2, rfl, rfl, HA, HK2, BK216, HB⟩ := hrel
  cases gk with
  | zero => exact absurd HA.out (by simp [cleanseref04_Jaccard.l1])
  | succ k2 =>
   have H := HA.out
   clear HA
   simp only [cleanseref04_Jaccard.l1] at H
   by_cases c10 : x8_2 < (l1.length : Int)
   ·rw [if_pos c10] at H
    have c10b0 : decide (x8_2 < (l1.length : Int)) = true := decide_eq_true c10
    clear c10
    by_cases c11 : 0 ≤ x8_2
    ·rw [if_pos c11] at H
     have c11b0 : decide (0 ≤ x8_2) = true := decide_eq_true c11
     clear c11
     replace H := Option.bind_eq_some_iff.mp H
     obtain ⟨t224, A120, H⟩ := H
     replace H : (if t224 = true then (cleanseref04_Jaccard.l1 k2 l0 l1 x5_1 x6_2 (wrap64 (x8_2 + 1))) else ((cleanseref04_in.f k2 l0 (l0.length : Int) (rdOf ByteArray.empty l1 x8_2)).bind fun t226 => (if t226 = true then (cleanseref04_Jaccard.l1 k2 l0 l1 x5_1 x6_2 (wrap64 (x8_2 + 1))) else (cleanseref04_Jaccard.l1 k2 l0 l1 x5_1 (wrap64 (x6_2 + 1)) (wrap64 (x8_2 + 1)))))) = some (r1, r2) := H
     have A12 := Aside0.mk A120
     clear A120
     by_cases c13 : t224 = true
     ·subst c13
      have H1 : (cleanseref04_Jaccard.l1 k2 l0 l1 x5_1 x6_2 (wrap64 (x8_2 + 1))) = some (r1, r2) := by rw [if_pos rfl] at H; exact H
      clear H
      have H := H1
      clear H1
      have H' := Aside0.mk H
      clear H
      have p223 : 0 ≤ (x8_2 : Int) := of_decide_eq_true (by (with_reducible assumption))
      have q223 : x8_2 < (l1.length : Int) := of_decide_eq_true (by (with_reducible assumption))
      obtain ⟨ad223, e223, hx223_0⟩ := Kd.at_string HR1.out x8_2 p223 q223
      cases e223
      replace hx223_0 := (HB.out.cell (World.block_lt_of_cell? w _ hx223_0)).trans hx223_0
      replace p223 := eq_true p223
      replace q223 := eq_true q223
      go_wp2_with (first | ((with_reducible refine gate_callee (f := 37) rfl ?_); refine goesL_ (some 46) rfl rfl Tryd.func37 (by kernel_rfl) rfl #[.slice (some ad223) l1.length c1, .int .i64 x8_2, .string (rdOf ByteArray.empty l1 x8_2)] rfl (by (try simp only [List.map_toArray, List.map_cons, List.map_nil]); rfl) ?_; (with_reducible refine (cleanseref04_in.calls k2 _ _ l1 x8_2 (rdOf ByteArray.empty l1 x8_2) true _ ?side1 ?side2 A12.out).mono ?_); (case side1 => repeat ((exact (Kd.C_below HR1.out HB.out)))); (case side2 => exact HC1.out); rintro e w' ⟨rfl, ⟨nd, rfl⟩⟩; refine ⟨_, rfl, ?_⟩))
      go_roundg k2
      case measure => have := HK1.out; have := HK2.out; omega
      case rel => exact ⟨(x6_2), (wrap64 (x8_2 + 1)), (by rfl), (by rfl), H', ⟨by have := HK1.out; have := HK2.out; omega⟩, ⟨by (with_reducible repeat ((refine blk_drewN ?_ _))); exact BK216.out⟩, ⟨by repeat ((with_reducible first | exact HB.out | apply pw_below_drewN))⟩⟩
     replace c13 := Bool.eq_false_iff.mpr c13
     subst c13
     have H1 : ((cleanseref04_in.f k2 l0 (l0.length : Int) (rdOf ByteArray.empty l1 x8_2)).bind fun t226 => (if t226 = true then (cleanseref04_Jaccard.l1 k2 l0 l1 x5_1 x6_2 (wrap64 (x8_2 + 1))) else (cleanseref04_Jaccard.l1 k2 l0 l1 x5_1 (wrap64 (x6_2 + 1)) (wrap64 (x8_2 + 1))))) = some (r1, r2) := by rw [if_neg (show ¬ (false = true) by decide)] at H; exact H
     clear H
     have H := H1
     clear H1
     replace H := Option.bind_eq_some_iff.mp H
     obtain ⟨t226, A140, H⟩ := H
     replace H : (if t226 = true then (cleanseref04_Jaccard.l1 k2 l0 l1 x5_1 x6_2 (wrap64 (x8_2 + 1))) else (cleanseref04_Jaccard.l1 k2 l0 l1 x5_1 (wrap64 (x6_2 + 1)) (wrap64 (x8_2 + 1)))) = some (r1, r2) := H
     have A14 := Aside0.mk A140
     clear A140
     by_cases c15 : t226 = true
     ·subst c15
      have H1 : (cleanseref04_Jaccard.l1 k2 l0 l1 x5_1 x6_2 (wrap64 (x8_2 + 1))) = some (r1, r2) := by rw [if_pos rfl] at H; exact H
      clear H
      have H := H1
      clear H1
      have H' := Aside0.mk H
      clear H
      have p223 : 0 ≤ (x8_2 : Int) := of_decide_eq_true (by (with_reducible assumption))
      have q223 : x8_2 < (l1.length : Int) := of_decide_eq_true (by (with_reducible assumption))
      obtain ⟨ad223, e223, hx223_0⟩ := Kd.at_string HR1.out x8_2 p223 q223
      cases e223
      replace hx223_0 := (HB.out.cell (World.block_lt_of_cell? w _ hx223_0)).trans hx223_0
      replace p223 := eq_true p223
      replace q223 := eq_true q223
      go_wp2_with (first | ((with_reducible refine gate_callee (f := 37) rfl ?_); refine goesL_ (some 46) rfl rfl Tryd.func37 (by kernel_rfl) rfl #[.slice (some ad223) l1.length c1, .int .i64 x8_2, .string (rdOf ByteArray.empty l1 x8_2)] rfl (by (try simp only [List.map_toArray, List.map_cons, List.map_nil]); rfl) ?_; (with_reducible refine (cleanseref04_in.calls k2 _ _ l1 x8_2 (rdOf ByteArray.empty l1 x8_2) false _ ?side1 ?side2 A12.out).mono ?_); (case side1 => repeat ((exact (Kd.C_below HR1.out HB.out)))); (case side2 => exact HC1.out); rintro e w' ⟨rfl, ⟨nd, rfl⟩⟩; refine ⟨_, rfl, ?_⟩; have p225 : 0 ≤ (x8_2 : Int) := of_decide_eq_true (by (with_reducible assumption)); have q225 : x8_2 < (l1.length : Int) := of_decide_eq_true (by (with_reducible assumption)); obtain ⟨ad225, e225, hx225_0⟩ := Kd.at_string HR1.out x8_2 p225 q225; obtain rfl : ad223 = ad225 := (by injection e225); replace hx225_0 := (HB.out.cell (World.block_lt_of_cell? w _ hx225_0)).trans hx225_0; replace p225 := eq_true p225; replace q225 := eq_true q225) | (go_at_call 37; (with_reducible refine (cleanseref04_in.calls k2 _ _ l0 (l0.length : Int) (rdOf ByteArray.empty l1 x8_2) true _ ?side1 ?side2 A14.out).mono ?_); (case side1 => repeat ((exact (Kd.C_below HR0.out (by repeat ((with_reducible first | exact HB.out | apply pw_below_drewN))))))); (case side2 => exact HC0.out); rintro e w' ⟨rfl, ⟨nd, rfl⟩⟩))
      go_roundg k2
      case measure => have := HK1.out; have := HK2.out; omega
      case rel => exact ⟨(x6_2), (wrap64 (x8_2 + 1)), (by rfl), (by rfl), H', ⟨by have := HK1.out; have := HK2.out; omega⟩, ⟨by (with_reducible repeat ((refine blk_drewN ?_ _))); exact BK216.out⟩, ⟨by repeat ((with_reducible first | exact HB.out | apply pw_below_drewN))⟩⟩
     replace c15 := Bool.eq_false_iff.mpr c15
     subst c15
     have H1 : (cleanseref04_Jaccard.l1 k2 l0 l1 x5_1 (wrap64 (x6_2 + 1)) (wrap64 (x8_2 + 1))) = some (r1, r2) := by rw [if_neg (show ¬ (false = true) by decide)] at H; exact H
     clear H
     have H := H1
     clear H1
     have H' := Aside0.mk H
     clear H
     have p223 : 0 ≤ (x8_2 : Int) := of_decide_eq_true (by (with_reducible assumption))
     have q223 : x8_2 < (l1.length : Int) := of_decide_eq_true (by (with_reducible assumption))
     obtain ⟨ad223, e223, hx223_0⟩ := Kd.at_string HR1.out x8_2 p223 q223
     cases e223
     replace hx223_0 := (HB.out.cell (World.block_lt_of_cell? w _ hx223_0)).trans hx223_0
     replace p223 := eq_true p223
     replace q223 := eq_true q223
     go_wp2_with (first | ((with_reducible refine gate_callee (f := 37) rfl ?_); refine goesL_ (some 46) rfl rfl Tryd.func37 (by kernel_rfl) rfl #[.slice (some ad223) l1.length c1, .int .i64 x8_2, .string (rdOf ByteArray.empty l1 x8_2)] rfl (by (try simp only [List.map_toArray, List.map_cons, List.map_nil]); rfl) ?_; (with_reducible refine (cleanseref04_in.calls k2 _ _ l1 x8_2 (rdOf ByteArray.empty l1 x8_2) false _ ?side1 ?side2 A12.out).mono ?_); (case side1 => repeat ((exact (Kd.C_below HR1.out HB.out)))); (case side2 => exact HC1.out); rintro e w' ⟨rfl, ⟨nd, rfl⟩⟩; refine ⟨_, rfl, ?_⟩; have p225 : 0 ≤ (x8_2 : Int) := of_decide_eq_true (by (with_reducible assumption)); have q225 : x8_2 < (l1.length : Int) := of_decide_eq_true (by (with_reducible assumption)); obtain ⟨ad225, e225, hx225_0⟩ := Kd.at_string HR1.out x8_2 p225 q225; obtain rfl : ad223 = ad225 := (by injection e225); replace hx225_0 := (HB.out.cell (World.block_lt_of_cell? w _ hx225_0)).trans hx225_0; replace p225 := eq_true p225; replace q225 := eq_true q225) | (go_at_call 37; (with_reducible refine (cleanseref04_in.calls k2 _ _ l0 (l0.length : Int) (rdOf ByteArray.empty l1 x8_2) false _ ?side1 ?side2 A14.out).mono ?_); (case side1 => repeat ((exact (Kd.C_below HR0.out (by repeat ((with_reducible first | exact HB.out | apply pw_below_drewN))))))); (case side2 => exact HC0.out); rintro e w' ⟨rfl, ⟨nd, rfl⟩⟩))
     go_roundg k2
     case measure => have := HK1.out; have := HK2.out; omega
     case rel => exact ⟨(wrap64 (x6_2 + 1)), (wrap64 (x8_2 + 1)), (by rfl), (by rfl), H', ⟨by have := HK1.out; have := HK2.out; omega⟩, ⟨by (with_reducible repeat ((refine blk_drewN ?_ _))); exact BK216.out⟩, ⟨by repeat ((with_reducible first | exact HB.out | apply pw_below_drewN))⟩⟩
    rw [if_neg c11] at H
    exact absurd H (by simp)
   rw [if_neg c10] at H
   have c10b0 : decide (x8_2 < (l1.length : Int)) = false := decide_eq_false c10
   clear c10
   by_cases c16 : x6_2 = 0
   ·rw [if_pos c16] at H
    have c16b0 : (x6_2 == 0) = true := beq_iff_eq.mpr c16
    have c16b1 : (x6_2 != 0) = false := bne_eq_false_iff_eq.mpr c16
    clear c16
    simp only [Option.some.injEq, Prod.mk.injEq] at H
    obtain ⟨rfl, rfl⟩ := H
    have hcz17_0 := cel_ BK216.out 0 rfl
    have hcz17_1 := cel_ BK216.out 1 rfl
    have hfz17_0 := blk_frozen BK216.out 0
    have hfz17_1 := blk_frozen BK216.out 1
    go_wp2
    refine bodyPost_ret (results_cell_row rfl _ _ gb216 32 #[.int .i64 1, .int .i64 1] (0, 0) _ rfl (by refine blk_put (cs := #[.int .i64 1, .int .i64 0]) ?_ 1 _ rfl; refine blk_put (cs := #[.int .i64 0, .int .i64 0]) ?_ 0 _ rfl; exact BK216.out) Tryd.underlying32 rfl (by kernel_rfl)) rfl ?_
    exact ⟨by rfl, by repeat ((with_reducible first | exact HB.out | refine below_set ?_ GE216.out))⟩
   rw [if_neg c16] at H
   have c16b0 : (x6_2 == 0) = false := beq_eq_false_iff_ne.mpr c16
   have c16b1 : (x6_2 != 0) = true := bne_iff_ne.mpr c16
   replace H := Option.bind_eq_some_iff.mp H
   obtain ⟨⟨t221, t222⟩, A180, H⟩ := H
   replace H : (some (t221, t222)) = some (r1, r2) := H
   have A18 := Aside0.mk A180
   clear A180
   simp only [Option.some.injEq, Prod.mk.injEq] at H
   obtain ⟨rfl, rfl⟩ := H
   go_wp2_with (first | ((with_reducible refine gate_callee (f := 36) rfl ?_); refine goesL_ (some 66) rfl rfl Tryd.func36 (by kernel_rfl) rfl #[.int .i64 x5_1, .int .i64 x6_2] rfl (by (try simp only [List.map_toArray, List.map_cons, List.map_nil]); rfl) ?_; (with_reducible refine (cleanseref04_share.calls k2 x5_1 x6_2 t221 t222 _ A18.out).mono ?_); rintro e w19 ⟨rfl, hb⟩; refine ⟨_, rfl, ?_⟩; have n0_ := Aside0.mk (blk_below (g := gb216) (o := .cells #[.int .i64 0, .int .i64 0] 32 (0, 0)) (by exact BK216.out) hb); have n1_ := Aside0.mk (below_step HB.out hb); clear BK216; clear HB; have BK216 := n0_; have HB := n1_; clear n0_ n1_; (try clear hb); have hcz20_0 := cel_ BK216.out 0 rfl; have hcz20_1 := cel_ BK216.out 1 rfl; have hfz20_0 := blk_frozen BK216.out 0; have hfz20_1 := blk_frozen BK216.out 1))
   refine bodyPost_ret (results_cell_row rfl _ _ gb216 32 #[.int .i64 t221, .int .i64 t222] (0, 0) _ rfl (by refine blk_put (cs := #[.int .i64 t221, .int .i64 0]) ?_ 1 _ rfl; refine blk_put (cs := #[.int .i64 0, .int .i64 0]) ?_ 0 _ rfl; exact BK216.out) Tryd.underlying32 rfl (by kernel_rfl)) rfl ?_
   exact ⟨by rfl, by repeat ((with_reducible first | exact HB.out | refine below_set ?_ GE216.out))⟩

end Go.Proofs.YtgomlpndoolllaaDoor.Q
end

section
namespace Go.Proofs.YtgomlpndoolllaaDoor.Q
open Go.RowKit Go.Proofs.YtgomlpndoolllaaDoorW.PrintWords Go.Proofs.YtgomlpndoolllaaDoorW.PrintLast Go.Proofs.YtgomlpndoolllaaDoorW.PrintMore
attribute [local go_sem] max2_int min2_int max_two min_two max_three min_three max_four min_four   -- for this text's walks alone
set_option linter.unusedVariables false
set_option linter.unusedSimpArgs false

/-! ### cleanseref04_Jaro: function 23 -/
mutual
def cleanseref04_Jaro.j0 : Nat → ByteArray → ByteArray → Bool → Option (Int × Int)
 | 0, _, _, _ => none
 | k + 1, x0, x1, x22 => if x22 = true then (some (0, 1)) else (if (x0.size : Int) = 0 then (cleanseref04_Jaro.j1 k x0 x1 ((x1.size : Int) == 0)) else (cleanseref04_Jaro.j1 k x0 x1 false))
def cleanseref04_Jaro.j1 : Nat → ByteArray → ByteArray → Bool → Option (Int × Int)
 | 0, _, _, _ => none
 | k + 1, x0, x1, x31 => if x31 = true then (some (1, 1)) else (if 0 ≤ (x1.size : Int) then (if ((x1.size : Int) : Int).toNat ≤ 281474976710656 then (cleanseref04_Jaro.l0 k x0 x1 (mx (wrap64 ((wrap64 ((mx (x0.size : Int) (x1.size : Int)) / 2)) - 1)) 0) (List.replicate ((x1.size : Int) : Int).toNat false) ([] : List Int) 0) else (none)) else (none))
def cleanseref04_Jaro.l0 : Nat → ByteArray → ByteArray → Int → List Bool → List Int → Int → Option (Int × Int)
 | 0, _, _, _, _, _, _ => none
 | k + 1, x0, x1, x5, x6, x7, x8 => if x8 < (x0.size : Int) then (cleanseref04_Jaro.l1 k x0 x1 x5 x6 x7 x8 (mx 0 (wrap64 (x8 - x5)))) else (if (x7.length : Int) = 0 then (some (0, 1)) else (cleanseref04_Jaro.l2 k x0 x1 x6 x7 (x7.length : Int) 0 0 0))
def cleanseref04_Jaro.l1 : Nat → ByteArray → ByteArray → Int → List Bool → List Int → Int → Int → Option (Int × Int)
 | 0, _, _, _, _, _, _, _ => none
 | k + 1, x0, x1, x5, x6, x7, x8, x9 => if x9 < (x1.size : Int) then (cleanseref04_Jaro.j4 k x0 x1 x5 x6 x7 x8 x9 (decide (x9 ≤ (wrap64 (x8 + x5))))) else (cleanseref04_Jaro.j4 k x0 x1 x5 x6 x7 x8 x9 false)
def cleanseref04_Jaro.j4 : Nat → ByteArray → ByteArray → Int → List Bool → List Int → Int → Int → Bool → Option (Int × Int)
 | 0, _, _, _, _, _, _, _, _ => none
 | k + 1, x0, x1, x5, x6, x7, x8, x9, x64 => if x64 = true then (if 0 ≤ x9 then (if x9 < (x6.length : Int) then (if rdOf false x6 x9 = true then (cleanseref04_Jaro.l1 k x0 x1 x5 x6 x7 x8 (wrap64 (x9 + 1))) else (if 0 ≤ x8 then (if x8 < (x0.size : Int) then (if x9 < (x1.size : Int) then (if (bt x0 x8) = (bt x1 x9) then (if x7.length < 140737488355328 then (cleanseref04_Jaro.l0 k x0 x1 x5 (x6.set (x9 : Int).toNat true) (x7 ++ [bt x0 x8]) (wrap64 (x8 + 1))) else (none)) else (cleanseref04_Jaro.l1 k x0 x1 x5 x6 x7 x8 (wrap64 (x9 + 1)))) else (none)) else (none)) else (none))) else (none)) else (none)) else (cleanseref04_Jaro.l0 k x0 x1 x5 x6 x7 (wrap64 (x8 + 1)))
def cleanseref04_Jaro.l2 : Nat → ByteArray → ByteArray → List Bool → List Int → Int → Int → Int → Int → Option (Int × Int)
 | 0, _, _, _, _, _, _, _, _ => none
 | k + 1, x0, x1, x6, x7, x10, x11, x12, x13 => if x13 < (x1.size : Int) then (if 0 ≤ x13 then (if x13 < (x6.length : Int) then (if rdOf false x6 x13 = true then (if 0 ≤ x12 then (if x12 < (x7.length : Int) then (if (bt x1 x13) = (rd x7 x12) then (cleanseref04_Jaro.l2 k x0 x1 x6 x7 x10 x11 (wrap64 (x12 + 1)) (wrap64 (x13 + 1))) else (cleanseref04_Jaro.l2 k x0 x1 x6 x7 x10 (wrap64 (x11 + 1)) (wrap64 (x12 + 1)) (wrap64 (x13 + 1)))) else (none)) else (none)) else (cleanseref04_Jaro.l2 k x0 x1 x6 x7 x10 x11 x12 (wrap64 (x13 + 1)))) else (none)) else (none)) else ((cleanseref04_share.f k (wrap64 ((wrap64 ((wrap64 ((wrap64 (2 * x10)) * x10)) * (wrap64 ((x0.size : Int) + (x1.size : Int))))) + (wrap64 ((wrap64 ((wrap64 (2 * x10)) - x11)) * (wrap64 ((x0.size : Int) * (x1.size : Int))))))) (wrap64 ((wrap64 (6 * x10)) * (wrap64 ((x0.size : Int) * (x1.size : Int)))))).bind fun bt236 => (some (bt236.1, bt236.2)))
end
def cleanseref04_Jaro.f (k : Nat) (a0 : ByteArray) (a1 : ByteArray) : Option (Int × Int) := if (a0.size : Int) > 200 then (cleanseref04_Jaro.j0 k a0 a1 true) else (cleanseref04_Jaro.j0 k a0 a1 (decide ((a1.size : Int) > 200)))
set_option maxHeartbeats 8000000 in
set_option maxRecDepth 100000 in
theorem cleanseref04_Jaro.calls (k : Nat) (a0 : ByteArray) (a1 : ByteArray) (r1 : Int) (r2 : Int) (w : World) (h : cleanseref04_Jaro.f k a0 a1 = some (r1, r2)) :
  Calls Tryd.prog 23 #[.string a0, .string a1] w fun e w' => e = .returned (.agg #[.int .i64 r1, .int .i64 r2]) ∧ Below w.heap.size w w' := by
 have hu32 := Tryd.underlying32
 have HB := Aside0.mk (Below.refl w.heap.size w)
 have H : (if (a0.size : Int) > 200 then (cleanseref04_Jaro.j0 k a0 a1 true) else (cleanseref04_Jaro.j0 k a0 a1 (decide ((a1.size : Int) > 200)))) = some (r1, r2) := h
 clear h
 have HC3 := Aside0.mk H
 clear H
 go_enter Tryd.func23, Tryd.ntmps23
 go_upto_region 1 with (first | ((with_reducible refine gate_dst (N := 4) rfl ?_); (try (refine gate_guard (by rfl) ?_; dsimp only)); refine box_event ?hg (N := 4) ?hd (cs := #[.int .i64 0, .int .i64 0]) (t := 32) ?hr ?_; (case hd => rfl); (case hg => rfl); (case hr => (go_simp; done)); intro gb227 hg w4 hbox hb; have n0_ := Aside0.mk (below_step HB.out hb); have n1_ := Aside0.mk (hbox); have n3_ := Aside0.mk ((by rw [hg]; exact (below_size HB.out) : w.heap.size ≤ gb227)); clear HB; have HB := n0_; have BK227 := n1_; have GE227 := n3_; clear n0_ n1_ n3_; clear hb hbox hg))
 (try simp only [Act.put, pS_, pZ_, pC_])
 go_cut [22] (fun v22 wc => ∃ (kq : Nat) (x22_2 : Bool), v22 = .bool x22_2 ∧ Aside0 (cleanseref04_Jaro.j0 kq a0 a1 x22_2 = some (r1, r2)) ∧ Aside0 (kq ≤ k) ∧ Aside0 (wc.heap[gb227]? = some (.cells #[.int .i64 0, .int .i64 0] 32 (0, 0))) ∧ Aside0 (Below w.heap.size w wc))
 case first =>
  have H := HC3.out
  clear HC3
  by_cases c5 : (a0.size : Int) > 200
  ·rw [if_pos c5] at H
   have c5b0 : decide (200 < (a0.size : Int)) = true := decide_eq_true c5
   have c5b1 : decide (200 < a0.size) = true := decide_eq_true (by omega)
   clear c5
   have H' := Aside0.mk H
   clear H
   go_wp2
   go_meet
   case rel => exact ⟨_, (true), (by rfl), H', ⟨by omega⟩, ⟨by exact BK227.out⟩, ⟨by repeat ((with_reducible (exact HB.out)))⟩⟩
  rw [if_neg c5] at H
  have c5b0 : decide (200 < (a0.size : Int)) = false := decide_eq_false c5
  have c5b1 : decide (200 < a0.size) = false := decide_eq_false (by omega)
  clear c5
  have H' := Aside0.mk H
  clear H
  go_wp2
  go_meet
  case rel => exact ⟨_, (decide ((a1.size : Int) > 200)), (by rfl), H', ⟨by omega⟩, ⟨by exact BK227.out⟩, ⟨by repeat ((with_reducible (exact HB.out)))⟩⟩
 clear HC3
 obtain ⟨kq, x22_2, rfl, HA, HJ2, BK227, HB⟩ := hcut
 cases kq with
 | zero => exact absurd HA.out (by simp [cleanseref04_Jaro.j0])
 | succ kj2 =>
  have H := HA.out
  clear HA
  simp only [cleanseref04_Jaro.j0] at H
  by_cases c6 : x22_2 = true
  ·subst c6
   have H1 : (some (0, 1)) = some (r1, r2) := by rw [if_pos rfl] at H; exact H
   clear H
   have H := H1
   clear H1
   simp only [Option.some.injEq, Prod.mk.injEq] at H
   obtain ⟨rfl, rfl⟩ := H
   have hcz7_0 := cel_ BK227.out 0 rfl
   have hcz7_1 := cel_ BK227.out 1 rfl
   have hfz7_0 := blk_frozen BK227.out 0
   have hfz7_1 := blk_frozen BK227.out 1
   go_wp2
   refine bodyPost_ret (results_cell_row rfl _ _ gb227 32 #[.int .i64 0, .int .i64 1] (0, 0) _ rfl (by refine blk_put (cs := #[.int .i64 0, .int .i64 0]) ?_ 1 _ rfl; refine blk_put (cs := #[.int .i64 0, .int .i64 0]) ?_ 0 _ rfl; exact BK227.out) Tryd.underlying32 rfl (by kernel_rfl)) rfl ?_
   exact ⟨by rfl, by repeat ((with_reducible first | exact HB.out | refine below_set ?_ GE227.out))⟩
  replace c6 := Bool.eq_false_iff.mpr c6
  subst c6
  have H1 : (if (a0.size : Int) = 0 then (cleanseref04_Jaro.j1 kj2 a0 a1 ((a1.size : Int) == 0)) else (cleanseref04_Jaro.j1 kj2 a0 a1 false)) = some (r1, r2) := by rw [if_neg (show ¬ (false = true) by decide)] at H; exact H
  clear H
  have H := H1
  clear H1
  have HC8 := Aside0.mk H
  clear H
  go_upto_region 3 with (fail)
  go_cut [31] (fun v31 wc => ∃ (kq : Nat) (x31_7 : Bool), v31 = .bool x31_7 ∧ Aside0 (cleanseref04_Jaro.j1 kq a0 a1 x31_7 = some (r1, r2)) ∧ Aside0 (kq ≤ kj2) ∧ Aside0 (wc.heap[gb227]? = some (.cells #[.int .i64 0, .int .i64 0] 32 (0, 0))) ∧ Aside0 (Below w.heap.size w wc))
  case first =>
   have H := HC8.out
   clear HC8
   by_cases c9 : (a0.size : Int) = 0
   ·rw [if_pos c9] at H
    have c9b0 : ((a0.size : Int) == 0) = true := beq_iff_eq.mpr c9
    have c9b1 : ((a0.size : Int) != 0) = false := bne_eq_false_iff_eq.mpr c9
    clear c9
    have H' := Aside0.mk H
    clear H
    go_wp2
    go_meet
    case rel => exact ⟨_, (((a1.size : Int) == 0)), (by rfl), H', ⟨by have := HJ2.out; omega⟩, ⟨by exact BK227.out⟩, ⟨by repeat ((with_reducible (exact HB.out)))⟩⟩
   rw [if_neg c9] at H
   have c9b0 : ((a0.size : Int) == 0) = false := beq_eq_false_iff_ne.mpr c9
   have c9b1 : ((a0.size : Int) != 0) = true := bne_iff_ne.mpr c9
   have H' := Aside0.mk H
   clear H
   go_wp2
   go_meet
   case rel => exact ⟨_, (false), (by rfl), H', ⟨by have := HJ2.out; omega⟩, ⟨by exact BK227.out⟩, ⟨by repeat ((with_reducible (exact HB.out)))⟩⟩
  clear HC8
  obtain ⟨kq, x31_7, rfl, HA, HJ7, BK227, HB⟩ := hcut
  cases kq with
  | zero => exact absurd HA.out (by simp [cleanseref04_Jaro.j1])
  | succ kj7 =>
   have H := HA.out
   clear HA
   simp only [cleanseref04_Jaro.j1] at H
   by_cases c10 : x31_7 = true
   ·subst c10
    have H1 : (some (1, 1)) = some (r1, r2) := by rw [if_pos rfl] at H; exact H
    clear H
    have H := H1
    clear H1
    simp only [Option.some.injEq, Prod.mk.injEq] at H
    obtain ⟨rfl, rfl⟩ := H
    have hcz11_0 := cel_ BK227.out 0 rfl
    have hcz11_1 := cel_ BK227.out 1 rfl
    have hfz11_0 := blk_frozen BK227.out 0
    have hfz11_1 := blk_frozen BK227.out 1
    go_wp2
    refine bodyPost_ret (results_cell_row rfl _ _ gb227 32 #[.int .i64 1, .int .i64 1] (0, 0) _ rfl (by refine blk_put (cs := #[.int .i64 1, .int .i64 0]) ?_ 1 _ rfl; refine blk_put (cs := #[.int .i64 0, .int .i64 0]) ?_ 0 _ rfl; exact BK227.out) Tryd.underlying32 rfl (by kernel_rfl)) rfl ?_
    exact ⟨by rfl, by repeat ((with_reducible first | exact HB.out | refine below_set ?_ GE227.out))⟩
   replace c10 := Bool.eq_false_iff.mpr c10
   subst c10
   have H1 : (if 0 ≤ (a1.size : Int) then (if ((a1.size : Int) : Int).toNat ≤ 281474976710656 then (cleanseref04_Jaro.l0 kj7 a0 a1 (mx (wrap64 ((wrap64 ((mx (a0.size : Int) (a1.size : Int)) / 2)) - 1)) 0) (List.replicate ((a1.size : Int) : Int).toNat false) ([] : List Int) 0) else (none)) else (none)) = some (r1, r2) := by rw [if_neg (show ¬ (false = true) by decide)] at H; exact H
   clear H
   have H := H1
   clear H1
   obtain ⟨ji12, hji12⟩ : ∃ j_ : Int, (mx (a0.size : Int) (a1.size : Int)) = j_ := ⟨_, rfl⟩
   replace H : (if 0 ≤ (a1.size : Int) then (if ((a1.size : Int) : Int).toNat ≤ 281474976710656 then (cleanseref04_Jaro.l0 kj7 a0 a1 (mx (wrap64 ((wrap64 ((ji12) / 2)) - 1)) 0) (List.replicate ((a1.size : Int) : Int).toNat false) ([] : List Int) 0) else (none)) else (none)) = some (r1, r2) := by (rw [hji12] at H; exact H)
   (try (have hji12l : 0 ≤ ji12 := by (rw [← hji12]; unfold mx; (repeat' split) <;> omega)))
   (try (have hji12m : 0 ≤ ji12 := by omega))
   have hji12_ : (if (a0.size : Int) < (a1.size : Int) then (a1.size : Int) else (a0.size : Int)) = ji12 := hji12
   (try (have hji12n_ := hji12_; simp only [Int.ofNat_lt] at hji12n_))
   obtain ⟨ji13, hji13⟩ : ∃ j_ : Int, (mx (wrap64 ((wrap64 ((ji12) / 2)) - 1)) 0) = j_ := ⟨_, rfl⟩
   replace H : (if 0 ≤ (a1.size : Int) then (if ((a1.size : Int) : Int).toNat ≤ 281474976710656 then (cleanseref04_Jaro.l0 kj7 a0 a1 ji13 (List.replicate ((a1.size : Int) : Int).toNat false) ([] : List Int) 0) else (none)) else (none)) = some (r1, r2) := by (rw [hji13] at H; exact H)
   have hji13_ : (if (wrap64 ((wrap64 ((ji12) / 2)) - 1)) < 0 then 0 else (wrap64 ((wrap64 ((ji12) / 2)) - 1))) = ji13 := hji13
   (try (have hji13_t := hji13_; rw [show ji12 / 2 = ji12.tdiv 2 from (Int.tdiv_eq_ediv_of_nonneg (by omega)).symm] at hji13_t))
   by_cases c14 : 0 ≤ (a1.size : Int)
   ·rw [if_pos c14] at H
    have c14b0 := eq_true c14
    have c14b1 : decide (0 ≤ (a1.size : Int)) = true := decide_eq_true c14
    clear c14
    by_cases c15 : ((a1.size : Int) : Int).toNat ≤ 281474976710656
    ·rw [if_pos c15] at H
     have c15b0 := eq_true c15
     have c15b1 : decide (((a1.size : Int) : Int).toNat ≤ 281474976710656) = true := decide_eq_true c15
     clear c15
     obtain ⟨y228, hy228⟩ : ∃ y_ : List Bool, y_ = (List.replicate ((a1.size : Int) : Int).toNat false) := ⟨_, rfl⟩
     replace H : (cleanseref04_Jaro.l0 kj7 a0 a1 ji13 y228 ([] : List Int) 0) = some (r1, r2) := by (rw [hy228]; with_reducible exact H)
     have Ny228 := Aside0.mk hy228
     clear hy228
     have H' := Aside0.mk H
     clear H
     go_wp2_with (first | ((with_reducible refine gate_dst (N := 43) rfl ?_); (try (refine gate_guard (by rfl) ?_; dsimp only)); refine Kd.R_make Kd.bool _ 4 rfl (N := 43) rfl 64 _ _ rfl (a1.size : Int) rfl rfl Tryd.underlying64 (.bool false) 1 info4 rfl (by decide) (by omega) false (ok := fun _ => True) (okp := fun _ => True) rfl (fun _ hk => hk) trivial (of_decide_eq_true (by (with_reducible assumption))) (Nat.le_trans (Nat.mul_le_mul_right _ (of_decide_eq_true (by (with_reducible assumption)) : (a1.size : Int).toNat ≤ 281474976710656)) (by omega)) (Below.refl _ _) (Nat.le_refl _) ?_; intro v229 w16 ho17 hb hg_ hnew_; clear hg_ hnew_; ((rw [← Ny228.out] at ho17)); have n0_ := Aside0.mk (Kd.R_lower ho17 (below_size HB.out)); have n1_ := Aside0.mk (blk_below (g := gb227) (o := .cells #[.int .i64 0, .int .i64 0] 32 (0, 0)) (by exact BK227.out) hb); have n2_ := Aside0.mk (below_step HB.out hb); clear BK227; clear HB; have HO230 := n0_; have BK227 := n1_; have HB := n2_; clear n0_ n1_ n2_; clear hb ho17))
     go_loopg [7, 8] kj7 (fun kq v7 v8 w' => ∃ (x6_3 : List Bool) (x7_3 : List Int) (x8_3 : Int), v8 = .int .i64 x8_3 ∧ Aside0 (cleanseref04_Jaro.l0 kq a0 a1 ji13 x6_3 x7_3 x8_3 = some (r1, r2)) ∧ Aside0 (kq ≤ kj7) ∧ Aside0 (Kd.R Kd.bool 4 w' w.heap.size (fun _ => True) v229 x6_3) ∧ Aside0 (Kd.R (Kd.int .u8) 5 w' w.heap.size (fun _ => True) v7 x7_3) ∧ Aside0 (w'.heap[gb227]? = some (.cells #[.int .i64 0, .int .i64 0] 32 (0, 0))) ∧ Aside0 (Below w.heap.size w w'))
     case atStart => exact ⟨(y228), (([] : List Int)), (0), (by rfl), H', ⟨Nat.le_refl _⟩, ⟨by exact HO230.out⟩, ⟨by (exact Kd.R_nil _ _ _ _ _)⟩, ⟨by exact BK227.out⟩, ⟨by repeat ((with_reducible (exact HB.out)))⟩⟩
     clear H'
     clear c14b0 c14b1
     clear c15b0 c15b1
     obtain ⟨x6_3, x7_3, x8_3, rfl, HA, HK3, HO_6, HO_7, BK227, HB⟩ := hrel
     cases gk with
     | zero => exact absurd HA.out (by simp [cleanseref04_Jaro.l0])
     | succ k3 =>
      have H := HA.out
      clear HA
      simp only [cleanseref04_Jaro.l0] at H
      by_cases c18 : x8_3 < (a0.size : Int)
      ·rw [if_pos c18] at H
       have c18b0 : decide (x8_3 < (a0.size : Int)) = true := decide_eq_true c18
       clear c18
       obtain ⟨ji19, hji19⟩ : ∃ j_ : Int, (mx 0 (wrap64 (x8_3 - ji13))) = j_ := ⟨_, rfl⟩
       replace H : (cleanseref04_Jaro.l1 k3 a0 a1 ji13 x6_3 x7_3 x8_3 ji19) = some (r1, r2) := by (rw [hji19] at H; exact H)
       have hji19_ : (if 0 < (wrap64 (x8_3 - ji13)) then (wrap64 (x8_3 - ji13)) else 0) = ji19 := hji19
       have H' := Aside0.mk H
       clear H
       go_wp2
       go_loopg [7, 9] k3 (fun kq v7 v9 w' => ∃ (x6_4 : List Bool) (x7_4 : List Int) (x9_4 : Int), v9 = .int .i64 x9_4 ∧ Aside0 (cleanseref04_Jaro.l1 kq a0 a1 ji13 x6_4 x7_4 x8_3 x9_4 = some (r1, r2)) ∧ Aside0 (kq ≤ k3) ∧ Aside0 (Kd.R Kd.bool 4 w' w.heap.size (fun _ => True) v229 x6_4) ∧ Aside0 (Kd.R (Kd.int .u8) 5 w' w.heap.size (fun _ => True) v7 x7_4) ∧ Aside0 (w'.heap[gb227]? = some (.cells #[.int .i64 0, .int .i64 0] 32 (0, 0))) ∧ Aside0 (Below w.heap.size w w'))
       case atStart => exact ⟨(x6_3), (x7_3), (ji19), (by rfl), H', ⟨Nat.le_refl _⟩, ⟨by exact HO_6.out⟩, ⟨by exact HO_7.out⟩, ⟨by exact BK227.out⟩, ⟨by repeat ((with_reducible (exact HB.out)))⟩⟩
       clear H'
       clear c18b0
       obtain ⟨x6_4, x7_4, x9_4, rfl, HA, HK4, HO_6, HO_7, BK227, HB⟩ := hrel
       cases gk with
       | zero => exact absurd HA.out (by simp [cleanseref04_Jaro.l1])
       | succ k4 =>
        have H := HA.out
        clear HA
        simp only [cleanseref04_Jaro.l1] at H
        have HC20 := Aside0.mk H
        clear H
        go_upto_region 12 with (fail)
        go_cut [64] (fun v64 wc => ∃ (kq : Nat) (x64_19 : Bool), v64 = .bool x64_19 ∧ Aside0 (cleanseref04_Jaro.j4 kq a0 a1 ji13 x6_4 x7_4 x8_3 x9_4 x64_19 = some (r1, r2)) ∧ Aside0 (kq ≤ k4) ∧ Aside0 (Kd.R Kd.bool 4 wc w.heap.size (fun _ => True) v229 x6_4) ∧ Aside0 (Kd.R (Kd.int .u8) 5 wc w.heap.size (fun _ => True) u7 x7_4) ∧ Aside0 (wc.heap[gb227]? = some (.cells #[.int .i64 0, .int .i64 0] 32 (0, 0))) ∧ Aside0 (Below w.heap.size w wc))
        case first =>
         have H := HC20.out
         clear HC20
         by_cases c21 : x9_4 < (a1.size : Int)
         ·rw [if_pos c21] at H
          have c21b0 : decide (x9_4 < (a1.size : Int)) = true := decide_eq_true c21
          clear c21
          have H' := Aside0.mk H
          clear H
          go_wp2
          go_meet
          case rel => exact ⟨_, (decide (x9_4 ≤ (wrap64 (x8_3 + ji13)))), (by rfl), H', ⟨by have := HJ2.out; have := HJ7.out; have := HK3.out; have := HK4.out; omega⟩, ⟨by exact HO_6.out⟩, ⟨by exact HO_7.out⟩, ⟨by exact BK227.out⟩, ⟨by repeat ((with_reducible (exact HB.out)))⟩⟩
         rw [if_neg c21] at H
         have c21b0 : decide (x9_4 < (a1.size : Int)) = false := decide_eq_false c21
         clear c21
         have H' := Aside0.mk H
         clear H
         go_wp2
         go_meet
         case rel => exact ⟨_, (false), (by rfl), H', ⟨by have := HJ2.out; have := HJ7.out; have := HK3.out; have := HK4.out; omega⟩, ⟨by exact HO_6.out⟩, ⟨by exact HO_7.out⟩, ⟨by exact BK227.out⟩, ⟨by repeat ((with_reducible (exact HB.out)))⟩⟩
        clear HC20
        obtain ⟨kq, x64_19, rfl, HA, HJ19, HO_6, HO_7, BK227, HB⟩ := hcut
        cases kq with
        | zero => exact absurd HA.out (by simp [cleanseref04_Jaro.j4])
        | succ kj19 =>
         have H := HA.out
         clear HA
         simp only [cleanseref04_Jaro.j4] at H
         by_cases c22 : x64_19 = true
         ·subst c22
          have H1 : (if 0 ≤ x9_4 then (if x9_4 < (x6_4.length : Int) then (if rdOf false x6_4 x9_4 = true then (cleanseref04_Jaro.l1 kj19 a0 a1 ji13 x6_4 x7_4 x8_3 (wrap64 (x9_4 + 1))) else (if 0 ≤ x8_3 then (if x8_3 < (a0.size : Int) then (if x9_4 < (a1.size : Int) then (if (bt a0 x8_3) = (bt a1 x9_4) then (if x7_4.length < 140737488355328 then (cleanseref04_Jaro.l0 kj19 a0 a1 ji13 (x6_4.set (x9_4 : Int).toNat true) (x7_4 ++ [bt a0 x8_3]) (wrap64 (x8_3 + 1))) else (none)) else (cleanseref04_Jaro.l1 kj19 a0 a1 ji13 x6_4 x7_4 x8_3 (wrap64 (x9_4 + 1)))) else (none)) else (none)) else (none))) else (none)) else (none)) = some (r1, r2) := by rw [if_pos rfl] at H; exact H
          clear H
          have H := H1
          clear H1
          by_cases c23 : 0 ≤ x9_4
          ·rw [if_pos c23] at H
           have c23b0 : decide (0 ≤ x9_4) = true := decide_eq_true c23
           clear c23
           by_cases c24 : x9_4 < (x6_4.length : Int)
           ·rw [if_pos c24] at H
            have c24b0 : decide (x9_4 < (x6_4.length : Int)) = true := decide_eq_true c24
            clear c24
            obtain ⟨bq25, hbq25⟩ : ∃ b_ : Bool, b_ = (rdOf false x6_4 x9_4) := ⟨_, rfl⟩
            replace H : (if bq25 = true then (cleanseref04_Jaro.l1 kj19 a0 a1 ji13 x6_4 x7_4 x8_3 (wrap64 (x9_4 + 1))) else (if 0 ≤ x8_3 then (if x8_3 < (a0.size : Int) then (if x9_4 < (a1.size : Int) then (if (bt a0 x8_3) = (bt a1 x9_4) then (if x7_4.length < 140737488355328 then (cleanseref04_Jaro.l0 kj19 a0 a1 ji13 (x6_4.set (x9_4 : Int).toNat true) (x7_4 ++ [bt a0 x8_3]) (wrap64 (x8_3 + 1))) else (none)) else (cleanseref04_Jaro.l1 kj19 a0 a1 ji13 x6_4 x7_4 x8_3 (wrap64 (x9_4 + 1)))) else (none)) else (none)) else (none))) = some (r1, r2) := by rw [← hbq25] at H; exact H
            have Nbq25 := Aside0.mk hbq25
            clear hbq25
            by_cases c26 : bq25 = true
            ·subst c26
             have H1 : (cleanseref04_Jaro.l1 kj19 a0 a1 ji13 x6_4 x7_4 x8_3 (wrap64 (x9_4 + 1))) = some (r1, r2) := by rw [if_pos rfl] at H; exact H
             clear H
             have H := H1
             clear H1
             have H' := Aside0.mk H
             clear H
             obtain ⟨Ao27, co27, eo27⟩ := Kd.R_slice HO_6.out
             subst eo27
             have p231 : 0 ≤ (x9_4 : Int) := of_decide_eq_true (by (with_reducible assumption))
             have q231 : x9_4 < (x6_4.length : Int) := of_decide_eq_true (by (with_reducible assumption))
             obtain ⟨ad231, e231, hx231_0⟩ := Kd.at_bool (Kd.R_reads' HO_6.out).2.2 x9_4 p231 q231
             (try rw [← Nbq25.out] at hx231_0)
             cases e231
             replace p231 := eq_true p231
             replace q231 := eq_true q231
             go_wp2
             repeat (go_quiet (fail); try go_wp2)
             go_roundg kj19
             case measure => have := HJ2.out; have := HJ7.out; have := HK3.out; have := HK4.out; have := HJ19.out; omega
             case rel => exact ⟨(x6_4), (x7_4), (wrap64 (x9_4 + 1)), (by rfl), H', ⟨by have := HJ2.out; have := HJ7.out; have := HK3.out; have := HK4.out; have := HJ19.out; omega⟩, ⟨by (with_reducible repeat ((apply Kd.R_drewN))); exact HO_6.out⟩, ⟨by (with_reducible repeat ((apply Kd.R_drewN))); exact HO_7.out⟩, ⟨by (with_reducible repeat ((refine blk_drewN ?_ _))); exact BK227.out⟩, ⟨by repeat ((with_reducible first | exact HB.out | apply pw_below_drewN))⟩⟩
            replace c26 := Bool.eq_false_iff.mpr c26
            subst c26
            have H1 : (if 0 ≤ x8_3 then (if x8_3 < (a0.size : Int) then (if x9_4 < (a1.size : Int) then (if (bt a0 x8_3) = (bt a1 x9_4) then (if x7_4.length < 140737488355328 then (cleanseref04_Jaro.l0 kj19 a0 a1 ji13 (x6_4.set (x9_4 : Int).toNat true) (x7_4 ++ [bt a0 x8_3]) (wrap64 (x8_3 + 1))) else (none)) else (cleanseref04_Jaro.l1 kj19 a0 a1 ji13 x6_4 x7_4 x8_3 (wrap64 (x9_4 + 1)))) else (none)) else (none)) else (none)) = some (r1, r2) := by rw [if_neg (show ¬ (false = true) by decide)] at H; exact H
            clear H
            have H := H1
            clear H1
            by_cases c28 : 0 ≤ x8_3
            ·rw [if_pos c28] at H
             have c28b0 : decide (0 ≤ x8_3) = true := decide_eq_true c28
             clear c28
             by_cases c29 : x8_3 < (a0.size : Int)
             ·rw [if_pos c29] at H
              have c29b0 : decide (x8_3 < (a0.size : Int)) = true := decide_eq_true c29
              clear c29
              by_cases c31 : x9_4 < (a1.size : Int)
              ·rw [if_pos c31] at H
               have c31b0 : decide (x9_4 < (a1.size : Int)) = true := decide_eq_true c31
               clear c31
               by_cases c33 : (bt a0 x8_3) = (bt a1 x9_4)
               ·rw [if_pos c33] at H
                have c33b0 : ((bt a0 x8_3) == (bt a1 x9_4)) = true := beq_iff_eq.mpr c33
                have c33b1 : ((bt a0 x8_3) != (bt a1 x9_4)) = false := bne_eq_false_iff_eq.mpr c33
                clear c33
                obtain ⟨y232, hy232⟩ : ∃ y_ : List Bool, y_ = (x6_4.set (x9_4 : Int).toNat true) := ⟨_, rfl⟩
                replace H : (if x7_4.length < 140737488355328 then (cleanseref04_Jaro.l0 kj19 a0 a1 ji13 y232 (x7_4 ++ [bt a0 x8_3]) (wrap64 (x8_3 + 1))) else (none)) = some (r1, r2) := by (rw [hy232]; with_reducible exact H)
                have Ny232 := Aside0.mk hy232
                clear hy232
                by_cases c36 : x7_4.length < 140737488355328
                ·rw [if_pos c36] at H
                 have LMc36 := Aside0.mk c36
                 clear c36
                 obtain ⟨y233, hy233⟩ : ∃ y_ : List Int, y_ = (x7_4 ++ [bt a0 x8_3]) := ⟨_, rfl⟩
                 replace H : (cleanseref04_Jaro.l0 kj19 a0 a1 ji13 y232 y233 (wrap64 (x8_3 + 1))) = some (r1, r2) := by (rw [hy233]; with_reducible exact H)
                 have Ny233 := Aside0.mk hy233
                 clear hy233
                 have H' := Aside0.mk H
                 clear H
                 obtain ⟨Ao37, co37, eo37⟩ := Kd.R_slice HO_6.out
                 subst eo37
                 have p231 : 0 ≤ (x9_4 : Int) := of_decide_eq_true (by (with_reducible assumption))
                 have q231 : x9_4 < (x6_4.length : Int) := of_decide_eq_true (by (with_reducible assumption))
                 obtain ⟨ad231, e231, hx231_0⟩ := Kd.at_bool (Kd.R_reads' HO_6.out).2.2 x9_4 p231 q231
                 (try rw [← Nbq25.out] at hx231_0)
                 cases e231
                 replace p231 := eq_true p231
                 replace q231 := eq_true q231
                 have p30 : 0 ≤ (x8_3 : Int) := of_decide_eq_true (by (with_reducible assumption))
                 have q30 : x8_3 < (a0.size : Int) := of_decide_eq_true (by (with_reducible assumption))
                 have hx30 := bt_at a0 x8_3
                 replace p30 := eq_true p30
                 replace q30 := eq_true q30
                 have p32 : 0 ≤ (x9_4 : Int) := of_decide_eq_true (by (with_reducible assumption))
                 have q32 : x9_4 < (a1.size : Int) := of_decide_eq_true (by (with_reducible assumption))
                 have hx32 := bt_at a1 x9_4
                 replace p32 := eq_true p32
                 replace q32 := eq_true q32
                 have p34 : 0 ≤ (x9_4 : Int) := of_decide_eq_true (by (with_reducible assumption))
                 have q34 : (x9_4 : Int) < ((x6_4.length : Int) : Int) := of_decide_eq_true (by (with_reducible assumption))
                 obtain ⟨go34, co34, eo34, gb34, gl34, cl34, HG34⟩ := Kd.R_form HO_6.out (by omega)
                 (cases eo34)
                 have GB34 := Aside0.mk gb34
                 have GG34 := Aside0.mk HG34
                 clear gb34 gl34 HG34
                 ((simp only [add_plain] at hx231_0))
                 obtain ⟨hx34_0, hf34_0⟩ := Kd.R_celln false HO_6.out (x9_4 : Int) p34 q34
                 replace p34 := eq_true p34
                 replace q34 := eq_true q34
                 have HP38 := Kd.R_putg HO_6.out (x9_4 : Int) true
                 go_wp2_with (((with_reducible refine gate_builtin (b := .append) (xs := #[.tmp 84, .tmp 88]) rfl ?_); at_builtin; refine Kd.R_append (Kd.int .u8) (w0 := w) w.heap.size rfl (.tmp 84) (.tmp 88) 41 5 (.int .u8 0) 1 rfl Tryd.underlying41 info5 rfl (by decide) (by omega) u7 x7_4 (bt a0 x8_3) [.int .u8 (bt a0 x8_3)] (fun _ => True) (fun _ => False) rfl rfl ?aP (fun _ hk => hk.elim) ?aF ?aO ?aB ?aS ?aL ?_; (case aP => exact rfl); (case aB => exact (by skip)); (case aF => exact (fun _ _ => trivial)); (case aO => exact (by exact HO_7.out)); (case aS => exact (below_size (by skip))); (case aL => have := LMc36.out; omega); intro v234 w40 ho hb hg hat; rw [← Ny233.out] at ho; have n0_ := Aside0.mk (Kd.R_over' (by exact HO_6.out) (Kd.R_typed (by exact HO_7.out)) (by decide) hg); have n1_ := Aside0.mk (blk_grown (g := gb227) (o := .cells #[.int .i64 0, .int .i64 0] 32 (0, 0)) (by exact BK227.out) hg (Kd.R_ne HO_7.out BK227.out (by decide))); have n2_ := Aside0.mk (hb); have n3_ := Aside0.mk (ho); clear HO_6; clear BK227; clear HB; clear HO_7; have HO_6 := n0_; have BK227 := n1_; have HB := n2_; have HO235 := n3_; clear n0_ n1_ n2_ n3_; clear ho hb hg hat))
                 repeat (go_quiet (((with_reducible refine gate_builtin (b := .append) (xs := #[.tmp 84, .tmp 88]) rfl ?_); at_builtin; refine Kd.R_append (Kd.int .u8) (w0 := w) w.heap.size rfl (.tmp 84) (.tmp 88) 41 5 (.int .u8 0) 1 rfl Tryd.underlying41 info5 rfl (by decide) (by omega) u7 x7_4 (bt a0 x8_3) [.int .u8 (bt a0 x8_3)] (fun _ => True) (fun _ => False) rfl rfl ?aP (fun _ hk => hk.elim) ?aF ?aO ?aB ?aS ?aL ?_; (case aP => exact rfl); (case aB => exact (by skip)); (case aF => exact (fun _ _ => trivial)); (case aO => exact (by exact HO_7.out)); (case aS => exact (below_size (by skip))); (case aL => have := LMc36.out; omega); intro v234 w40 ho hb hg hat; rw [← Ny233.out] at ho; have n0_ := Aside0.mk (Kd.R_over' (by exact HO_6.out) (Kd.R_typed (by exact HO_7.out)) (by decide) hg); have n1_ := Aside0.mk (blk_grown (g := gb227) (o := .cells #[.int .i64 0, .int .i64 0] 32 (0, 0)) (by exact BK227.out) hg (Kd.R_ne HO_7.out BK227.out (by decide))); have n2_ := Aside0.mk (hb); have n3_ := Aside0.mk (ho); clear HO_6; clear BK227; clear HB; clear HO_7; have HO_6 := n0_; have BK227 := n1_; have HB := n2_; have HO235 := n3_; clear n0_ n1_ n2_ n3_; clear ho hb hg hat)); try go_wp2_with (first | ((with_reducible refine gate_store (t := 4) (p := 83) rfl ?_); (try (rw [drewN_self wc]; generalize hq_ : World.drewN wc _ = wc; have n0_ := Aside0.mk (Kd.R_at hq_ HO_6.out); have n1_ := Aside0.mk (Kd.R_at hq_ HO_7.out); have n2_ := Aside0.mk (blk_at hq_ BK227.out); have n3_ := Aside0.mk (below_at hq_ HB.out); (try replace hx34_0 := (congrArg (fun W_ : World => W_.cell? _) hq_).symm.trans hx34_0); (try replace hf34_0 := (congrArg (fun W_ : World => W_.frozen? _) hq_).symm.trans hf34_0); clear hq_ HO_6 HO_7 BK227 HB; have HO_6 := n0_; have HO_7 := n1_; have BK227 := n2_; have HB := n3_; clear n0_ n1_ n2_ n3_; (try (have HP38 := Kd.R_putg HO_6.out (x9_4 : Int) true)))); refine store_event (t := 4) (p := 83) (v := ?vo_w39) (w1 := (wc.setCell ⟨go34, (x9_4 : Int).toNat, none⟩ (.bool true))) ?hg ?ho ?hn ?hr ?_; (case ho => rfl); (case hg => rfl); (case hn => rfl); (case hr => (go_simp; done)); intro w39 hw; have hg : wc.grownBy w39 (some go34) := (by rw [hw]; exact HP38.2); have hp_ : Kd.R Kd.bool 4 w39 w.heap.size (fun _ => True) (.slice (some ⟨go34, 0, none⟩) x6_4.length co37) y232 := (by rw [hw, Ny232.out]; exact HP38.1); clear HP38; have n0_ := Aside0.mk (hp_); have n1_ := Aside0.mk (Kd.R_over' (v := (.slice (some ⟨go34, 0, none⟩) x6_4.length co37)) (by exact HO_7.out) (Kd.R_typed HO_6.out) (by decide) hg); have n2_ := Aside0.mk (blk_grown (g := gb227) (o := .cells #[.int .i64 0, .int .i64 0] 32 (0, 0)) (by exact BK227.out) hg (Kd.R_ne HO_6.out BK227.out (by decide))); have n3_ := Aside0.mk ((by rw [hw]; exact below_set (HB.out) GB34.out : Below w.heap.size w w39)); clear HO_6; clear HO_7; clear BK227; clear HB; have HO_6 := n0_; have HO_7 := n1_; have BK227 := n2_; have HB := n3_; clear n0_ n1_ n2_ n3_; clear hg hw hp_; have p35 : 0 ≤ (x8_3 : Int) := of_decide_eq_true (by (with_reducible assumption)); have q35 : x8_3 < (a0.size : Int) := of_decide_eq_true (by (with_reducible assumption)); have hx35 := bt_at a0 x8_3; replace p35 := eq_true p35; replace q35 := eq_true q35) | ((with_reducible refine gate_builtin (b := .append) (xs := #[.tmp 84, .tmp 88]) rfl ?_); (try (refine gate_guard (by rfl) ?_; dsimp only)); at_builtin; refine Kd.R_append (Kd.int .u8) (w0 := w) w.heap.size rfl (.tmp 84) (.tmp 88) 41 5 (.int .u8 0) 1 rfl Tryd.underlying41 info5 rfl (by decide) (by omega) u7 x7_4 (bt a0 x8_3) [.int .u8 (bt a0 x8_3)] (fun _ => True) (fun _ => False) rfl rfl ?aP (fun _ hk => hk.elim) ?aF ?aO ?aB ?aS ?aL ?_; (case aP => exact rfl); (case aB => exact HB.out); (case aF => exact (fun _ _ => trivial)); (case aO => exact (by exact HO_7.out)); (case aS => exact (below_size HB.out)); (case aL => have := LMc36.out; omega); intro v234 w40 ho hb hg hat; rw [← Ny233.out] at ho; have n0_ := Aside0.mk (Kd.R_over' (by exact HO_6.out) (Kd.R_typed (by exact HO_7.out)) (by decide) hg); have n1_ := Aside0.mk (blk_grown (g := gb227) (o := .cells #[.int .i64 0, .int .i64 0] 32 (0, 0)) (by exact BK227.out) hg (Kd.R_ne HO_7.out BK227.out (by decide))); have n2_ := Aside0.mk (hb); have n3_ := Aside0.mk (ho); clear HO_6; clear BK227; clear HB; clear HO_7; have HO_6 := n0_; have BK227 := n1_; have HB := n2_; have HO235 := n3_; clear n0_ n1_ n2_ n3_; clear ho hb hg hat)))
                 go_roundg kj19
                 case measure => have := HJ2.out; have := HJ7.out; have := HK3.out; have := HK4.out; have := HJ19.out; omega
                 case rel => exact ⟨(y232), (y233), (wrap64 (x8_3 + 1)), (by rfl), H', ⟨by have := HJ2.out; have := HJ7.out; have := HK3.out; have := HK4.out; have := HJ19.out; omega⟩, ⟨by exact HO_6.out⟩, ⟨by exact HO235.out⟩, ⟨by exact BK227.out⟩, ⟨by repeat ((with_reducible (exact HB.out)))⟩⟩
                rw [if_neg c36] at H
                exact absurd H (by simp)
               rw [if_neg c33] at H
               have c33b0 : ((bt a0 x8_3) == (bt a1 x9_4)) = false := beq_eq_false_iff_ne.mpr c33
               have c33b1 : ((bt a0 x8_3) != (bt a1 x9_4)) = true := bne_iff_ne.mpr c33
               have H' := Aside0.mk H
               clear H
               obtain ⟨Ao41, co41, eo41⟩ := Kd.R_slice HO_6.out
               subst eo41
               have p231 : 0 ≤ (x9_4 : Int) := of_decide_eq_true (by (with_reducible assumption))
               have q231 : x9_4 < (x6_4.length : Int) := of_decide_eq_true (by (with_reducible assumption))
               obtain ⟨ad231, e231, hx231_0⟩ := Kd.at_bool (Kd.R_reads' HO_6.out).2.2 x9_4 p231 q231
               (try rw [← Nbq25.out] at hx231_0)
               cases e231
               replace p231 := eq_true p231
               replace q231 := eq_true q231
               have p30 : 0 ≤ (x8_3 : Int) := of_decide_eq_true (by (with_reducible assumption))
               have q30 : x8_3 < (a0.size : Int) := of_decide_eq_true (by (with_reducible assumption))
               have hx30 := bt_at a0 x8_3
               replace p30 := eq_true p30
               replace q30 := eq_true q30
               have p32 : 0 ≤ (x9_4 : Int) := of_decide_eq_true (by (with_reducible assumption))
               have q32 : x9_4 < (a1.size : Int) := of_decide_eq_true (by (with_reducible assumption))
               have hx32 := bt_at a1 x9_4
               replace p32 := eq_true p32
               replace q32 := eq_true q32
               go_wp2
               repeat (go_quiet (fail); try go_wp2)
               go_roundg kj19
               case measure => have := HJ2.out; have := HJ7.out; have := HK3.out; have := HK4.out; have := HJ19.out; omega
               case rel => exact ⟨(x6_4), (x7_4), (wrap64 (x9_4 + 1)), (by rfl), H', ⟨by have := HJ2.out; have := HJ7.out; have := HK3.out; have := HK4.out; have := HJ19.out; omega⟩, ⟨by (with_reducible repeat ((apply Kd.R_drewN))); exact HO_6.out⟩, ⟨by (with_reducible repeat ((apply Kd.R_drewN))); exact HO_7.out⟩, ⟨by (with_reducible repeat ((refine blk_drewN ?_ _))); exact BK227.out⟩, ⟨by repeat ((with_reducible first | exact HB.out | apply pw_below_drewN))⟩⟩
              rw [if_neg c31] at H
              exact absurd H (by simp)
             rw [if_neg c29] at H
             exact absurd H (by simp)
            rw [if_neg c28] at H
            exact absurd H (by simp)
           rw [if_neg c24] at H
           exact absurd H (by simp)
          rw [if_neg c23] at H
          exact absurd H (by simp)
         replace c22 := Bool.eq_false_iff.mpr c22
         subst c22
         have H1 : (cleanseref04_Jaro.l0 kj19 a0 a1 ji13 x6_4 x7_4 (wrap64 (x8_3 + 1))) = some (r1, r2) := by rw [if_neg (show ¬ (false = true) by decide)] at H; exact H
         clear H
         have H := H1
         clear H1
         have H' := Aside0.mk H
         clear H
         go_wp2
         go_roundg kj19
         case measure => have := HJ2.out; have := HJ7.out; have := HK3.out; have := HK4.out; have := HJ19.out; omega
         case rel => exact ⟨(x6_4), (x7_4), (wrap64 (x8_3 + 1)), (by rfl), H', ⟨by have := HJ2.out; have := HJ7.out; have := HK3.out; have := HK4.out; have := HJ19.out; omega⟩, ⟨by exact HO_6.out⟩, ⟨by exact HO_7.out⟩, ⟨by exact BK227.out⟩, ⟨by repeat ((with_reducible (exact HB.out)))⟩⟩
      rw [if_neg c18] at H
      have c18b0 : decide (x8_3 < (a0.size : Int)) = false := decide_eq_false c18
      clear c18
      by_cases c42 : (x7_3.length : Int) = 0
      ·rw [if_pos c42] at H
       have c42b0 : ((x7_3.length : Int) == 0) = true := beq_iff_eq.mpr c42
       have c42b1 : ((x7_3.length : Int) != 0) = false := bne_eq_false_iff_eq.mpr c42
       clear c42
       simp only [Option.some.injEq, Prod.mk.injEq] at H
       obtain ⟨rfl, rfl⟩ := H
       obtain ⟨Ao43, co43, eo43⟩ := Kd.R_slice HO_7.out
       subst eo43
       have hcz44_0 := cel_ BK227.out 0 rfl
       have hcz44_1 := cel_ BK227.out 1 rfl
       have hfz44_0 := blk_frozen BK227.out 0
       have hfz44_1 := blk_frozen BK227.out 1
       go_wp2
       refine bodyPost_ret (results_cell_row rfl _ _ gb227 32 #[.int .i64 0, .int .i64 1] (0, 0) _ rfl (by refine blk_put (cs := #[.int .i64 0, .int .i64 0]) ?_ 1 _ rfl; refine blk_put (cs := #[.int .i64 0, .int .i64 0]) ?_ 0 _ rfl; exact BK227.out) Tryd.underlying32 rfl (by kernel_rfl)) rfl ?_
       exact ⟨by rfl, by repeat ((with_reducible first | exact HB.out | refine below_set ?_ GE227.out))⟩
      rw [if_neg c42] at H
      have c42b0 : ((x7_3.length : Int) == 0) = false := beq_eq_false_iff_ne.mpr c42
      have c42b1 : ((x7_3.length : Int) != 0) = true := bne_iff_ne.mpr c42
      have c42b2 : ¬ (x7_3 = []) := fun h_ => c42 (by rw [h_]; rfl)
      have H' := Aside0.mk H
      clear H
      obtain ⟨Ao45, co45, eo45⟩ := Kd.R_slice HO_7.out
      subst eo45
      go_wp2
      go_loopg [11, 12, 13] k3 (fun kq v11 v12 v13 w' => ∃ (x11_4 : Int) (x12_4 : Int) (x13_4 : Int), v11 = .int .i64 x11_4 ∧ v12 = .int .i64 x12_4 ∧ v13 = .int .i64 x13_4 ∧ Aside0 (cleanseref04_Jaro.l2 kq a0 a1 x6_3 x7_3 (x7_3.length : Int) x11_4 x12_4 x13_4 = some (r1, r2)) ∧ Aside0 (kq ≤ k3) ∧ Aside0 (Kd.R Kd.bool 4 w' w.heap.size (fun _ => True) v229 x6_3) ∧ Aside0 (Kd.R (Kd.int .u8) 5 w' w.heap.size (fun _ => True) (.slice Ao45 x7_3.length co45) x7_3) ∧ Aside0 (w'.heap[gb227]? = some (.cells #[.int .i64 0, .int .i64 0] 32 (0, 0))) ∧ Aside0 (Below w.heap.size w w'))
      case atStart => exact ⟨(0), (0), (0), (by rfl), (by rfl), (by rfl), H', ⟨Nat.le_refl _⟩, ⟨by exact HO_6.out⟩, ⟨by exact HO_7.out⟩, ⟨by exact BK227.out⟩, ⟨by repeat ((with_reducible (exact HB.out)))⟩⟩
      clear H'
      clear c18b0
      clear c42 c42b0 c42b1 c42b2
      obtain ⟨x11_4, x12_4, x13_4, rfl, rfl, rfl, HA, HK4, HO_6, HO_7, BK227, HB⟩ := hrel
      cases gk with
      | zero => exact absurd HA.out (by simp [cleanseref04_Jaro.l2])
      | succ k4 =>
       have H := HA.out
       clear HA
       simp only [cleanseref04_Jaro.l2] at H
       by_cases c46 : x13_4 < (a1.size : Int)
       ·rw [if_pos c46] at H
        have c46b0 : decide (x13_4 < (a1.size : Int)) = true := decide_eq_true c46
        clear c46
        by_cases c47 : 0 ≤ x13_4
        ·rw [if_pos c47] at H
         have c47b0 : decide (0 ≤ x13_4) = true := decide_eq_true c47
         clear c47
         by_cases c48 : x13_4 < (x6_3.length : Int)
         ·rw [if_pos c48] at H
          have c48b0 : decide (x13_4 < (x6_3.length : Int)) = true := decide_eq_true c48
          clear c48
          obtain ⟨bq49, hbq49⟩ : ∃ b_ : Bool, b_ = (rdOf false x6_3 x13_4) := ⟨_, rfl⟩
          replace H : (if bq49 = true then (if 0 ≤ x12_4 then (if x12_4 < (x7_3.length : Int) then (if (bt a1 x13_4) = (rd x7_3 x12_4) then (cleanseref04_Jaro.l2 k4 a0 a1 x6_3 x7_3 (x7_3.length : Int) x11_4 (wrap64 (x12_4 + 1)) (wrap64 (x13_4 + 1))) else (cleanseref04_Jaro.l2 k4 a0 a1 x6_3 x7_3 (x7_3.length : Int) (wrap64 (x11_4 + 1)) (wrap64 (x12_4 + 1)) (wrap64 (x13_4 + 1)))) else (none)) else (none)) else (cleanseref04_Jaro.l2 k4 a0 a1 x6_3 x7_3 (x7_3.length : Int) x11_4 x12_4 (wrap64 (x13_4 + 1)))) = some (r1, r2) := by rw [← hbq49] at H; exact H
          have Nbq49 := Aside0.mk hbq49
          clear hbq49
          by_cases c50 : bq49 = true
          ·subst c50
           have H1 : (if 0 ≤ x12_4 then (if x12_4 < (x7_3.length : Int) then (if (bt a1 x13_4) = (rd x7_3 x12_4) then (cleanseref04_Jaro.l2 k4 a0 a1 x6_3 x7_3 (x7_3.length : Int) x11_4 (wrap64 (x12_4 + 1)) (wrap64 (x13_4 + 1))) else (cleanseref04_Jaro.l2 k4 a0 a1 x6_3 x7_3 (x7_3.length : Int) (wrap64 (x11_4 + 1)) (wrap64 (x12_4 + 1)) (wrap64 (x13_4 + 1)))) else (none)) else (none)) = some (r1, r2) := by rw [if_pos rfl] at H; exact H
           clear H
           have H := H1
           clear H1
           by_cases c52 : 0 ≤ x12_4
           ·rw [if_pos c52] at H
            have c52b0 : decide (0 ≤ x12_4) = true := decide_eq_true c52
            clear c52
            by_cases c53 : x12_4 < (x7_3.length : Int)
            ·rw [if_pos c53] at H
             have c53b0 : decide (x12_4 < (x7_3.length : Int)) = true := decide_eq_true c53
             clear c53
             by_cases c54 : (bt a1 x13_4) = (rd x7_3 x12_4)
             ·rw [if_pos c54] at H
              have c54b0 : ((bt a1 x13_4) == (rd x7_3 x12_4)) = true := beq_iff_eq.mpr c54
              have c54b1 : ((bt a1 x13_4) != (rd x7_3 x12_4)) = false := bne_eq_false_iff_eq.mpr c54
              clear c54
              have H' := Aside0.mk H
              clear H
              obtain ⟨Ao55, co55, eo55⟩ := Kd.R_slice HO_6.out
              subst eo55
              have p238 : 0 ≤ (x13_4 : Int) := of_decide_eq_true (by (with_reducible assumption))
              have q238 : x13_4 < (x6_3.length : Int) := of_decide_eq_true (by (with_reducible assumption))
              obtain ⟨ad238, e238, hx238_0⟩ := Kd.at_bool (Kd.R_reads' HO_6.out).2.2 x13_4 p238 q238
              (try rw [← Nbq49.out] at hx238_0)
              cases e238
              replace p238 := eq_true p238
              replace q238 := eq_true q238
              have p51 : 0 ≤ (x13_4 : Int) := of_decide_eq_true (by (with_reducible assumption))
              have q51 : x13_4 < (a1.size : Int) := of_decide_eq_true (by (with_reducible assumption))
              have hx51 := bt_at a1 x13_4
              replace p51 := eq_true p51
              replace q51 := eq_true q51
              have p239 : 0 ≤ (x12_4 : Int) := of_decide_eq_true (by (with_reducible assumption))
              have q239 : x12_4 < (x7_3.length : Int) := of_decide_eq_true (by (with_reducible assumption))
              obtain ⟨ad239, e239, hx239_0⟩ := Kd.at_int (Kd.R_reads' HO_7.out).2.2 x12_4 p239 q239
              cases e239
              replace p239 := eq_true p239
              replace q239 := eq_true q239
              go_wp2
              repeat (go_quiet (fail); try go_wp2)
              go_roundg k4
              case measure => have := HJ2.out; have := HJ7.out; have := HK3.out; have := HK4.out; omega
              case rel => exact ⟨(x11_4), (wrap64 (x12_4 + 1)), (wrap64 (x13_4 + 1)), (by rfl), (by rfl), (by rfl), H', ⟨by have := HJ2.out; have := HJ7.out; have := HK3.out; have := HK4.out; omega⟩, ⟨by (with_reducible repeat ((apply Kd.R_drewN))); exact HO_6.out⟩, ⟨by (with_reducible repeat ((apply Kd.R_drewN))); exact HO_7.out⟩, ⟨by (with_reducible repeat ((refine blk_drewN ?_ _))); exact BK227.out⟩, ⟨by repeat ((with_reducible first | exact HB.out | apply pw_below_drewN))⟩⟩
             rw [if_neg c54] at H
             have c54b0 : ((bt a1 x13_4) == (rd x7_3 x12_4)) = false := beq_eq_false_iff_ne.mpr c54
             have c54b1 : ((bt a1 x13_4) != (rd x7_3 x12_4)) = true := bne_iff_ne.mpr c54
             have H' := Aside0.mk H
             clear H
             obtain ⟨Ao56, co56, eo56⟩ := Kd.R_slice HO_6.out
             subst eo56
             have p238 : 0 ≤ (x13_4 : Int) := of_decide_eq_true (by (with_reducible assumption))
             have q238 : x13_4 < (x6_3.length : Int) := of_decide_eq_true (by (with_reducible assumption))
             obtain ⟨ad238, e238, hx238_0⟩ := Kd.at_bool (Kd.R_reads' HO_6.out).2.2 x13_4 p238 q238
             (try rw [← Nbq49.out] at hx238_0)
             cases e238
             replace p238 := eq_true p238
             replace q238 := eq_true q238
             have p51 : 0 ≤ (x13_4 : Int) := of_decide_eq_true (by (with_reducible assumption))
             have q51 : x13_4 < (a1.size : Int) := of_decide_eq_true (by (with_reducible assumption))
             have hx51 := bt_at a1 x13_4
             replace p51 := eq_true p51
             replace q51 := eq_true q51
             have p239 : 0 ≤ (x12_4 : Int) := of_decide_eq_true (by (with_reducible assumption))
             have q239 : x12_4 < (x7_3.length : Int) := of_decide_eq_true (by (with_reducible assumption))
             obtain ⟨ad239, e239, hx239_0⟩ := Kd.at_int (Kd.R_reads' HO_7.out).2.2 x12_4 p239 q239
             cases e239
             replace p239 := eq_true p239
             replace q239 := eq_true q239
             go_wp2
             repeat (go_quiet (fail); try go_wp2)
             go_roundg k4
             case measure => have := HJ2.out; have := HJ7.out; have := HK3.out; have := HK4.out; omega
             case rel => exact ⟨(wrap64 (x11_4 + 1)), (wrap64 (x12_4 + 1)), (wrap64 (x13_4 + 1)), (by rfl), (by rfl), (by rfl), H', ⟨by have := HJ2.out; have := HJ7.out; have := HK3.out; have := HK4.out; omega⟩, ⟨by (with_reducible repeat ((apply Kd.R_drewN))); exact HO_6.out⟩, ⟨by (with_reducible repeat ((apply Kd.R_drewN))); exact HO_7.out⟩, ⟨by (with_reducible repeat ((refine blk_drewN ?_ _))); exact BK227.out⟩, ⟨by repeat ((with_reducible first | exact HB.out | apply pw_below_drewN))⟩⟩
            rw [if_neg c53] at H
            exact absurd H (by simp)
           rw [if_neg c52] at H
           exact absurd H (by simp)
          replace c50 := Bool.eq_false_iff.mpr c50
          subst c50
          have H1 : (cleanseref04_Jaro.l2 k4 a0 a1 x6_3 x7_3 (x7_3.length : Int) x11_4 x12_4 (wrap64 (x13_4 + 1))) = some (r1, r2) := by rw [if_neg (show ¬ (false = true) by decide)] at H; exact H
          clear H
          have H := H1
          clear H1
          have H' := Aside0.mk H
          clear H
          obtain ⟨Ao57, co57, eo57⟩ := Kd.R_slice HO_6.out
          subst eo57
          have p238 : 0 ≤ (x13_4 : Int) := of_decide_eq_true (by (with_reducible assumption))
          have q238 : x13_4 < (x6_3.length : Int) := of_decide_eq_true (by (with_reducible assumption))
          obtain ⟨ad238, e238, hx238_0⟩ := Kd.at_bool (Kd.R_reads' HO_6.out).2.2 x13_4 p238 q238
          (try rw [← Nbq49.out] at hx238_0)
          cases e238
          replace p238 := eq_true p238
          replace q238 := eq_true q238
          go_wp2
          go_roundg k4
          case measure => have := HJ2.out; have := HJ7.out; have := HK3.out; have := HK4.out; omega
          case rel => exact ⟨(x11_4), (x12_4), (wrap64 (x13_4 + 1)), (by rfl), (by rfl), (by rfl), H', ⟨by have := HJ2.out; have := HJ7.out; have := HK3.out; have := HK4.out; omega⟩, ⟨by exact HO_6.out⟩, ⟨by exact HO_7.out⟩, ⟨by exact BK227.out⟩, ⟨by repeat ((with_reducible (exact HB.out)))⟩⟩
         rw [if_neg c48] at H
         exact absurd H (by simp)
        rw [if_neg c47] at H
        exact absurd H (by simp)
       rw [if_neg c46] at H
       have c46b0 : decide (x13_4 < (a1.size : Int)) = false := decide_eq_false c46
       clear c46
       replace H := Option.bind_eq_some_iff.mp H
       obtain ⟨⟨t236, t237⟩, A580, H⟩ := H
       replace H : (some (t236, t237)) = some (r1, r2) := H
       have A58 := Aside0.mk A580
       clear A580
       simp only [Option.some.injEq, Prod.mk.injEq] at H
       obtain ⟨rfl, rfl⟩ := H
       go_wp2_with (first | (go_at_call 36; (with_reducible refine (cleanseref04_share.calls k4 (wrap64 ((wrap64 ((wrap64 ((wrap64 (2 * (x7_3.length : Int))) * (x7_3.length : Int))) * (wrap64 ((a0.size : Int) + (a1.size : Int))))) + (wrap64 ((wrap64 ((wrap64 (2 * (x7_3.length : Int))) - x11_4)) * (wrap64 ((a0.size : Int) * (a1.size : Int))))))) (wrap64 ((wrap64 (6 * (x7_3.length : Int))) * (wrap64 ((a0.size : Int) * (a1.size : Int))))) t236 t237 _ A58.out).mono ?_); rintro e w59 ⟨rfl, hb⟩; have n0_ := Aside0.mk (Kd.R_below (by exact HO_6.out) hb); have n1_ := Aside0.mk (Kd.R_below (by exact HO_7.out) hb); have n2_ := Aside0.mk (blk_below (g := gb227) (o := .cells #[.int .i64 0, .int .i64 0] 32 (0, 0)) (by exact BK227.out) hb); have n3_ := Aside0.mk (below_step HB.out hb); clear HO_6; clear HO_7; clear BK227; clear HB; have HO_6 := n0_; have HO_7 := n1_; have BK227 := n2_; have HB := n3_; clear n0_ n1_ n2_ n3_; (try clear hb); have hcz60_0 := cel_ BK227.out 0 rfl; have hcz60_1 := cel_ BK227.out 1 rfl; have hfz60_0 := blk_frozen BK227.out 0; have hfz60_1 := blk_frozen BK227.out 1))
       refine bodyPost_ret (results_cell_row rfl _ _ gb227 32 #[.int .i64 t236, .int .i64 t237] (0, 0) _ rfl (by refine blk_put (cs := #[.int .i64 t236, .int .i64 0]) ?_ 1 _ rfl; refine blk_put (cs := #[.int .i64 0, .int .i64 0]) ?_ 0 _ rfl; exact BK227.out) Tryd.underlying32 rfl (by kernel_rfl)) rfl ?_
       exact ⟨by rfl, by repeat ((with_reducible first | exact HB.out | refine below_set ?_ GE227.out))⟩
    rw [if_neg c15] at H
    exact absurd H (by simp)
   rw [if_neg c14] at H
   exact absurd H (by simp)

end Go.Proofs.YtgomlpndoolllaaDoor.Q
end

section
namespace Go.Proofs.YtgomlpndoolllaaDoor.Q
open Go.RowKit Go.Proofs.YtgomlpndoolllaaDoorW.PrintWords Go.Proofs.YtgomlpndoolllaaDoorW.PrintLast Go.Proofs.YtgomlpndoolllaaDoorW.PrintMore
attribute [local go_sem] max2_int min2_int max_two min_two max_three min_three max_four min_four   -- for this text's walks alone
set_option linter.unusedVariables false
set_option linter.unusedSimpArgs false

/-! ### cleanseref04_apart: function 43 -/
def cleanseref04_apart.f : Nat → Int → Int → Int → Option (Int)
 | 0, _, _, _ => none
 | k + 1, a0, a1, a2 => if a0 > a1 then ((cleanseref04_apart.f k a1 a0 a2).bind fun t240 => (some t240)) else (if (IntKind.u64.wrap ((IntKind.u64.wrap (a1)) - (IntKind.u64.wrap (a0)))) > (IntKind.u64.wrap (a2)) then (some a2) else (some (wrap64 (IntKind.u64.wrap ((IntKind.u64.wrap (a1)) - (IntKind.u64.wrap (a0)))))))
set_option maxHeartbeats 8000000 in
set_option maxRecDepth 100000 in
theorem cleanseref04_apart.calls (k : Nat) : ∀ (a0 : Int) (a1 : Int) (a2 : Int) (r : Int) (w : World) (h : cleanseref04_apart.f k a0 a1 a2 = some r),
  Calls Tryd.prog 43 #[.int .i64 a0, .int .i64 a1, .int .i64 a2] w fun e w' => e = .returned (.int .i64 r) ∧ Drawn0 w w' := by
 induction k using Nat.strongRecOn with
 | _ k ih =>
 intro a0 a1 a2 r w h
 cases k with
 | zero => exact absurd h (by simp [cleanseref04_apart.f])
 | succ k =>
 simp only [cleanseref04_apart.f] at h
 have H : (if a0 > a1 then ((cleanseref04_apart.f k a1 a0 a2).bind fun t240 => (some t240)) else (if (IntKind.u64.wrap ((IntKind.u64.wrap (a1)) - (IntKind.u64.wrap (a0)))) > (IntKind.u64.wrap (a2)) then (some a2) else (some (wrap64 (IntKind.u64.wrap ((IntKind.u64.wrap (a1)) - (IntKind.u64.wrap (a0)))))))) = some r := h
 clear h
 by_cases c4 : a0 > a1
 ·rw [if_pos c4] at H
  have c4b0 : decide (a1 < a0) = true := decide_eq_true c4
  clear c4
  replace H := Option.bind_eq_some_iff.mp H
  obtain ⟨t240, A50, H⟩ := H
  replace H : (some t240) = some r := H
  have A5 := Aside0.mk A50
  clear A50
  obtain rfl := Option.some.inj H
  go_enter Tryd.func43, Tryd.ntmps43
  go_wp2_with (first | ((with_reducible refine gate_callee (f := 43) rfl ?_); refine goesL_ (some 14) rfl rfl Tryd.func43 (by kernel_rfl) rfl #[.int .i64 a1, .int .i64 a0, .int .i64 a2] rfl (by (try simp only [List.map_toArray, List.map_cons, List.map_nil]); rfl) ?_; (with_reducible refine (ih k (by omega) a1 a0 a2 t240 _ A5.out).mono ?_); rintro e w' ⟨rfl, ⟨nd, rfl⟩⟩; refine ⟨_, rfl, ?_⟩))
  go_ret
  exact ⟨by rfl, by repeat (first | exact Drawn0.refl _ | apply Drawn0.step)⟩
 rw [if_neg c4] at H
 have c4b0 : decide (a1 < a0) = false := decide_eq_false c4
 clear c4
 by_cases c6 : (IntKind.u64.wrap ((IntKind.u64.wrap (a1)) - (IntKind.u64.wrap (a0)))) > (IntKind.u64.wrap (a2))
 ·rw [if_pos c6] at H
  have c6b0 : decide ((IntKind.u64.wrap (a2)) < (IntKind.u64.wrap ((IntKind.u64.wrap (a1)) - (IntKind.u64.wrap (a0))))) = true := decide_eq_true c6
  clear c6
  obtain rfl := Option.some.inj H
  go_enter Tryd.func43, Tryd.ntmps43
  go_wp2
  go_ret
  exact ⟨by rfl, by exact Drawn0.refl _⟩
 rw [if_neg c6] at H
 have c6b0 : decide ((IntKind.u64.wrap (a2)) < (IntKind.u64.wrap ((IntKind.u64.wrap (a1)) - (IntKind.u64.wrap (a0))))) = false := decide_eq_false c6
 clear c6
 obtain rfl := Option.some.inj H
 go_enter Tryd.func43, Tryd.ntmps43
 go_wp2
 go_ret
 exact ⟨by rfl, by exact Drawn0.refl _⟩

/-! ### cleanseref04_Near: function 25 -/
def cleanseref04_Near.j0 : Nat → Int → Int → Int → Bool → Option (Int × Int)
 | 0, _, _, _, _ => none
 | k + 1, x0, x1, x2, x12 => if x12 = true then (some (0, 1)) else ((cleanseref04_apart.f k x0 x1 (wrap64 (x2 + 1))).bind fun t242 => ((cleanseref04_share.f k (wrap64 ((wrap64 (x2 + 1)) - t242)) (wrap64 (x2 + 1))).bind fun bt243 => (some (bt243.1, bt243.2))))
def cleanseref04_Near.f (k : Nat) (a0 : Int) (a1 : Int) (a2 : Int) : Option (Int × Int) := if a2 < 0 then (cleanseref04_Near.j0 k a0 a1 a2 true) else (cleanseref04_Near.j0 k a0 a1 a2 (decide (a2 > 999999999)))
set_option maxHeartbeats 8000000 in
set_option maxRecDepth 100000 in
theorem cleanseref04_Near.calls (k : Nat) (a0 : Int) (a1 : Int) (a2 : Int) (r1 : Int) (r2 : Int) (w : World) (h : cleanseref04_Near.f k a0 a1 a2 = some (r1, r2)) :
  Calls Tryd.prog 25 #[.int .i64 a0, .int .i64 a1, .int .i64 a2] w fun e w' => e = .returned (.agg #[.int .i64 r1, .int .i64 r2]) ∧ Below w.heap.size w w' := by
 have hu32 := Tryd.underlying32
 have HB := Aside0.mk (Below.refl w.heap.size w)
 have H : (if a2 < 0 then (cleanseref04_Near.j0 k a0 a1 a2 true) else (cleanseref04_Near.j0 k a0 a1 a2 (decide (a2 > 999999999)))) = some (r1, r2) := h
 clear h
 have HC4 := Aside0.mk H
 clear H
 go_enter Tryd.func25, Tryd.ntmps25
 go_upto_region 1 with (first | ((with_reducible refine gate_dst (N := 6) rfl ?_); refine box_event ?hg (N := 6) ?hd (cs := #[.int .i64 0, .int .i64 0]) (t := 32) ?hr ?_; (case hd => rfl); (case hg => rfl); (case hr => (go_simp; done)); intro gb241 hg w5 hbox hb; have n0_ := Aside0.mk (below_step HB.out hb); have n1_ := Aside0.mk (hbox); have n3_ := Aside0.mk ((by rw [hg]; exact (below_size HB.out) : w.heap.size ≤ gb241)); clear HB; have HB := n0_; have BK241 := n1_; have GE241 := n3_; clear n0_ n1_ n3_; clear hb hbox hg))
 (try simp only [Act.put, pS_, pZ_, pC_])
 go_cut [12] (fun v12 wc => ∃ (kq : Nat) (x12_3 : Bool), v12 = .bool x12_3 ∧ Aside0 (cleanseref04_Near.j0 kq a0 a1 a2 x12_3 = some (r1, r2)) ∧ Aside0 (kq ≤ k) ∧ Aside0 (wc.heap[gb241]? = some (.cells #[.int .i64 0, .int .i64 0] 32 (0, 0))) ∧ Aside0 (Below w.heap.size w wc))
 case first =>
  have H := HC4.out
  clear HC4
  by_cases c6 : a2 < 0
  ·rw [if_pos c6] at H
   have c6b0 : decide (a2 < 0) = true := decide_eq_true c6
   clear c6
   have H' := Aside0.mk H
   clear H
   go_wp2
   go_meet
   case rel => exact ⟨_, (true), (by rfl), H', ⟨by omega⟩, ⟨by exact BK241.out⟩, ⟨by repeat ((with_reducible (exact HB.out)))⟩⟩
  rw [if_neg c6] at H
  have c6b0 : decide (a2 < 0) = false := decide_eq_false c6
  clear c6
  have H' := Aside0.mk H
  clear H
  go_wp2
  go_meet
  case rel => exact ⟨_, (decide (a2 > 999999999)), (by rfl), H', ⟨by omega⟩, ⟨by exact BK241.out⟩, ⟨by repeat ((with_reducible (exact HB.out)))⟩⟩
 clear HC4
 obtain ⟨kq, x12_3, rfl, HA, HJ3, BK241, HB⟩ := hcut
 cases kq with
 | zero => exact absurd HA.out (by simp [cleanseref04_Near.j0])
 | succ kj3 =>
  have H := HA.out
  clear HA
  simp only [cleanseref04_Near.j0] at H
  by_cases c7 : x12_3 = true
  ·subst c7
   have H1 : (some (0, 1)) = some (r1, r2) := by rw [if_pos rfl] at H; exact H
   clear H
   have H := H1
   clear H1
   simp only [Option.some.injEq, Prod.mk.injEq] at H
   obtain ⟨rfl, rfl⟩ := H
   have hcz8_0 := cel_ BK241.out 0 rfl
   have hcz8_1 := cel_ BK241.out 1 rfl
   have hfz8_0 := blk_frozen BK241.out 0
   have hfz8_1 := blk_frozen BK241.out 1
   go_wp2
   refine bodyPost_ret (results_cell_row rfl _ _ gb241 32 #[.int .i64 0, .int .i64 1] (0, 0) _ rfl (by refine blk_put (cs := #[.int .i64 0, .int .i64 0]) ?_ 1 _ rfl; refine blk_put (cs := #[.int .i64 0, .int .i64 0]) ?_ 0 _ rfl; exact BK241.out) Tryd.underlying32 rfl (by kernel_rfl)) rfl ?_
   exact ⟨by rfl, by repeat ((with_reducible first | exact HB.out | refine below_set ?_ GE241.out))⟩
  replace c7 := Bool.eq_false_iff.mpr c7
  subst c7
  have H1 : ((cleanseref04_apart.f kj3 a0 a1 (wrap64 (a2 + 1))).bind fun t242 => ((cleanseref04_share.f kj3 (wrap64 ((wrap64 (a2 + 1)) - t242)) (wrap64 (a2 + 1))).bind fun bt243 => (some (bt243.1, bt243.2)))) = some (r1, r2) := by rw [if_neg (show ¬ (false = true) by decide)] at H; exact H
  clear H
  have H := H1
  clear H1
  replace H := Option.bind_eq_some_iff.mp H
  obtain ⟨t242, A90, H⟩ := H
  replace H : ((cleanseref04_share.f kj3 (wrap64 ((wrap64 (a2 + 1)) - t242)) (wrap64 (a2 + 1))).bind fun bt243 => (some (bt243.1, bt243.2))) = some (r1, r2) := H
  have A9 := Aside0.mk A90
  clear A90
  replace H := Option.bind_eq_some_iff.mp H
  obtain ⟨⟨t243, t244⟩, A100, H⟩ := H
  replace H : (some (t243, t244)) = some (r1, r2) := H
  have A10 := Aside0.mk A100
  clear A100
  simp only [Option.some.injEq, Prod.mk.injEq] at H
  obtain ⟨rfl, rfl⟩ := H
  go_wp2_with (first | ((with_reducible refine gate_callee (f := 43) rfl ?_); refine goesL_ (some 20) rfl rfl Tryd.func43 (by kernel_rfl) rfl #[.int .i64 a0, .int .i64 a1, .int .i64 (wrap64 (a2 + 1))] rfl (by (try simp only [List.map_toArray, List.map_cons, List.map_nil]); rfl) ?_; (with_reducible refine (cleanseref04_apart.calls kj3 a0 a1 (wrap64 (a2 + 1)) t242 _ A9.out).mono ?_); rintro e w' ⟨rfl, ⟨nd, rfl⟩⟩; refine ⟨_, rfl, ?_⟩; (try (rw [drewN_self wc]; generalize hq_ : World.drewN wc _ = wc; have n0_ : Aside0 (wc.heap[gb241]? = some (.cells #[.int .i64 0, .int .i64 0] 32 (0, 0))) := ⟨by rw [← hq_]; exact (by (with_reducible repeat ((refine blk_drewN ?_ _))); exact BK241.out)⟩; have n1_ : Aside0 (Below w.heap.size w wc) := ⟨by rw [← hq_]; exact (by repeat ((with_reducible first | exact HB.out | apply pw_below_drewN)))⟩; clear BK241 HB hq_; have BK241 := n0_; have HB := n1_; clear n0_ n1_))) | ((with_reducible refine gate_callee (f := 36) rfl ?_); refine goesL_ (some 24) rfl rfl Tryd.func36 (by kernel_rfl) rfl #[.int .i64 (wrap64 ((wrap64 (a2 + 1)) - t242)), .int .i64 (wrap64 (a2 + 1))] rfl (by (try simp only [List.map_toArray, List.map_cons, List.map_nil]); rfl) ?_; (with_reducible refine (cleanseref04_share.calls kj3 (wrap64 ((wrap64 (a2 + 1)) - t242)) (wrap64 (a2 + 1)) t243 t244 _ A10.out).mono ?_); rintro e w11 ⟨rfl, hb⟩; refine ⟨_, rfl, ?_⟩; have n0_ := Aside0.mk (blk_below (g := gb241) (o := .cells #[.int .i64 0, .int .i64 0] 32 (0, 0)) (by exact BK241.out) hb); have n1_ := Aside0.mk (below_step HB.out hb); clear BK241; clear HB; have BK241 := n0_; have HB := n1_; clear n0_ n1_; (try clear hb); have hcz12_0 := cel_ BK241.out 0 rfl; have hcz12_1 := cel_ BK241.out 1 rfl; have hfz12_0 := blk_frozen BK241.out 0; have hfz12_1 := blk_frozen BK241.out 1))
  refine bodyPost_ret (results_cell_row rfl _ _ gb241 32 #[.int .i64 t243, .int .i64 t244] (0, 0) _ rfl (by refine blk_put (cs := #[.int .i64 t243, .int .i64 0]) ?_ 1 _ rfl; refine blk_put (cs := #[.int .i64 0, .int .i64 0]) ?_ 0 _ rfl; exact BK241.out) Tryd.underlying32 rfl (by kernel_rfl)) rfl ?_
  exact ⟨by rfl, by repeat ((with_reducible first | exact HB.out | refine below_set ?_ GE241.out))⟩

end Go.Proofs.YtgomlpndoolllaaDoor.Q
end

section
namespace Go.Proofs.YtgomlpndoolllaaDoor.Q
open Go.RowKit Go.Proofs.YtgomlpndoolllaaDoorW.PrintWords Go.Proofs.YtgomlpndoolllaaDoorW.PrintLast Go.Proofs.YtgomlpndoolllaaDoorW.PrintMore
attribute [local go_sem] max2_int min2_int max_two min_two max_three min_three max_four min_four   -- for this text's walks alone
set_option linter.unusedVariables false
set_option linter.unusedSimpArgs false

/-! ### cleanseref04_Edit: function 15 -/
mutual
def cleanseref04_Edit.l0 : Nat → ByteArray → ByteArray → List Int → Int → Option (Int)
 | 0, _, _, _, _ => none
 | k + 1, x0, x1, x5, x6 => if x6 ≤ (x1.size : Int) then (if 0 ≤ x6 then (if x6 < (x5.length : Int) then (cleanseref04_Edit.l0 k x0 x1 (x5.set (x6 : Int).toNat x6) (wrap64 (x6 + 1))) else (none)) else (none)) else (cleanseref04_Edit.l1 k x0 x1 x5 0)
def cleanseref04_Edit.l1 : Nat → ByteArray → ByteArray → List Int → Int → Option (Int)
 | 0, _, _, _, _ => none
 | k + 1, x0, x1, x5, x7 => if x7 < (x0.size : Int) then (if 0 ≤ (wrap64 ((x1.size : Int) + 1)) then (if (wrap64 ((x1.size : Int) + 1) : Int).toNat ≤ 35184372088832 then ((some (List.replicate (wrap64 ((x1.size : Int) + 1) : Int).toNat 0 : List Int)).bind fun y250 => (if 0 < (y250.length : Int) then (cleanseref04_Edit.l2 k x0 x1 x5 x7 (y250.set (0 : Int).toNat (wrap64 (x7 + 1))) 0) else (none))) else (none)) else (none)) else (if 0 ≤ (x1.size : Int) then (if (x1.size : Int) < (x5.length : Int) then (some (rd x5 (x1.size : Int))) else (none)) else (none))
def cleanseref04_Edit.l2 : Nat → ByteArray → ByteArray → List Int → Int → List Int → Int → Option (Int)
 | 0, _, _, _, _, _, _ => none
 | k + 1, x0, x1, x5, x7, x8, x9 => if x9 < (x1.size : Int) then (if 0 ≤ x9 then (if x9 < (x5.length : Int) then (if 0 ≤ x7 then (if x7 < (x0.size : Int) then (if (bt x0 x7) = (bt x1 x9) then (if 0 ≤ (wrap64 (x9 + 1)) then (if (wrap64 (x9 + 1)) < (x5.length : Int) then (if x9 < (x8.length : Int) then (if (wrap64 (x9 + 1)) < (x8.length : Int) then (cleanseref04_Edit.l2 k x0 x1 x5 x7 (x8.set ((wrap64 (x9 + 1)) : Int).toNat (mn (mn (rd x5 x9) (wrap64 ((rd x5 (wrap64 (x9 + 1))) + 1))) (wrap64 ((rd x8 x9) + 1)))) (wrap64 (x9 + 1))) else (none)) else (none)) else (none)) else (none)) else (if 0 ≤ (wrap64 (x9 + 1)) then (if (wrap64 (x9 + 1)) < (x5.length : Int) then (if x9 < (x8.length : Int) then (if (wrap64 (x9 + 1)) < (x8.length : Int) then (cleanseref04_Edit.l2 k x0 x1 x5 x7 (x8.set ((wrap64 (x9 + 1)) : Int).toNat (mn (mn (wrap64 ((rd x5 x9) + 1)) (wrap64 ((rd x5 (wrap64 (x9 + 1))) + 1))) (wrap64 ((rd x8 x9) + 1)))) (wrap64 (x9 + 1))) else (none)) else (none)) else (none)) else (none))) else (none)) else (none)) else (none)) else (none)) else (cleanseref04_Edit.l1 k x0 x1 x8 (wrap64 (x7 + 1)))
end
def cleanseref04_Edit.f (k : Nat) (a0 : ByteArray) (a1 : ByteArray) : Option (Int) := if 0 ≤ (wrap64 ((a1.size : Int) + 1)) then (if (wrap64 ((a1.size : Int) + 1) : Int).toNat ≤ 35184372088832 then (cleanseref04_Edit.l0 k a0 a1 (List.replicate (wrap64 ((a1.size : Int) + 1) : Int).toNat 0) 0) else (none)) else (none)
def cleanseref04_Edit.T17 : Bool × List (List Nat × List Nat) := (true, [([], []), ([], []), ([1], [1]), ([], []), ([], []), ([], []), ([5], [5]), ([4, 6], [4, 6]), ([7], [7]), ([8], [8]), ([], []), ([], []), ([10, 11], [10, 11]), ([12], [12]), ([13], [13]), ([3, 9, 14], [3, 9, 14]), ([0, 2, 0, 1, 2, 3, 4, 5, 6, 7, 8, 9, 10, 11, 12, 13, 14, 15], [0, 2]), ([16, 15, 0, 1, 2, 3, 4, 5, 6, 7, 8, 9, 10, 11, 12, 13, 14, 15], [15, 16])])
def cleanseref04_Edit.B17 : List Nat := [0, 0, 2, 0, 0, 0, 32, 112, 240, 496, 0, 0, 3072, 7168, 15360, 32760, 65535, 131071]
theorem cleanseref04_Edit.tab17 : rtab .any (opsOf Tryd.f15 17) = cleanseref04_Edit.T17 := by kernel_rfl
theorem cleanseref04_Edit.bits17 : waitsOk cleanseref04_Edit.T17.2 cleanseref04_Edit.B17 = true := by kernel_rfl
set_option maxHeartbeats 8000000 in
set_option maxRecDepth 100000 in
theorem cleanseref04_Edit.calls (k : Nat) (a0 : ByteArray) (a1 : ByteArray) (r : Int) (w : World) (h : cleanseref04_Edit.f k a0 a1 = some r) :
  Calls Tryd.prog 15 #[.string a0, .string a1] w fun e w' => e = .returned (.int .i64 r) ∧ Below w.heap.size w w' := by
 have HB := Aside0.mk (Below.refl w.heap.size w)
 have H : (if 0 ≤ (wrap64 ((a1.size : Int) + 1)) then (if (wrap64 ((a1.size : Int) + 1) : Int).toNat ≤ 35184372088832 then (cleanseref04_Edit.l0 k a0 a1 (List.replicate (wrap64 ((a1.size : Int) + 1) : Int).toNat 0) 0) else (none)) else (none)) = some r := h
 clear h
 obtain ⟨ji3, hji3⟩ : ∃ j_ : Int, (wrap64 ((a1.size : Int) + 1)) = j_ := ⟨_, rfl⟩
 replace H : (if 0 ≤ (ji3) then (if (ji3 : Int).toNat ≤ 35184372088832 then (cleanseref04_Edit.l0 k a0 a1 (List.replicate (ji3 : Int).toNat 0) 0) else (none)) else (none)) = some r := by (rw [hji3] at H; exact H)
 have hji3w : (IntKind.i64.wrap ((a1.size : Int) + 1)) = ji3 := (i64_w _).trans hji3
 by_cases c4 : 0 ≤ (ji3)
 ·rw [if_pos c4] at H
  have c4b0 := eq_true c4
  have c4b1 : decide (0 ≤ (ji3)) = true := decide_eq_true c4
  clear c4
  by_cases c5 : (ji3 : Int).toNat ≤ 35184372088832
  ·rw [if_pos c5] at H
   have c5b0 := eq_true c5
   have c5b1 : decide ((ji3 : Int).toNat ≤ 35184372088832) = true := decide_eq_true c5
   clear c5
   obtain ⟨y245, hy245⟩ : ∃ y_ : List Int, y_ = (List.replicate (ji3 : Int).toNat 0) := ⟨_, rfl⟩
   replace H : (cleanseref04_Edit.l0 k a0 a1 y245 0) = some r := by (rw [hy245]; with_reducible exact H)
   have Ny245 := Aside0.mk hy245
   clear hy245
   have H' := Aside0.mk H
   clear H
   go_enter Tryd.func15, Tryd.ntmps15
   go_wp2_with (first | ((with_reducible refine gate_dst (N := 14) rfl ?_); refine Kd.R_make (Kd.int .i64) _ 3 rfl (N := 14) rfl 55 _ _ rfl ji3 rfl rfl Tryd.underlying55 (.int .i64 0) 8 info3 rfl (by decide) (by omega) 0 (ok := fun _ => True) (okp := fun _ => True) rfl (fun _ hk => hk) trivial (of_decide_eq_true (by (with_reducible assumption))) (Nat.le_trans (Nat.mul_le_mul_right _ (of_decide_eq_true (by (with_reducible assumption)) : ji3.toNat ≤ 35184372088832)) (by omega)) (Below.refl _ _) (Nat.le_refl _) ?_; intro v246 w6 ho7 hb hg_ hnew_; clear hg_ hnew_; ((rw [← Ny245.out] at ho7)); have n0_ := Aside0.mk (Kd.R_lower ho7 (below_size HB.out)); have n1_ := Aside0.mk (below_step HB.out hb); clear HB; have HO247 := n0_; have HB := n1_; clear n0_ n1_; clear hb ho7))
   go_loopg [6] k (fun kq v6 w' => ∃ (x5_1 : List Int) (x6_1 : Int), v6 = .int .i64 x6_1 ∧ Aside0 (cleanseref04_Edit.l0 kq a0 a1 x5_1 x6_1 = some r) ∧ Aside0 (kq ≤ k) ∧ Aside0 (Kd.R (Kd.int .i64) 3 w' w.heap.size (fun _ => True) v246 x5_1) ∧ Aside0 (Below w.heap.size w w'))
   case atStart => exact ⟨(y245), (0), (by rfl), H', ⟨Nat.le_refl _⟩, ⟨by exact HO247.out⟩, ⟨by repeat ((with_reducible (exact HB.out)))⟩⟩
   clear H'
   clear c4b0 c4b1
   clear c5b0 c5b1
   obtain ⟨x5_1, x6_1, rfl, HA, HK1, HO_5, HB⟩ := hrel
   cases gk with
   | zero => exact absurd HA.out (by simp [cleanseref04_Edit.l0])
   | succ k1 =>
    have H := HA.out
    clear HA
    simp only [cleanseref04_Edit.l0] at H
    by_cases c8 : x6_1 ≤ (a1.size : Int)
    ·rw [if_pos c8] at H
     have c8b0 : decide (x6_1 ≤ (a1.size : Int)) = true := decide_eq_true c8
     clear c8
     by_cases c9 : 0 ≤ x6_1
     ·rw [if_pos c9] at H
      have c9b0 : decide (0 ≤ x6_1) = true := decide_eq_true c9
      clear c9
      by_cases c10 : x6_1 < (x5_1.length : Int)
      ·rw [if_pos c10] at H
       have c10b0 : decide (x6_1 < (x5_1.length : Int)) = true := decide_eq_true c10
       clear c10
       obtain ⟨y248, hy248⟩ : ∃ y_ : List Int, y_ = (x5_1.set (x6_1 : Int).toNat x6_1) := ⟨_, rfl⟩
       replace H : (cleanseref04_Edit.l0 k1 a0 a1 y248 (wrap64 (x6_1 + 1))) = some r := by (rw [hy248]; with_reducible exact H)
       have Ny248 := Aside0.mk hy248
       clear hy248
       have H' := Aside0.mk H
       clear H
       have p11 : 0 ≤ (x6_1 : Int) := of_decide_eq_true (by (with_reducible assumption))
       have q11 : (x6_1 : Int) < ((x5_1.length : Int) : Int) := of_decide_eq_true (by (with_reducible assumption))
       obtain ⟨go11, co11, eo11, gb11, gl11, cl11, HG11⟩ := Kd.R_form HO_5.out (by omega)
       (cases eo11)
       have GB11 := Aside0.mk gb11
       have GG11 := Aside0.mk HG11
       clear gb11 gl11 HG11
       obtain ⟨hx11_0, hf11_0⟩ := Kd.R_celln 0 HO_5.out (x6_1 : Int) p11 q11
       replace p11 := eq_true p11
       replace q11 := eq_true q11
       have HP12 := Kd.R_putg HO_5.out (x6_1 : Int) x6_1
       go_wp2_with (first | ((with_reducible refine gate_store (t := 3) (p := 24) rfl ?_); refine store_event (t := 3) (p := 24) (v := ?vo_w13) (w1 := (wr.setCell ⟨go11, (x6_1 : Int).toNat, none⟩ (.int .i64 x6_1))) ?hg ?ho ?hn ?hr ?_; (case ho => rfl); (case hg => rfl); (case hn => rfl); (case hr => (go_simp; done)); intro w13 hw; have hg : wr.grownBy w13 (some go11) := (by rw [hw]; exact HP12.2); have hp_ : Kd.R (Kd.int .i64) 3 w13 w.heap.size (fun _ => True) (.slice (some ⟨go11, 0, none⟩) x5_1.length co11) y248 := (by rw [hw, Ny248.out]; exact HP12.1); clear HP12; have n0_ := Aside0.mk (hp_); have n1_ := Aside0.mk ((by rw [hw]; exact below_set (HB.out) GB11.out : Below w.heap.size w w13)); clear HO_5; clear HB; have HO_5 := n0_; have HB := n1_; clear n0_ n1_; clear hg hw hp_))
       go_roundg k1
       case measure => have := HK1.out; omega
       case rel => exact ⟨(y248), (wrap64 (x6_1 + 1)), (by rfl), H', ⟨by have := HK1.out; omega⟩, ⟨by exact HO_5.out⟩, ⟨by repeat ((with_reducible (exact HB.out)))⟩⟩
      rw [if_neg c10] at H
      exact absurd H (by simp)
     rw [if_neg c9] at H
     exact absurd H (by simp)
    rw [if_neg c8] at H
    have c8b0 : decide (x6_1 ≤ (a1.size : Int)) = false := decide_eq_false c8
    clear c8
    have H' := Aside0.mk H
    clear H
    go_wp2
    go_loopg [5, 7] k1 (fun kq v5 v7 w' => ∃ (x5_2 : List Int) (x7_2 : Int), v7 = .int .i64 x7_2 ∧ Aside0 (cleanseref04_Edit.l1 kq a0 a1 x5_2 x7_2 = some r) ∧ Aside0 (kq ≤ k1) ∧ Aside0 (Kd.R (Kd.int .i64) 3 w' w.heap.size (fun _ => True) v5 x5_2) ∧ Aside0 (Below w.heap.size w w'))
    case atStart => exact ⟨(x5_1), (0), (by rfl), H', ⟨Nat.le_refl _⟩, ⟨by exact HO_5.out⟩, ⟨by repeat ((with_reducible (exact HB.out)))⟩⟩
    clear H'
    clear c8b0
    obtain ⟨x5_2, x7_2, rfl, HA, HK2, HO_5, HB⟩ := hrel
    cases gk with
    | zero => exact absurd HA.out (by simp [cleanseref04_Edit.l1])
    | succ k2 =>
     have H := HA.out
     clear HA
     simp only [cleanseref04_Edit.l1] at H
     by_cases c14 : x7_2 < (a0.size : Int)
     ·rw [if_pos c14] at H
      have c14b0 : decide (x7_2 < (a0.size : Int)) = true := decide_eq_true c14
      clear c14
      replace H : (if 0 ≤ (ji3) then (if (ji3 : Int).toNat ≤ 35184372088832 then ((some (List.replicate (ji3 : Int).toNat 0 : List Int)).bind fun y250 => (if 0 < (y250.length : Int) then (cleanseref04_Edit.l2 k2 a0 a1 x5_2 x7_2 (y250.set (0 : Int).toNat (wrap64 (x7_2 + 1))) 0) else (none))) else (none)) else (none)) = some r := by (rw [hji3] at H; exact H)
      have hji3w : (IntKind.i64.wrap ((a1.size : Int) + 1)) = ji3 := (i64_w _).trans hji3
      by_cases c16 : 0 ≤ (ji3)
      ·rw [if_pos c16] at H
       have c16b0 := eq_true c16
       have c16b1 : decide (0 ≤ (ji3)) = true := decide_eq_true c16
       clear c16
       by_cases c17 : (ji3 : Int).toNat ≤ 35184372088832
       ·rw [if_pos c17] at H
        have c17b0 := eq_true c17
        have c17b1 : decide ((ji3 : Int).toNat ≤ 35184372088832) = true := decide_eq_true c17
        clear c17
        obtain ⟨y250, hy250⟩ : ∃ y_ : List Int, y_ = (List.replicate (ji3 : Int).toNat 0) := ⟨_, rfl⟩
        replace H : (if 0 < (y250.length : Int) then (cleanseref04_Edit.l2 k2 a0 a1 x5_2 x7_2 (y250.set (0 : Int).toNat (wrap64 (x7_2 + 1))) 0) else (none)) = some r := by (have H2_ := (Option.bind_some _ _).symm.trans H; rw [hy250]; with_reducible exact H2_)
        have Ny250 := Aside0.mk hy250
        clear hy250
        by_cases c18 : 0 < (y250.length : Int)
        ·rw [if_pos c18] at H
         have c18b0 : decide (0 < (y250.length : Int)) = true := decide_eq_true c18
         have c18b1 : decide (0 < y250.length) = true := decide_eq_true (by omega)
         clear c18
         obtain ⟨y253, hy253⟩ : ∃ y_ : List Int, y_ = (y250.set (0 : Int).toNat (wrap64 (x7_2 + 1))) := ⟨_, rfl⟩
         replace H : (cleanseref04_Edit.l2 k2 a0 a1 x5_2 x7_2 y253 0) = some r := by (rw [hy253]; with_reducible exact H)
         have Ny253 := Aside0.mk hy253
         clear hy253
         have H' := Aside0.mk H
         clear H
         go_wp2_with (first | ((with_reducible refine gate_dst (N := 34) rfl ?_); refine Kd.R_make (Kd.int .i64) _ 3 rfl (N := 34) rfl 55 _ _ rfl ji3 rfl rfl Tryd.underlying55 (.int .i64 0) 8 info3 rfl (by decide) (by omega) 0 (ok := fun _ => True) (okp := fun _ => True) rfl (fun _ hk => hk) trivial (of_decide_eq_true (by (with_reducible assumption))) (Nat.le_trans (Nat.mul_le_mul_right _ (of_decide_eq_true (by (with_reducible assumption)) : ji3.toNat ≤ 35184372088832)) (by omega)) (Below.refl _ _) (Nat.le_refl _) ?_; intro v251 w20 ho21 hb hg_ hnew_; clear hg_ hnew_; ((rw [← Ny250.out] at ho21)); have n0_ := Aside0.mk (Kd.R_elder' (by exact HO_5.out) (Kd.R_base ho21) hb); have n1_ := Aside0.mk (Kd.R_lower (Kd.R_new' ho21 (Kd.R_lt (by exact HO_5.out))) (below_size HB.out)); have n2_ := Aside0.mk (below_step HB.out hb); clear HO_5; clear HB; have HO_5 := n0_; have HO252 := n1_; have HB := n2_; clear n0_ n1_ n2_; clear hb ho21; have p19 : 0 ≤ (0 : Int) := (by omega); have q19 : (0 : Int) < ((y250.length : Int) : Int) := of_decide_eq_true (by (with_reducible assumption)); have qi19 : (0 < y250.length) = True := eq_true (by omega); obtain ⟨go19, co19, eo19, gb19, gl19, cl19, HG19⟩ := Kd.R_form HO252.out (by omega); (cases eo19); have GB19 := Aside0.mk gb19; have GG19 := Aside0.mk HG19; clear gb19 gl19 HG19; obtain ⟨hx19_0, hf19_0⟩ := Kd.R_celln 0 HO252.out (0 : Int) p19 q19; (try rw [show ((0 : Int)).toNat = 0 from rfl] at hx19_0); (try rw [show ((0 : Int)).toNat = 0 from rfl] at hf19_0); replace p19 := eq_true p19; replace q19 := eq_true q19; have n_ := Aside0.mk (Kd.R_mono (ok' := (fun k_ => some k_ ≠ (u5 : Value).ownBlock)) HO252.out (fun k_ hk => hk.2)); clear HO252; have HO252 := n_; clear n_; obtain ⟨hy22_, hz22_⟩ := Kd.R_celln 0 HO252.out (0 : Int) (by omega) (of_decide_eq_true (by (with_reducible assumption))); (try rw [show ((0 : Int)).toNat = 0 from rfl] at hy22_); (try rw [show ((0 : Int)).toNat = 0 from rfl] at hz22_); have HP22 := Kd.R_putg HO252.out (0 : Int) (wrap64 (x7_2 + 1))) | ((with_reducible refine gate_store (t := 3) (p := 38) rfl ?_); refine store_event (t := 3) (p := 38) (v := ?vo_w23) (w1 := (w20.setCell ⟨go19, (0 : Int).toNat, none⟩ (.int .i64 (wrap64 (x7_2 + 1))))) ?hg ?ho ?hn ?hr ?_; (case ho => rfl); (case hg => rfl); (case hn => rfl); (case hr => (go_simp; done)); intro w23 hw; have hg : w20.grownBy w23 (some go19) := (by rw [hw]; exact HP22.2); have hp_ : Kd.R (Kd.int .i64) 3 w23 w.heap.size (fun k_ => some k_ ≠ (u5 : Value).ownBlock) (.slice (some ⟨go19, 0, none⟩) y250.length co19) y253 := (by rw [hw, Ny253.out]; exact HP22.1); clear HP22; have n0_ := Aside0.mk (Kd.R_after (v := (.slice (some ⟨go19, 0, none⟩) y250.length co19)) (v1 := (.slice (some ⟨go19, 0, none⟩) y250.length co19)) (ok := (fun _ => True)) (by exact HO_5.out) hg (.inl rfl)); have n1_ := Aside0.mk (hp_); have n2_ := Aside0.mk ((by rw [hw]; exact below_set (HB.out) GB19.out : Below w.heap.size w w23)); clear HO_5; clear HO252; clear HB; have HO_5 := n0_; have HO252 := n1_; have HB := n2_; clear n0_ n1_ n2_; clear hg hw hp_))
         go_loopg [9] k2 (fun kq v9 w' => ∃ (x8_3 : List Int) (x9_3 : Int), v9 = .int .i64 x9_3 ∧ Aside0 (cleanseref04_Edit.l2 kq a0 a1 x5_2 x7_2 x8_3 x9_3 = some r) ∧ Aside0 (kq ≤ k2) ∧ Aside0 (Kd.R (Kd.int .i64) 3 w' w.heap.size (fun k_ => some k_ ≠ ((.slice (some ⟨go19, 0, none⟩) y250.length co19) : Value).ownBlock) u5 x5_2) ∧ Aside0 (Kd.R (Kd.int .i64) 3 w' w.heap.size (fun k_ => some k_ ≠ (u5 : Value).ownBlock) (.slice (some ⟨go19, 0, none⟩) y250.length co19) x8_3) ∧ Aside0 (Below w.heap.size w w'))
         case atStart => exact ⟨(y253), (0), (by rfl), H', ⟨Nat.le_refl _⟩, ⟨by exact Kd.R_mono HO_5.out (fun _ hk => hk.2)⟩, ⟨by exact HO252.out⟩, ⟨by repeat ((with_reducible (exact HB.out)))⟩⟩
         clear H'
         clear c14b0
         clear c16b0 c16b1
         clear c17b0 c17b1
         clear c18b0 c18b1 p19 q19
         clear qi19
         clear hx19_0
         obtain ⟨x8_3, x9_3, rfl, HA, HK3, HO_5, HO_8, HB⟩ := hrel
         have hl8_3 := (Kd.R_reads' HO_8.out).1
         rw [hl8_3] at HO_8
         (try simp only [hl8_3])
         (try simp only [hl8_3] at HO_5)
         cases gk with
         | zero => exact absurd HA.out (by simp [cleanseref04_Edit.l2])
         | succ k3 =>
          have H := HA.out
          clear HA
          simp only [cleanseref04_Edit.l2] at H
          by_cases c24 : x9_3 < (a1.size : Int)
          ·rw [if_pos c24] at H
           have c24b0 : decide (x9_3 < (a1.size : Int)) = true := decide_eq_true c24
           clear c24
           by_cases c25 : 0 ≤ x9_3
           ·rw [if_pos c25] at H
            have c25b0 : decide (0 ≤ x9_3) = true := decide_eq_true c25
            clear c25
            by_cases c26 : x9_3 < (x5_2.length : Int)
            ·rw [if_pos c26] at H
             have c26b0 : decide (x9_3 < (x5_2.length : Int)) = true := decide_eq_true c26
             clear c26
             by_cases c27 : 0 ≤ x7_2
             ·rw [if_pos c27] at H
              have c27b0 : decide (0 ≤ x7_2) = true := decide_eq_true c27
              clear c27
              by_cases c28 : x7_2 < (a0.size : Int)
              ·rw [if_pos c28] at H
               have c28b0 : decide (x7_2 < (a0.size : Int)) = true := decide_eq_true c28
               clear c28
               by_cases c31 : (bt a0 x7_2) = (bt a1 x9_3)
               ·rw [if_pos c31] at H
                have c31b0 : ((bt a0 x7_2) == (bt a1 x9_3)) = true := beq_iff_eq.mpr c31
                have c31b1 : ((bt a0 x7_2) != (bt a1 x9_3)) = false := bne_eq_false_iff_eq.mpr c31
                clear c31
                obtain ⟨ji32, hji32⟩ : ∃ j_ : Int, (wrap64 (x9_3 + 1)) = j_ := ⟨_, rfl⟩
                replace H : (if 0 ≤ (ji32) then (if (ji32) < (x5_2.length : Int) then (if x9_3 < (x8_3.length : Int) then (if (ji32) < (x8_3.length : Int) then (cleanseref04_Edit.l2 k3 a0 a1 x5_2 x7_2 (x8_3.set ((ji32) : Int).toNat (mn (mn (rd x5_2 x9_3) (wrap64 ((rd x5_2 (ji32)) + 1))) (wrap64 ((rd x8_3 x9_3) + 1)))) ji32) else (none)) else (none)) else (none)) else (none)) = some r := by (rw [hji32] at H; exact H)
                have hji32w : (IntKind.i64.wrap (x9_3 + 1)) = ji32 := (i64_w _).trans hji32
                by_cases c33 : 0 ≤ (ji32)
                ·rw [if_pos c33] at H
                 have c33b0 : decide (0 ≤ (ji32)) = true := decide_eq_true c33
                 clear c33
                 by_cases c34 : (ji32) < (x5_2.length : Int)
                 ·rw [if_pos c34] at H
                  have c34b0 : decide ((ji32) < (x5_2.length : Int)) = true := decide_eq_true c34
                  clear c34
                  by_cases c35 : x9_3 < (x8_3.length : Int)
                  ·rw [if_pos c35] at H
                   have c35b0 : decide (x9_3 < (x8_3.length : Int)) = true := decide_eq_true c35
                   clear c35
                   obtain ⟨ji36, hji36⟩ : ∃ j_ : Int, (mn (rd x5_2 x9_3) (wrap64 ((rd x5_2 (ji32)) + 1))) = j_ := ⟨_, rfl⟩
                   replace H : (if (ji32) < (x8_3.length : Int) then (cleanseref04_Edit.l2 k3 a0 a1 x5_2 x7_2 (x8_3.set ((ji32) : Int).toNat (mn (ji36) (wrap64 ((rd x8_3 x9_3) + 1)))) ji32) else (none)) = some r := by (rw [hji36] at H; exact H)
                   have hji36_ : (if (wrap64 ((rd x5_2 (ji32)) + 1)) < (rd x5_2 x9_3) then (wrap64 ((rd x5_2 (ji32)) + 1)) else (rd x5_2 x9_3)) = ji36 := hji36
                   obtain ⟨ji37, hji37⟩ : ∃ j_ : Int, (mn (ji36) (wrap64 ((rd x8_3 x9_3) + 1))) = j_ := ⟨_, rfl⟩
                   replace H : (if (ji32) < (x8_3.length : Int) then (cleanseref04_Edit.l2 k3 a0 a1 x5_2 x7_2 (x8_3.set ((ji32) : Int).toNat (ji37)) ji32) else (none)) = some r := by (rw [hji37] at H; exact H)
                   have hji37_ : (if (wrap64 ((rd x8_3 x9_3) + 1)) < (ji36) then (wrap64 ((rd x8_3 x9_3) + 1)) else (ji36)) = ji37 := hji37
                   by_cases c38 : (ji32) < (x8_3.length : Int)
                   ·rw [if_pos c38] at H
                    have c38b0 : decide ((ji32) < (x8_3.length : Int)) = true := decide_eq_true c38
                    clear c38
                    obtain ⟨y257, hy257⟩ : ∃ y_ : List Int, y_ = (x8_3.set ((ji32) : Int).toNat (ji37)) := ⟨_, rfl⟩
                    replace H : (cleanseref04_Edit.l2 k3 a0 a1 x5_2 x7_2 y257 ji32) = some r := by (rw [hy257]; with_reducible exact H)
                    have Ny257 := Aside0.mk hy257
                    clear hy257
                    have H' := Aside0.mk H
                    clear H
                    obtain ⟨Ao40, co40, eo40⟩ := Kd.R_slice HO_5.out
                    subst eo40
                    have p254 : 0 ≤ (x9_3 : Int) := of_decide_eq_true (by (with_reducible assumption))
                    have q254 : x9_3 < (x5_2.length : Int) := of_decide_eq_true (by (with_reducible assumption))
                    obtain ⟨ad254, e254, hx254_0⟩ := Kd.at_int (Kd.R_reads' HO_5.out).2.2 x9_3 p254 q254
                    cases e254
                    replace p254 := eq_true p254
                    replace q254 := eq_true q254
                    try go_wp2
                    have n0_ := Aside0.mk (Kd.R_drew HO_5.out)
                    have n1_ := Aside0.mk (Kd.R_drew HO_8.out)
                    have n2_ := Aside0.mk (below_drew1 HB.out)
                    clear HO_5
                    clear HO_8
                    clear HB
                    have HO_5 := n0_
                    have HO_8 := n1_
                    have HB := n2_
                    clear n0_ n1_ n2_
                    have p29 : 0 ≤ (x7_2 : Int) := of_decide_eq_true (by (with_reducible assumption))
                    have q29 : x7_2 < (a0.size : Int) := of_decide_eq_true (by (with_reducible assumption))
                    have hx29 := bt_at a0 x7_2
                    replace p29 := eq_true p29
                    replace q29 := eq_true q29
                    have p30 : 0 ≤ (x9_3 : Int) := of_decide_eq_true (by (with_reducible assumption))
                    have q30 : x9_3 < (a1.size : Int) := of_decide_eq_true (by (with_reducible assumption))
                    have hx30 := bt_at a1 x9_3
                    replace p30 := eq_true p30
                    replace q30 := eq_true q30
                    refine start_ (n := 7) (S := fun w' => True) (ds := []) #[false, false, false, false, false, false, false] (by kernel_rfl) rfl rfl trivial (fun hHeld => ?_)
                    generalize wr.drew = w41 at HO_5 HO_8 HB hHeld ⊢
                    refine pure_ (i := 0) (N := some 49) (v := ?_) (a' := ?_) #[true, false, false, false, false, false, false] rfl rfl (by kernel_rfl) (fun _ _ _ h => h) (Or.inl ⟨by rfl, ?_⟩) ?_ ?_
                    rotate_left
                    ·intro w'
                     go_simp
                     with_reducible rfl
                    rotate_left
                    ·simp only [Act.put, pS_, pZ_, pC_, i64_w, i32_w]
                     rfl
                    refine pure_ (i := 1) (N := some 50) (v := ?_) (a' := ?_) #[true, true, false, false, false, false, false] rfl rfl (by kernel_rfl) (fun _ _ _ h => h) (Or.inl ⟨by rfl, ?_⟩) ?_ ?_
                    rotate_left
                    ·intro w'
                     go_simp
                     with_reducible rfl
                    rotate_left
                    ·simp only [Act.put, pS_, pZ_, pC_, i64_w, i32_w]
                     rfl
                    refine pure_ (i := 3) (N := some 52) (v := ?_) (a' := ?_) #[true, true, false, true, false, false, false] rfl rfl (by kernel_rfl) (fun _ _ _ h => h) (Or.inl ⟨by rfl, ?_⟩) ?_ ?_
                    rotate_left
                    ·intro w'
                     go_simp
                     with_reducible rfl
                    rotate_left
                    ·simp only [Act.put, pS_, pZ_, pC_, i64_w, i32_w]
                     rfl
                    refine pure_ (i := 4) (N := some 53) (v := ?_) (a' := ?_) #[true, true, false, true, true, false, false] rfl rfl (by kernel_rfl) (fun _ _ _ h => h) (Or.inl ⟨by rfl, ?_⟩) ?_ ?_
                    rotate_left
                    ·intro w'
                     go_simp
                     with_reducible rfl
                    rotate_left
                    ·simp only [Act.put, pS_, pZ_, pC_, i64_w, i32_w]
                     rfl
                    refine take_ (i := 2) (N := some 51) (v := ?_) (a' := ?_) #[true, true, true, true, true, false, false] rfl rfl (by kernel_rfl) (fun _ _ _ h => h) (Or.inl ⟨by rfl, ?_⟩) hHeld ?_ ?_
                    rotate_left
                    ·intro w' _
                     go_simp
                     with_reducible rfl
                    rotate_left
                    ·simp only [Act.put, pS_, pZ_, pC_, i64_w, i32_w]
                     rfl
                    refine take_ (i := 5) (N := some 54) (v := ?_) (a' := ?_) #[true, true, true, true, true, true, false] rfl rfl (by kernel_rfl) (fun _ _ _ h => h) (Or.inl ⟨by rfl, ?_⟩) hHeld ?_ ?_
                    rotate_left
                    ·intro w' _
                     go_simp
                     with_reducible rfl
                    rotate_left
                    ·simp only [Act.put, pS_, pZ_, pC_, i64_w, i32_w]
                     rfl
                    refine pure_ (i := 6) (N := some 55) (v := ?_) (a' := ?_) #[true, true, true, true, true, true, true] rfl rfl (by kernel_rfl) (fun _ _ _ h => h) (Or.inl ⟨by rfl, ?_⟩) ?_ ?_
                    rotate_left
                    ·intro w'
                     go_simp
                     with_reducible rfl
                    rotate_left
                    ·simp only [Act.put, pS_, pZ_, pC_, i64_w, i32_w]
                     rfl
                    refine done_ (by kernel_rfl) ?_
                    try go_wp2
                    have n0_ := Aside0.mk (Kd.R_drew HO_5.out)
                    have n1_ := Aside0.mk (Kd.R_drew HO_8.out)
                    have n2_ := Aside0.mk (below_drew1 HB.out)
                    clear HO_5
                    clear HO_8
                    clear HB
                    have HO_5 := n0_
                    have HO_8 := n1_
                    have HB := n2_
                    clear n0_ n1_ n2_
                    have p255 : 0 ≤ ((ji32) : Int) := of_decide_eq_true (by (with_reducible assumption))
                    have q255 : (ji32) < (x5_2.length : Int) := of_decide_eq_true (by (with_reducible assumption))
                    obtain ⟨ad255, e255, hx255_0⟩ := Kd.at_int (Kd.R_reads' HO_5.out).2.2 (ji32) p255 q255
                    obtain rfl : ad254 = ad255 := (by injection e255)
                    replace p255 := eq_true p255
                    replace q255 := eq_true q255
                    have p256 : 0 ≤ (x9_3 : Int) := of_decide_eq_true (by (with_reducible assumption))
                    have q256 : x9_3 < (x8_3.length : Int) := of_decide_eq_true (by (with_reducible assumption))
                    obtain ⟨ad256, e256, hx256_0⟩ := Kd.at_int (Kd.R_reads' HO_8.out).2.2 x9_3 p256 q256
                    obtain rfl : (⟨go19, 0, none⟩ : Addr) = ad256 := (by injection e256)
                    ((simp only [add_plain] at hx256_0))
                    replace p256 := eq_true p256
                    replace q256 := eq_true q256
                    have p39 : 0 ≤ ((ji32) : Int) := of_decide_eq_true (by (with_reducible assumption))
                    have q39 : ((ji32) : Int) < ((x8_3.length : Int) : Int) := of_decide_eq_true (by (with_reducible assumption))
                    obtain ⟨hx39_0, hf39_0⟩ := Kd.R_celln 0 HO_8.out ((ji32) : Int) p39 q39
                    replace p39 := eq_true p39
                    replace q39 := eq_true q39
                    have HP43 := Kd.R_putn HO_8.out ((ji32) : Int) ji37
                    rw [← Ny257.out] at HP43
                    have HQ43 := Aside0.mk HP43
                    clear HP43
                    refine start_ (n := 18) (S := fun w' => w'.cell? (ad254.add (ji32).toNat) = some (.int .i64 (rd x5_2 (ji32))) ∧ w'.cell? ⟨go19, (x9_3).toNat, none⟩ = some (.int .i64 (rd x8_3 x9_3))) (ds := [17]) #[false, false, false, false, false, false, false, false, false, false, false, false, false, false, false, false, false, false] (by kernel_rfl) rfl rfl ⟨hx255_0, hx256_0⟩ (fun hHeld => ?_); refine with_tabW cleanseref04_Edit.tab17 cleanseref04_Edit.bits17 (fun HT_ HW_ => ?_)
                    generalize w41.drew = w42 at HO_5 HO_8 HB HQ43 hf39_0 hx255_0 hx256_0 hx39_0 hHeld ⊢
                    refine pure_ (i := 0) (N := some 58) (v := ?_) (a' := ?_) #[true, false, false, false, false, false, false, false, false, false, false, false, false, false, false, false, false, false] rfl rfl (any_of HT_.out (by kernel_rfl)) (fun _ _ _ h => h) (Or.inl ⟨by rfl, ?_⟩) ?_ ?_
                    rotate_left
                    ·intro w'
                     go_simp
                     with_reducible rfl
                    rotate_left
                    ·simp only [Act.put, pS_, pZ_, pC_, i64_w, i32_w]
                     rfl
                    refine pure_ (i := 1) (N := some 59) (v := ?_) (a' := ?_) #[true, true, false, false, false, false, false, false, false, false, false, false, false, false, false, false, false, false] rfl rfl (any_of HT_.out (by kernel_rfl)) (fun _ _ _ h => h) (Or.inl ⟨by rfl, ?_⟩) ?_ ?_
                    rotate_left
                    ·intro w'
                     go_simp
                     with_reducible rfl
                    rotate_left
                    ·simp only [Act.put, pS_, pZ_, pC_, i64_w, i32_w]
                     rfl
                    refine pure_ (i := 2) (N := some 60) (v := ?_) (a' := ?_) #[true, true, true, false, false, false, false, false, false, false, false, false, false, false, false, false, false, false] rfl rfl (any_of HT_.out (by kernel_rfl)) (fun _ _ _ h => h) (Or.inl ⟨by rfl, ?_⟩) ?_ ?_
                    rotate_left
                    ·intro w'
                     go_simp
                     with_reducible rfl
                    rotate_left
                    ·simp only [Act.put, pS_, pZ_, pC_, i64_w, i32_w]
                     rfl
                    refine pure_ (i := 3) (N := some 61) (v := ?_) (a' := ?_) #[true, true, true, true, false, false, false, false, false, false, false, false, false, false, false, false, false, false] rfl rfl (any_of HT_.out (by kernel_rfl)) (fun _ _ _ h => h) (Or.inl ⟨by rfl, ?_⟩) ?_ ?_
                    rotate_left
                    ·intro w'
                     go_simp
                     with_reducible rfl
                    rotate_left
                    ·simp only [Act.put, pS_, pZ_, pC_, i64_w, i32_w]
                     rfl
                    refine pure_ (i := 4) (N := some 62) (v := ?_) (a' := ?_) #[true, true, true, true, true, false, false, false, false, false, false, false, false, false, false, false, false, false] rfl rfl (any_of HT_.out (by kernel_rfl)) (fun _ _ _ h => h) (Or.inl ⟨by rfl, ?_⟩) ?_ ?_
                    rotate_left
                    ·intro w'
                     go_simp
                     with_reducible rfl
                    rotate_left
                    ·simp only [Act.put, pS_, pZ_, pC_, i64_w, i32_w]
                     rfl
                    refine pure_ (i := 5) (N := some 63) (v := ?_) (a' := ?_) #[true, true, true, true, true, true, false, false, false, false, false, false, false, false, false, false, false, false] rfl rfl (any_of HT_.out (by kernel_rfl)) (fun _ _ _ h => h) (Or.inl ⟨by rfl, ?_⟩) ?_ ?_
                    rotate_left
                    ·intro w'
                     go_simp
                     with_reducible rfl
                    rotate_left
                    ·simp only [Act.put, pS_, pZ_, pC_, i64_w, i32_w]
                     rfl
                    refine pure_ (i := 6) (N := some 64) (v := ?_) (a' := ?_) #[true, true, true, true, true, true, true, false, false, false, false, false, false, false, false, false, false, false] rfl rfl (any_of HT_.out (by kernel_rfl)) (fun _ _ _ h => h) (Or.inl ⟨by rfl, ?_⟩) ?_ ?_
                    rotate_left
                    ·intro w'
                     go_simp
                     with_reducible rfl
                    rotate_left
                    ·simp only [Act.put, pS_, pZ_, pC_, i64_w, i32_w]
                     rfl
                    refine pure_ (i := 7) (N := some 65) (v := ?_) (a' := ?_) #[true, true, true, true, true, true, true, true, false, false, false, false, false, false, false, false, false, false] rfl rfl (any_of HT_.out (by kernel_rfl)) (fun _ _ _ h => h) (Or.inl ⟨by rfl, ?_⟩) ?_ ?_
                    rotate_left
                    ·intro w'
                     go_simp
                     with_reducible rfl
                    rotate_left
                    ·simp only [Act.put, pS_, pZ_, pC_, i64_w, i32_w]
                     rfl
                    refine pure_ (i := 10) (N := some 68) (v := ?_) (a' := ?_) #[true, true, true, true, true, true, true, true, false, false, true, false, false, false, false, false, false, false] rfl rfl (any_of HT_.out (by kernel_rfl)) (fun _ _ _ h => h) (Or.inl ⟨by rfl, ?_⟩) ?_ ?_
                    rotate_left
                    ·intro w'
                     go_simp
                     with_reducible rfl
                    rotate_left
                    ·simp only [Act.put, pS_, pZ_, pC_, i64_w, i32_w]
                     rfl
                    refine pure_ (i := 11) (N := some 69) (v := ?_) (a' := ?_) #[true, true, true, true, true, true, true, true, false, false, true, true, false, false, false, false, false, false] rfl rfl (any_of HT_.out (by kernel_rfl)) (fun _ _ _ h => h) (Or.inl ⟨by rfl, ?_⟩) ?_ ?_
                    rotate_left
                    ·intro w'
                     go_simp
                     with_reducible rfl
                    rotate_left
                    ·simp only [Act.put, pS_, pZ_, pC_, i64_w, i32_w]
                     rfl
                    refine pure_ (i := 12) (N := some 70) (v := ?_) (a' := ?_) #[true, true, true, true, true, true, true, true, false, false, true, true, true, false, false, false, false, false] rfl rfl (any_of HT_.out (by kernel_rfl)) (fun _ _ _ h => h) (Or.inl ⟨by rfl, ?_⟩) ?_ ?_
                    rotate_left
                    ·intro w'
                     go_simp
                     with_reducible rfl
                    rotate_left
                    ·simp only [Act.put, pS_, pZ_, pC_, i64_w, i32_w]
                     rfl
                    refine take_ (i := 8) (N := some 66) (v := ?_) (a' := ?_) #[true, true, true, true, true, true, true, true, true, false, true, true, true, false, false, false, false, false] rfl rfl (take_ofW HT_.out HW_.out (by kernel_rfl)) (fun _ _ _ h => h) (Or.inl ⟨by rfl, ?_⟩) hHeld ?_ ?_
                    rotate_left
                    ·rintro w' ⟨s0, s1⟩
                     go_simp
                     with_reducible rfl
                    rotate_left
                    ·simp only [Act.put, pS_, pZ_, pC_, i64_w, i32_w]
                     rfl
                    refine pure_ (i := 9) (N := some 67) (v := ?_) (a' := ?_) #[true, true, true, true, true, true, true, true, true, true, true, true, true, false, false, false, false, false] rfl rfl (any_of HT_.out (by kernel_rfl)) (fun _ _ _ h => h) (Or.inl ⟨by rfl, ?_⟩) ?_ ?_
                    rotate_left
                    ·intro w'
                     go_simp
                     with_reducible rfl
                    rotate_left
                    ·simp only [Act.put, pS_, pZ_, pC_, i64_w, i32_w]
                     rfl
                    refine take_ (i := 13) (N := some 71) (v := ?_) (a' := ?_) #[true, true, true, true, true, true, true, true, true, true, true, true, true, true, false, false, false, false] rfl rfl (take_ofW HT_.out HW_.out (by kernel_rfl)) (fun _ _ _ h => h) (Or.inl ⟨by rfl, ?_⟩) hHeld ?_ ?_
                    rotate_left
                    ·rintro w' ⟨s0, s1⟩
                     go_simp
                     with_reducible rfl
                    rotate_left
                    ·simp only [Act.put, pS_, pZ_, pC_, i64_w, i32_w]
                     rfl
                    refine pure_ (i := 14) (N := some 72) (v := ?_) (a' := ?_) #[true, true, true, true, true, true, true, true, true, true, true, true, true, true, true, false, false, false] rfl rfl (any_of HT_.out (by kernel_rfl)) (fun _ _ _ h => h) (Or.inl ⟨by rfl, ?_⟩) ?_ ?_
                    rotate_left
                    ·intro w'
                     go_simp
                     with_reducible rfl
                    rotate_left
                    ·simp only [Act.put, pS_, pZ_, pC_, i64_w, i32_w]
                     rfl
                    refine pure_ (i := 15) (N := some 73) (v := ?_) (a' := ?_) #[true, true, true, true, true, true, true, true, true, true, true, true, true, true, true, true, false, false] rfl rfl (any_of HT_.out (by kernel_rfl)) (fun _ _ _ h => h) (Or.inl ⟨by rfl, ?_⟩) ?_ ?_
                    rotate_left
                    ·intro w'
                     go_simp
                     with_reducible rfl
                    rotate_left
                    ·simp only [Act.put, pS_, pZ_, pC_, i64_w, i32_w]
                     rfl
                    refine pure_ (i := 16) (N := some 74) (v := ?_) (a' := ?_) #[true, true, true, true, true, true, true, true, true, true, true, true, true, true, true, true, true, false] rfl rfl (any_of HT_.out (by kernel_rfl)) (fun _ _ _ h => h) (Or.inl ⟨by rfl, ?_⟩) ?_ ?_
                    rotate_left
                    ·intro w'
                     go_simp
                     with_reducible rfl
                    rotate_left
                    ·simp only [Act.put, pS_, pZ_, pC_, i64_w, i32_w]
                     rfl
                    refine last_ (i := 17) (N := none) #[true, true, true, true, true, true, true, true, true, true, true, true, true, true, true, true, true, true] rfl rfl (one_of HT_.out (by kernel_rfl)) (by decide) (fun K hK => ?_)
                    refine skip_ (w1 := ?_) (by rfl) rfl ?_ ?_
                    rotate_left
                    ·go_simp
                     rfl
                    refine hK.out _ _ ?_
                    clear hK K
                    refine done_ (done_of HT_.out (by kernel_rfl)) ?_
                    try go_wp2
                    (try simp only [← hl8_3])
                    go_roundg k3
                    case measure => have := HK1.out; have := HK2.out; have := HK3.out; omega
                    case rel => exact ⟨(y257), (ji32), (by rfl), H', ⟨by have := HK1.out; have := HK2.out; have := HK3.out; omega⟩, ⟨by (try simp only [hl8_3]); exact Kd.R_mono (Kd.R_far (p := ⟨go19, ((ji32) : Int).toNat, none⟩) (Kd.R_mono HO_5.out (fun k_ hk => (⟨hk, fun e_ => hk (by rw [e_]; rfl)⟩ : _ ∧ k_ ≠ go19))) (fun _ hk => hk.2) (.int .i64 ji37)) (fun _ hk => hk.1)⟩, ⟨by (try simp only [hl8_3]); exact HQ43.out⟩, ⟨by repeat ((with_reducible first | exact HB.out | refine below_set ?_ GB19.out))⟩⟩
                   rw [if_neg c38] at H
                   exact absurd H (by simp)
                  rw [if_neg c35] at H
                  exact absurd H (by simp)
                 rw [if_neg c34] at H
                 exact absurd H (by simp)
                rw [if_neg c33] at H
                exact absurd H (by simp)
               rw [if_neg c31] at H
               have c31b0 : ((bt a0 x7_2) == (bt a1 x9_3)) = false := beq_eq_false_iff_ne.mpr c31
               have c31b1 : ((bt a0 x7_2) != (bt a1 x9_3)) = true := bne_iff_ne.mpr c31
               obtain ⟨ji44, hji44⟩ : ∃ j_ : Int, (wrap64 (x9_3 + 1)) = j_ := ⟨_, rfl⟩
               replace H : (if 0 ≤ (ji44) then (if (ji44) < (x5_2.length : Int) then (if x9_3 < (x8_3.length : Int) then (if (ji44) < (x8_3.length : Int) then (cleanseref04_Edit.l2 k3 a0 a1 x5_2 x7_2 (x8_3.set ((ji44) : Int).toNat (mn (mn (wrap64 ((rd x5_2 x9_3) + 1)) (wrap64 ((rd x5_2 (ji44)) + 1))) (wrap64 ((rd x8_3 x9_3) + 1)))) ji44) else (none)) else (none)) else (none)) else (none)) = some r := by (rw [hji44] at H; exact H)
               have hji44w : (IntKind.i64.wrap (x9_3 + 1)) = ji44 := (i64_w _).trans hji44
               by_cases c45 : 0 ≤ (ji44)
               ·rw [if_pos c45] at H
                have c45b0 : decide (0 ≤ (ji44)) = true := decide_eq_true c45
                clear c45
                by_cases c46 : (ji44) < (x5_2.length : Int)
                ·rw [if_pos c46] at H
                 have c46b0 : decide ((ji44) < (x5_2.length : Int)) = true := decide_eq_true c46
                 clear c46
                 by_cases c47 : x9_3 < (x8_3.length : Int)
                 ·rw [if_pos c47] at H
                  have c47b0 : decide (x9_3 < (x8_3.length : Int)) = true := decide_eq_true c47
                  clear c47
                  obtain ⟨ji48, hji48⟩ : ∃ j_ : Int, (mn (wrap64 ((rd x5_2 x9_3) + 1)) (wrap64 ((rd x5_2 (ji44)) + 1))) = j_ := ⟨_, rfl⟩
                  replace H : (if (ji44) < (x8_3.length : Int) then (cleanseref04_Edit.l2 k3 a0 a1 x5_2 x7_2 (x8_3.set ((ji44) : Int).toNat (mn (ji48) (wrap64 ((rd x8_3 x9_3) + 1)))) ji44) else (none)) = some r := by (rw [hji48] at H; exact H)
                  have hji48_ : (if (wrap64 ((rd x5_2 (ji44)) + 1)) < (wrap64 ((rd x5_2 x9_3) + 1)) then (wrap64 ((rd x5_2 (ji44)) + 1)) else (wrap64 ((rd x5_2 x9_3) + 1))) = ji48 := hji48
                  obtain ⟨ji49, hji49⟩ : ∃ j_ : Int, (mn (ji48) (wrap64 ((rd x8_3 x9_3) + 1))) = j_ := ⟨_, rfl⟩
                  replace H : (if (ji44) < (x8_3.length : Int) then (cleanseref04_Edit.l2 k3 a0 a1 x5_2 x7_2 (x8_3.set ((ji44) : Int).toNat (ji49)) ji44) else (none)) = some r := by (rw [hji49] at H; exact H)
                  have hji49_ : (if (wrap64 ((rd x8_3 x9_3) + 1)) < (ji48) then (wrap64 ((rd x8_3 x9_3) + 1)) else (ji48)) = ji49 := hji49
                  by_cases c50 : (ji44) < (x8_3.length : Int)
                  ·rw [if_pos c50] at H
                   have c50b0 : decide ((ji44) < (x8_3.length : Int)) = true := decide_eq_true c50
                   clear c50
                   obtain ⟨y260, hy260⟩ : ∃ y_ : List Int, y_ = (x8_3.set ((ji44) : Int).toNat (ji49)) := ⟨_, rfl⟩
                   replace H : (cleanseref04_Edit.l2 k3 a0 a1 x5_2 x7_2 y260 ji44) = some r := by (rw [hy260]; with_reducible exact H)
                   have Ny260 := Aside0.mk hy260
                   clear hy260
                   have H' := Aside0.mk H
                   clear H
                   obtain ⟨Ao52, co52, eo52⟩ := Kd.R_slice HO_5.out
                   subst eo52
                   have p254 : 0 ≤ (x9_3 : Int) := of_decide_eq_true (by (with_reducible assumption))
                   have q254 : x9_3 < (x5_2.length : Int) := of_decide_eq_true (by (with_reducible assumption))
                   obtain ⟨ad254, e254, hx254_0⟩ := Kd.at_int (Kd.R_reads' HO_5.out).2.2 x9_3 p254 q254
                   cases e254
                   replace p254 := eq_true p254
                   replace q254 := eq_true q254
                   try go_wp2
                   have n0_ := Aside0.mk (Kd.R_drew HO_5.out)
                   have n1_ := Aside0.mk (Kd.R_drew HO_8.out)
                   have n2_ := Aside0.mk (below_drew1 HB.out)
                   clear HO_5
                   clear HO_8
                   clear HB
                   have HO_5 := n0_
                   have HO_8 := n1_
                   have HB := n2_
                   clear n0_ n1_ n2_
                   have p29 : 0 ≤ (x7_2 : Int) := of_decide_eq_true (by (with_reducible assumption))
                   have q29 : x7_2 < (a0.size : Int) := of_decide_eq_true (by (with_reducible assumption))
                   have hx29 := bt_at a0 x7_2
                   replace p29 := eq_true p29
                   replace q29 := eq_true q29
                   have p30 : 0 ≤ (x9_3 : Int) := of_decide_eq_true (by (with_reducible assumption))
                   have q30 : x9_3 < (a1.size : Int) := of_decide_eq_true (by (with_reducible assumption))
                   have hx30 := bt_at a1 x9_3
                   replace p30 := eq_true p30
                   replace q30 := eq_true q30
                   refine start_ (n := 7) (S := fun w' => True) (ds := []) #[false, false, false, false, false, false, false] (by kernel_rfl) rfl rfl trivial (fun hHeld => ?_)
                   generalize wr.drew = w53 at HO_5 HO_8 HB hHeld ⊢
                   refine pure_ (i := 0) (N := some 49) (v := ?_) (a' := ?_) #[true, false, false, false, false, false, false] rfl rfl (by kernel_rfl) (fun _ _ _ h => h) (Or.inl ⟨by rfl, ?_⟩) ?_ ?_
                   rotate_left
                   ·intro w'
                    go_simp
                    with_reducible rfl
                   rotate_left
                   ·simp only [Act.put, pS_, pZ_, pC_, i64_w, i32_w]
                    rfl
                   refine pure_ (i := 1) (N := some 50) (v := ?_) (a' := ?_) #[true, true, false, false, false, false, false] rfl rfl (by kernel_rfl) (fun _ _ _ h => h) (Or.inl ⟨by rfl, ?_⟩) ?_ ?_
                   rotate_left
                   ·intro w'
                    go_simp
                    with_reducible rfl
                   rotate_left
                   ·simp only [Act.put, pS_, pZ_, pC_, i64_w, i32_w]
                    rfl
                   refine pure_ (i := 3) (N := some 52) (v := ?_) (a' := ?_) #[true, true, false, true, false, false, false] rfl rfl (by kernel_rfl) (fun _ _ _ h => h) (Or.inl ⟨by rfl, ?_⟩) ?_ ?_
                   rotate_left
                   ·intro w'
                    go_simp
                    with_reducible rfl
                   rotate_left
                   ·simp only [Act.put, pS_, pZ_, pC_, i64_w, i32_w]
                    rfl
                   refine pure_ (i := 4) (N := some 53) (v := ?_) (a' := ?_) #[true, true, false, true, true, false, false] rfl rfl (by kernel_rfl) (fun _ _ _ h => h) (Or.inl ⟨by rfl, ?_⟩) ?_ ?_
                   rotate_left
                   ·intro w'
                    go_simp
                    with_reducible rfl
                   rotate_left
                   ·simp only [Act.put, pS_, pZ_, pC_, i64_w, i32_w]
                    rfl
                   refine take_ (i := 2) (N := some 51) (v := ?_) (a' := ?_) #[true, true, true, true, true, false, false] rfl rfl (by kernel_rfl) (fun _ _ _ h => h) (Or.inl ⟨by rfl, ?_⟩) hHeld ?_ ?_
                   rotate_left
                   ·intro w' _
                    go_simp
                    with_reducible rfl
                   rotate_left
                   ·simp only [Act.put, pS_, pZ_, pC_, i64_w, i32_w]
                    rfl
                   refine take_ (i := 5) (N := some 54) (v := ?_) (a' := ?_) #[true, true, true, true, true, true, false] rfl rfl (by kernel_rfl) (fun _ _ _ h => h) (Or.inl ⟨by rfl, ?_⟩) hHeld ?_ ?_
                   rotate_left
                   ·intro w' _
                    go_simp
                    with_reducible rfl
                   rotate_left
                   ·simp only [Act.put, pS_, pZ_, pC_, i64_w, i32_w]
                    rfl
                   refine pure_ (i := 6) (N := some 55) (v := ?_) (a' := ?_) #[true, true, true, true, true, true, true] rfl rfl (by kernel_rfl) (fun _ _ _ h => h) (Or.inl ⟨by rfl, ?_⟩) ?_ ?_
                   rotate_left
                   ·intro w'
                    go_simp
                    with_reducible rfl
                   rotate_left
                   ·simp only [Act.put, pS_, pZ_, pC_, i64_w, i32_w]
                    rfl
                   refine done_ (by kernel_rfl) ?_
                   try go_wp2
                   have n0_ := Aside0.mk (Kd.R_drew HO_5.out)
                   have n1_ := Aside0.mk (Kd.R_drew HO_8.out)
                   have n2_ := Aside0.mk (below_drew1 HB.out)
                   clear HO_5
                   clear HO_8
                   clear HB
                   have HO_5 := n0_
                   have HO_8 := n1_
                   have HB := n2_
                   clear n0_ n1_ n2_
                   have p258 : 0 ≤ ((ji44) : Int) := of_decide_eq_true (by (with_reducible assumption))
                   have q258 : (ji44) < (x5_2.length : Int) := of_decide_eq_true (by (with_reducible assumption))
                   obtain ⟨ad258, e258, hx258_0⟩ := Kd.at_int (Kd.R_reads' HO_5.out).2.2 (ji44) p258 q258
                   obtain rfl : ad254 = ad258 := (by injection e258)
                   replace p258 := eq_true p258
                   replace q258 := eq_true q258
                   have p259 : 0 ≤ (x9_3 : Int) := of_decide_eq_true (by (with_reducible assumption))
                   have q259 : x9_3 < (x8_3.length : Int) := of_decide_eq_true (by (with_reducible assumption))
                   obtain ⟨ad259, e259, hx259_0⟩ := Kd.at_int (Kd.R_reads' HO_8.out).2.2 x9_3 p259 q259
                   obtain rfl : (⟨go19, 0, none⟩ : Addr) = ad259 := (by injection e259)
                   ((simp only [add_plain] at hx259_0))
                   replace p259 := eq_true p259
                   replace q259 := eq_true q259
                   have p51 : 0 ≤ ((ji44) : Int) := of_decide_eq_true (by (with_reducible assumption))
                   have q51 : ((ji44) : Int) < ((x8_3.length : Int) : Int) := of_decide_eq_true (by (with_reducible assumption))
                   obtain ⟨hx51_0, hf51_0⟩ := Kd.R_celln 0 HO_8.out ((ji44) : Int) p51 q51
                   replace p51 := eq_true p51
                   replace q51 := eq_true q51
                   have HP55 := Kd.R_putn HO_8.out ((ji44) : Int) ji49
                   rw [← Ny260.out] at HP55
                   have HQ55 := Aside0.mk HP55
                   clear HP55
                   refine start_ (n := 18) (S := fun w' => w'.cell? (ad254.add (ji44).toNat) = some (.int .i64 (rd x5_2 (ji44))) ∧ w'.cell? ⟨go19, (x9_3).toNat, none⟩ = some (.int .i64 (rd x8_3 x9_3))) (ds := [17]) #[false, false, false, false, false, false, false, false, false, false, false, false, false, false, false, false, false, false] (by kernel_rfl) rfl rfl ⟨hx258_0, hx259_0⟩ (fun hHeld => ?_); refine with_tabW cleanseref04_Edit.tab17 cleanseref04_Edit.bits17 (fun HT_ HW_ => ?_)
                   generalize w53.drew = w54 at HO_5 HO_8 HB HQ55 hf51_0 hx258_0 hx259_0 hx51_0 hHeld ⊢
                   refine pure_ (i := 0) (N := some 58) (v := ?_) (a' := ?_) #[true, false, false, false, false, false, false, false, false, false, false, false, false, false, false, false, false, false] rfl rfl (any_of HT_.out (by kernel_rfl)) (fun _ _ _ h => h) (Or.inl ⟨by rfl, ?_⟩) ?_ ?_
                   rotate_left
                   ·intro w'
                    go_simp
                    with_reducible rfl
                   rotate_left
                   ·simp only [Act.put, pS_, pZ_, pC_, i64_w, i32_w]
                    rfl
                   refine pure_ (i := 1) (N := some 59) (v := ?_) (a' := ?_) #[true, true, false, false, false, false, false, false, false, false, false, false, false, false, false, false, false, false] rfl rfl (any_of HT_.out (by kernel_rfl)) (fun _ _ _ h => h) (Or.inl ⟨by rfl, ?_⟩) ?_ ?_
                   rotate_left
                   ·intro w'
                    go_simp
                    with_reducible rfl
                   rotate_left
                   ·simp only [Act.put, pS_, pZ_, pC_, i64_w, i32_w]
                    rfl
                   refine pure_ (i := 2) (N := some 60) (v := ?_) (a' := ?_) #[true, true, true, false, false, false, false, false, false, false, false, false, false, false, false, false, false, false] rfl rfl (any_of HT_.out (by kernel_rfl)) (fun _ _ _ h => h) (Or.inl ⟨by rfl, ?_⟩) ?_ ?_
                   rotate_left
                   ·intro w'
                    go_simp
                    with_reducible rfl
                   rotate_left
                   ·simp only [Act.put, pS_, pZ_, pC_, i64_w, i32_w]
                    rfl
                   refine pure_ (i := 3) (N := some 61) (v := ?_) (a' := ?_) #[true, true, true, true, false, false, false, false, false, false, false, false, false, false, false, false, false, false] rfl rfl (any_of HT_.out (by kernel_rfl)) (fun _ _ _ h => h) (Or.inl ⟨by rfl, ?_⟩) ?_ ?_
                   rotate_left
                   ·intro w'
                    go_simp
                    with_reducible rfl
                   rotate_left
                   ·simp only [Act.put, pS_, pZ_, pC_, i64_w, i32_w]
                    rfl
                   refine pure_ (i := 4) (N := some 62) (v := ?_) (a' := ?_) #[true, true, true, true, true, false, false, false, false, false, false, false, false, false, false, false, false, false] rfl rfl (any_of HT_.out (by kernel_rfl)) (fun _ _ _ h => h) (Or.inl ⟨by rfl, ?_⟩) ?_ ?_
                   rotate_left
                   ·intro w'
                    go_simp
                    with_reducible rfl
                   rotate_left
                   ·simp only [Act.put, pS_, pZ_, pC_, i64_w, i32_w]
                    rfl
                   refine pure_ (i := 5) (N := some 63) (v := ?_) (a' := ?_) #[true, true, true, true, true, true, false, false, false, false, false, false, false, false, false, false, false, false] rfl rfl (any_of HT_.out (by kernel_rfl)) (fun _ _ _ h => h) (Or.inl ⟨by rfl, ?_⟩) ?_ ?_
                   rotate_left
                   ·intro w'
                    go_simp
                    with_reducible rfl
                   rotate_left
                   ·simp only [Act.put, pS_, pZ_, pC_, i64_w, i32_w]
                    rfl
                   refine pure_ (i := 6) (N := some 64) (v := ?_) (a' := ?_) #[true, true, true, true, true, true, true, false, false, false, false, false, false, false, false, false, false, false] rfl rfl (any_of HT_.out (by kernel_rfl)) (fun _ _ _ h => h) (Or.inl ⟨by rfl, ?_⟩) ?_ ?_
                   rotate_left
                   ·intro w'
                    go_simp
                    with_reducible rfl
                   rotate_left
                   ·simp only [Act.put, pS_, pZ_, pC_, i64_w, i32_w]
                    rfl
                   refine pure_ (i := 7) (N := some 65) (v := ?_) (a' := ?_) #[true, true, true, true, true, true, true, true, false, false, false, false, false, false, false, false, false, false] rfl rfl (any_of HT_.out (by kernel_rfl)) (fun _ _ _ h => h) (Or.inl ⟨by rfl, ?_⟩) ?_ ?_
                   rotate_left
                   ·intro w'
                    go_simp
                    with_reducible rfl
                   rotate_left
                   ·simp only [Act.put, pS_, pZ_, pC_, i64_w, i32_w]
                    rfl
                   refine pure_ (i := 10) (N := some 68) (v := ?_) (a' := ?_) #[true, true, true, true, true, true, true, true, false, false, true, false, false, false, false, false, false, false] rfl rfl (any_of HT_.out (by kernel_rfl)) (fun _ _ _ h => h) (Or.inl ⟨by rfl, ?_⟩) ?_ ?_
                   rotate_left
                   ·intro w'
                    go_simp
                    with_reducible rfl
                   rotate_left
                   ·simp only [Act.put, pS_, pZ_, pC_, i64_w, i32_w]
                    rfl
                   refine pure_ (i := 11) (N := some 69) (v := ?_) (a' := ?_) #[true, true, true, true, true, true, true, true, false, false, true, true, false, false, false, false, false, false] rfl rfl (any_of HT_.out (by kernel_rfl)) (fun _ _ _ h => h) (Or.inl ⟨by rfl, ?_⟩) ?_ ?_
                   rotate_left
                   ·intro w'
                    go_simp
                    with_reducible rfl
                   rotate_left
                   ·simp only [Act.put, pS_, pZ_, pC_, i64_w, i32_w]
                    rfl
                   refine pure_ (i := 12) (N := some 70) (v := ?_) (a' := ?_) #[true, true, true, true, true, true, true, true, false, false, true, true, true, false, false, false, false, false] rfl rfl (any_of HT_.out (by kernel_rfl)) (fun _ _ _ h => h) (Or.inl ⟨by rfl, ?_⟩) ?_ ?_
                   rotate_left
                   ·intro w'
                    go_simp
                    with_reducible rfl
                   rotate_left
                   ·simp only [Act.put, pS_, pZ_, pC_, i64_w, i32_w]
                    rfl
                   refine take_ (i := 8) (N := some 66) (v := ?_) (a' := ?_) #[true, true, true, true, true, true, true, true, true, false, true, true, true, false, false, false, false, false] rfl rfl (take_ofW HT_.out HW_.out (by kernel_rfl)) (fun _ _ _ h => h) (Or.inl ⟨by rfl, ?_⟩) hHeld ?_ ?_
                   rotate_left
                   ·rintro w' ⟨s0, s1⟩
                    go_simp
                    with_reducible rfl
                   rotate_left
                   ·simp only [Act.put, pS_, pZ_, pC_, i64_w, i32_w]
                    rfl
                   refine pure_ (i := 9) (N := some 67) (v := ?_) (a' := ?_) #[true, true, true, true, true, true, true, true, true, true, true, true, true, false, false, false, false, false] rfl rfl (any_of HT_.out (by kernel_rfl)) (fun _ _ _ h => h) (Or.inl ⟨by rfl, ?_⟩) ?_ ?_
                   rotate_left
                   ·intro w'
                    go_simp
                    with_reducible rfl
                   rotate_left
                   ·simp only [Act.put, pS_, pZ_, pC_, i64_w, i32_w]
                    rfl
                   refine take_ (i := 13) (N := some 71) (v := ?_) (a' := ?_) #[true, true, true, true, true, true, true, true, true, true, true, true, true, true, false, false, false, false] rfl rfl (take_ofW HT_.out HW_.out (by kernel_rfl)) (fun _ _ _ h => h) (Or.inl ⟨by rfl, ?_⟩) hHeld ?_ ?_
                   rotate_left
                   ·rintro w' ⟨s0, s1⟩
                    go_simp
                    with_reducible rfl
                   rotate_left
                   ·simp only [Act.put, pS_, pZ_, pC_, i64_w, i32_w]
                    rfl
                   refine pure_ (i := 14) (N := some 72) (v := ?_) (a' := ?_) #[true, true, true, true, true, true, true, true, true, true, true, true, true, true, true, false, false, false] rfl rfl (any_of HT_.out (by kernel_rfl)) (fun _ _ _ h => h) (Or.inl ⟨by rfl, ?_⟩) ?_ ?_
                   rotate_left
                   ·intro w'
                    go_simp
                    with_reducible rfl
                   rotate_left
                   ·simp only [Act.put, pS_, pZ_, pC_, i64_w, i32_w]
                    rfl
                   refine pure_ (i := 15) (N := some 73) (v := ?_) (a' := ?_) #[true, true, true, true, true, true, true, true, true, true, true, true, true, true, true, true, false, false] rfl rfl (any_of HT_.out (by kernel_rfl)) (fun _ _ _ h => h) (Or.inl ⟨by rfl, ?_⟩) ?_ ?_
                   rotate_left
                   ·intro w'
                    go_simp
                    with_reducible rfl
                   rotate_left
                   ·simp only [Act.put, pS_, pZ_, pC_, i64_w, i32_w]
                    rfl
                   refine pure_ (i := 16) (N := some 74) (v := ?_) (a' := ?_) #[true, true, true, true, true, true, true, true, true, true, true, true, true, true, true, true, true, false] rfl rfl (any_of HT_.out (by kernel_rfl)) (fun _ _ _ h => h) (Or.inl ⟨by rfl, ?_⟩) ?_ ?_
                   rotate_left
                   ·intro w'
                    go_simp
                    with_reducible rfl
                   rotate_left
                   ·simp only [Act.put, pS_, pZ_, pC_, i64_w, i32_w]
                    rfl
                   refine last_ (i := 17) (N := none) #[true, true, true, true, true, true, true, true, true, true, true, true, true, true, true, true, true, true] rfl rfl (one_of HT_.out (by kernel_rfl)) (by decide) (fun K hK => ?_)
                   refine skip_ (w1 := ?_) (by rfl) rfl ?_ ?_
                   rotate_left
                   ·go_simp
                    rfl
                   refine hK.out _ _ ?_
                   clear hK K
                   refine done_ (done_of HT_.out (by kernel_rfl)) ?_
                   try go_wp2
                   (try simp only [← hl8_3])
                   go_roundg k3
                   case measure => have := HK1.out; have := HK2.out; have := HK3.out; omega
                   case rel => exact ⟨(y260), (ji44), (by rfl), H', ⟨by have := HK1.out; have := HK2.out; have := HK3.out; omega⟩, ⟨by (try simp only [hl8_3]); exact Kd.R_mono (Kd.R_far (p := ⟨go19, ((ji44) : Int).toNat, none⟩) (Kd.R_mono HO_5.out (fun k_ hk => (⟨hk, fun e_ => hk (by rw [e_]; rfl)⟩ : _ ∧ k_ ≠ go19))) (fun _ hk => hk.2) (.int .i64 ji49)) (fun _ hk => hk.1)⟩, ⟨by (try simp only [hl8_3]); exact HQ55.out⟩, ⟨by repeat ((with_reducible first | exact HB.out | refine below_set ?_ GB19.out))⟩⟩
                  rw [if_neg c50] at H
                  exact absurd H (by simp)
                 rw [if_neg c47] at H
                 exact absurd H (by simp)
                rw [if_neg c46] at H
                exact absurd H (by simp)
               rw [if_neg c45] at H
               exact absurd H (by simp)
              rw [if_neg c28] at H
              exact absurd H (by simp)
             rw [if_neg c27] at H
             exact absurd H (by simp)
            rw [if_neg c26] at H
            exact absurd H (by simp)
           rw [if_neg c25] at H
           exact absurd H (by simp)
          rw [if_neg c24] at H
          have c24b0 : decide (x9_3 < (a1.size : Int)) = false := decide_eq_false c24
          clear c24
          have H' := Aside0.mk H
          clear H
          go_wp2
          (try simp only [← hl8_3])
          go_roundg k3
          case measure => have := HK1.out; have := HK2.out; have := HK3.out; omega
          case rel => exact ⟨(x8_3), (wrap64 (x7_2 + 1)), (by rfl), H', ⟨by have := HK1.out; have := HK2.out; have := HK3.out; omega⟩, ⟨by (try simp only [hl8_3]); exact Kd.R_mono HO_8.out (fun _ hk => trivial)⟩, ⟨by repeat ((with_reducible (exact HB.out)))⟩⟩
        rw [if_neg c18] at H
        exact absurd H (by simp)
       rw [if_neg c17] at H
       exact absurd H (by simp)
      rw [if_neg c16] at H
      exact absurd H (by simp)
     rw [if_neg c14] at H
     have c14b0 : decide (x7_2 < (a0.size : Int)) = false := decide_eq_false c14
     clear c14
     by_cases c56 : 0 ≤ (a1.size : Int)
     ·rw [if_pos c56] at H
      have c56b0 : decide (0 ≤ (a1.size : Int)) = true := decide_eq_true c56
      have c56b1 : decide (0 ≤ a1.size) = true := decide_eq_true (by omega)
      clear c56
      by_cases c57 : (a1.size : Int) < (x5_2.length : Int)
      ·rw [if_pos c57] at H
       have c57b0 : decide ((a1.size : Int) < (x5_2.length : Int)) = true := decide_eq_true c57
       have c57b1 : decide (a1.size < x5_2.length) = true := decide_eq_true (Int.ofNat_lt.mp c57)
       clear c57
       obtain rfl := Option.some.inj H
       obtain ⟨Ao58, co58, eo58⟩ := Kd.R_slice HO_5.out
       subst eo58
       have p249 : 0 ≤ ((a1.size : Int) : Int) := of_decide_eq_true (by (with_reducible assumption))
       have q249 : (a1.size : Int) < (x5_2.length : Int) := of_decide_eq_true (by (with_reducible assumption))
       obtain ⟨ad249, e249, hx249_0⟩ := Kd.at_int (Kd.R_reads' HO_5.out).2.2 (a1.size : Int) p249 q249
       cases e249
       replace p249 := eq_true p249
       replace q249 := eq_true q249
       (try (have hx249_0n := hx249_0; simp only [Int.toNat_natCast] at hx249_0n)); (try (have q249_n := q249; simp only [Int.ofNat_lt] at q249_n))
       go_wp2
       go_ret
       exact ⟨by rfl, by repeat ((with_reducible (exact HB.out)))⟩
      rw [if_neg c57] at H
      exact absurd H (by simp)
     rw [if_neg c56] at H
     exact absurd H (by simp)
  rw [if_neg c5] at H
  exact absurd H (by simp)
 rw [if_neg c4] at H
 exact absurd H (by simp)

end Go.Proofs.YtgomlpndoolllaaDoor.Q
end

section
namespace Go.Proofs.YtgomlpndoolllaaDoor.Q
open Go.RowKit Go.Proofs.YtgomlpndoolllaaDoorW.PrintWords Go.Proofs.YtgomlpndoolllaaDoorW.PrintLast Go.Proofs.YtgomlpndoolllaaDoorW.PrintMore
attribute [local go_sem] max2_int min2_int max_two min_two max_three min_three max_four min_four   -- for this text's walks alone
set_option linter.unusedVariables false
set_option linter.unusedSimpArgs false

/-! ### cleanseref04_Alike: function 17 -/
def cleanseref04_Alike.f (k : Nat) (a0 : ByteArray) (a1 : ByteArray) : Option (Int × Int) := if (mx (a0.size : Int) (a1.size : Int)) = 0 then (some (1, 1)) else ((cleanseref04_Edit.f k a0 a1).bind fun t262 => ((cleanseref04_share.f k (wrap64 ((mx (a0.size : Int) (a1.size : Int)) - t262)) (mx (a0.size : Int) (a1.size : Int))).bind fun bt263 => (some (bt263.1, bt263.2))))
set_option maxHeartbeats 8000000 in
set_option maxRecDepth 100000 in
theorem cleanseref04_Alike.calls (k : Nat) (a0 : ByteArray) (a1 : ByteArray) (r1 : Int) (r2 : Int) (w : World) (h : cleanseref04_Alike.f k a0 a1 = some (r1, r2)) :
  Calls Tryd.prog 17 #[.string a0, .string a1] w fun e w' => e = .returned (.agg #[.int .i64 r1, .int .i64 r2]) ∧ Below w.heap.size w w' := by
 have hu32 := Tryd.underlying32
 have HB := Aside0.mk (Below.refl w.heap.size w)
 have H : (if (mx (a0.size : Int) (a1.size : Int)) = 0 then (some (1, 1)) else ((cleanseref04_Edit.f k a0 a1).bind fun t262 => ((cleanseref04_share.f k (wrap64 ((mx (a0.size : Int) (a1.size : Int)) - t262)) (mx (a0.size : Int) (a1.size : Int))).bind fun bt263 => (some (bt263.1, bt263.2))))) = some (r1, r2) := h
 clear h
 obtain ⟨ji3, hji3⟩ : ∃ j_ : Int, (mx (a0.size : Int) (a1.size : Int)) = j_ := ⟨_, rfl⟩
 replace H : (if (ji3) = 0 then (some (1, 1)) else ((cleanseref04_Edit.f k a0 a1).bind fun t262 => ((cleanseref04_share.f k (wrap64 ((ji3) - t262)) (ji3)).bind fun bt263 => (some (bt263.1, bt263.2))))) = some (r1, r2) := by (rw [hji3] at H; exact H)
 (try (have hji3l : 0 ≤ ji3 := by (rw [← hji3]; unfold mx; (repeat' split) <;> omega)))
 (try (have hji3m : 0 ≤ ji3 := by omega))
 have hji3_ : (if (a0.size : Int) < (a1.size : Int) then (a1.size : Int) else (a0.size : Int)) = ji3 := hji3
 (try (have hji3n_ := hji3_; simp only [Int.ofNat_lt] at hji3n_))
 by_cases c4 : (ji3) = 0
 ·rw [if_pos c4] at H
  have c4b0 : ((ji3) == 0) = true := beq_iff_eq.mpr c4
  have c4b1 : ((ji3) != 0) = false := bne_eq_false_iff_eq.mpr c4
  clear c4
  simp only [Option.some.injEq, Prod.mk.injEq] at H
  obtain ⟨rfl, rfl⟩ := H
  go_enter Tryd.func17, Tryd.ntmps17
  go_wp2_with (first | ((with_reducible refine gate_dst (N := 4) rfl ?_); refine box_event ?hg (N := 4) ?hd (cs := #[.int .i64 0, .int .i64 0]) (t := 32) ?hr ?_; (case hd => rfl); (case hg => rfl); (case hr => (go_simp; done)); intro gb261 hg w5 hbox hb; have n0_ := Aside0.mk (below_step HB.out hb); have n1_ := Aside0.mk (hbox); have n3_ := Aside0.mk ((by rw [hg]; exact (below_size HB.out) : w.heap.size ≤ gb261)); clear HB; have HB := n0_; have BK261 := n1_; have GE261 := n3_; clear n0_ n1_ n3_; clear hb hbox hg; have hcz6_0 := cel_ BK261.out 0 rfl; have hcz6_1 := cel_ BK261.out 1 rfl; have hfz6_0 := blk_frozen BK261.out 0; have hfz6_1 := blk_frozen BK261.out 1))
  refine bodyPost_ret (results_cell_row rfl _ _ gb261 32 #[.int .i64 1, .int .i64 1] (0, 0) _ rfl (by refine blk_put (cs := #[.int .i64 1, .int .i64 0]) ?_ 1 _ rfl; refine blk_put (cs := #[.int .i64 0, .int .i64 0]) ?_ 0 _ rfl; exact BK261.out) Tryd.underlying32 rfl (by kernel_rfl)) rfl ?_
  exact ⟨by rfl, by repeat ((with_reducible first | exact HB.out | refine below_set ?_ GE261.out))⟩
 rw [if_neg c4] at H
 have c4b0 : ((ji3) == 0) = false := beq_eq_false_iff_ne.mpr c4
 have c4b1 : ((ji3) != 0) = true := bne_iff_ne.mpr c4
 replace H := Option.bind_eq_some_iff.mp H
 obtain ⟨t262, A70, H⟩ := H
 replace H : ((cleanseref04_share.f k (wrap64 ((ji3) - t262)) (ji3)).bind fun bt263 => (some (bt263.1, bt263.2))) = some (r1, r2) := H
 have A7 := Aside0.mk A70
 clear A70
 replace H := Option.bind_eq_some_iff.mp H
 obtain ⟨⟨t263, t264⟩, A80, H⟩ := H
 replace H : (some (t263, t264)) = some (r1, r2) := H
 have A8 := Aside0.mk A80
 clear A80
 simp only [Option.some.injEq, Prod.mk.injEq] at H
 obtain ⟨rfl, rfl⟩ := H
 go_enter Tryd.func17, Tryd.ntmps17
 go_wp2_with (first | ((with_reducible refine gate_dst (N := 4) rfl ?_); refine box_event ?hg (N := 4) ?hd (cs := #[.int .i64 0, .int .i64 0]) (t := 32) ?hr ?_; (case hd => rfl); (case hg => rfl); (case hr => (go_simp; done)); intro gb261 hg w9 hbox hb; have n0_ := Aside0.mk (below_step HB.out hb); have n1_ := Aside0.mk (hbox); have n3_ := Aside0.mk ((by rw [hg]; exact (below_size HB.out) : w.heap.size ≤ gb261)); clear HB; have HB := n0_; have BK261 := n1_; have GE261 := n3_; clear n0_ n1_ n3_; clear hb hbox hg) | ((with_reducible refine gate_callee (f := 15) rfl ?_); refine goesL_ (some 17) rfl rfl Tryd.func15 (by kernel_rfl) rfl #[.string a0, .string a1] rfl (by (try simp only [List.map_toArray, List.map_cons, List.map_nil]); rfl) ?_; (with_reducible refine (cleanseref04_Edit.calls k a0 a1 t262 _ A7.out).mono ?_); rintro e w10 ⟨rfl, hb⟩; refine ⟨_, rfl, ?_⟩; have n0_ := Aside0.mk (blk_below (g := gb261) (o := .cells #[.int .i64 0, .int .i64 0] 32 (0, 0)) (by exact BK261.out) hb); have n1_ := Aside0.mk (below_step HB.out hb); clear BK261; clear HB; have BK261 := n0_; have HB := n1_; clear n0_ n1_; (try clear hb)) | ((with_reducible refine gate_callee (f := 36) rfl ?_); refine goesL_ (some 20) rfl rfl Tryd.func36 (by kernel_rfl) rfl #[.int .i64 (wrap64 ((ji3) - t262)), .int .i64 ji3] rfl (by (try simp only [List.map_toArray, List.map_cons, List.map_nil]); rfl) ?_; (with_reducible refine (cleanseref04_share.calls k (wrap64 ((ji3) - t262)) ji3 t263 t264 _ A8.out).mono ?_); rintro e w11 ⟨rfl, hb⟩; refine ⟨_, rfl, ?_⟩; have n0_ := Aside0.mk (blk_below (g := gb261) (o := .cells #[.int .i64 0, .int .i64 0] 32 (0, 0)) (by exact BK261.out) hb); have n1_ := Aside0.mk (below_step HB.out hb); clear BK261; clear HB; have BK261 := n0_; have HB := n1_; clear n0_ n1_; (try clear hb); have hcz12_0 := cel_ BK261.out 0 rfl; have hcz12_1 := cel_ BK261.out 1 rfl; have hfz12_0 := blk_frozen BK261.out 0; have hfz12_1 := blk_frozen BK261.out 1))
 refine bodyPost_ret (results_cell_row rfl _ _ gb261 32 #[.int .i64 t263, .int .i64 t264] (0, 0) _ rfl (by refine blk_put (cs := #[.int .i64 t263, .int .i64 0]) ?_ 1 _ rfl; refine blk_put (cs := #[.int .i64 0, .int .i64 0]) ?_ 0 _ rfl; exact BK261.out) Tryd.underlying32 rfl (by kernel_rfl)) rfl ?_
 exact ⟨by rfl, by repeat ((with_reducible first | exact HB.out | refine below_set ?_ GE261.out))⟩

/-! ### cleanseref02_Valid: function 40 -/
def cleanseref02_Valid.f (a0_0 : Int) (a0_1 : Int) (a0_2 : ByteArray) : Option (Bool) := if a0_0 = 0 then (if a0_1 = 0 then (some (a0_2.toList == ([] : List UInt8))) else (some false)) else (if a0_0 = 1 then (if a0_1 = 0 then (some (decide ((a0_2.size : Int) ≤ 200))) else (some false)) else (if a0_0 = 2 then (if a0_1 ≥ (-1000000000) then (if a0_1 ≤ 1000000000 then (some (a0_2.toList == ([] : List UInt8))) else (some false)) else (some false)) else (if a0_0 = 3 then (if a0_1 ≥ 0 then (if a0_1 ≤ 73048 then (some (a0_2.toList == ([] : List UInt8))) else (some false)) else (some false)) else (if a0_0 = 4 then (if a0_1 = 0 then (some (a0_2.toList == ([] : List UInt8))) else (if a0_1 = 1 then (some (a0_2.toList == ([] : List UInt8))) else (some false))) else (some false)))))
set_option maxHeartbeats 8000000 in
set_option maxRecDepth 100000 in
theorem cleanseref02_Valid.calls (a0_0 : Int) (a0_1 : Int) (a0_2 : ByteArray) (r : Bool) (w : World) (h : cleanseref02_Valid.f a0_0 a0_1 a0_2 = some r) :
  Calls Tryd.prog 40 #[.agg #[.int .i64 a0_0, .int .i64 a0_1, .string a0_2]] w fun e w' => e = .returned (.bool r) ∧ Below w.heap.size w w' := by
 have hu26 := Tryd.underlying26
 have HB := Aside0.mk (Below.refl w.heap.size w)
 have H : (if a0_0 = 0 then (if a0_1 = 0 then (some (a0_2.toList == ([] : List UInt8))) else (some false)) else (if a0_0 = 1 then (if a0_1 = 0 then (some (decide ((a0_2.size : Int) ≤ 200))) else (some false)) else (if a0_0 = 2 then (if a0_1 ≥ (-1000000000) then (if a0_1 ≤ 1000000000 then (some (a0_2.toList == ([] : List UInt8))) else (some false)) else (some false)) else (if a0_0 = 3 then (if a0_1 ≥ 0 then (if a0_1 ≤ 73048 then (some (a0_2.toList == ([] : List UInt8))) else (some false)) else (some false)) else (if a0_0 = 4 then (if a0_1 = 0 then (some (a0_2.toList == ([] : List UInt8))) else (if a0_1 = 1 then (some (a0_2.toList == ([] : List UInt8))) else (some false))) else (some false)))))) = some r := h
 clear h
 by_cases c2 : a0_0 = 0
 ·rw [if_pos c2] at H
  have c2b0 : (a0_0 == 0) = true := beq_iff_eq.mpr c2
  have c2b1 : (a0_0 != 0) = false := bne_eq_false_iff_eq.mpr c2
  clear c2
  by_cases c3 : a0_1 = 0
  ·rw [if_pos c3] at H
   have c3b0 : (a0_1 == 0) = true := beq_iff_eq.mpr c3
   have c3b1 : (a0_1 != 0) = false := bne_eq_false_iff_eq.mpr c3
   clear c3
   obtain rfl := Option.some.inj H
   go_enter Tryd.func40, Tryd.ntmps40
   go_wp2_with (first | ((with_reducible refine gate_dst (N := 1) rfl ?_); (try (refine gate_guard (by rfl) ?_; dsimp only)); refine box_event ?hg (N := 1) ?hd (cs := #[.int .i64 a0_0, .int .i64 a0_1, .string a0_2]) (t := 26) ?hr ?_; (case hd => rfl); (case hg => rfl); (case hr => (go_simp; done)); intro gb265 hg w4 hbox hb; have n0_ := Aside0.mk (below_step HB.out hb); have n1_ := Aside0.mk (hbox); clear HB; have HB := n0_; have BK265 := n1_; clear n0_ n1_; clear hb hbox hg; have hcz5_0 := cel_ BK265.out 0 rfl; have hcz5_1 := cel_ BK265.out 1 rfl; have hcz5_2 := cel_ BK265.out 2 rfl; have hfz5_0 := blk_frozen BK265.out 0; have hfz5_1 := blk_frozen BK265.out 1; have hfz5_2 := blk_frozen BK265.out 2))
   go_ret
   exact ⟨by rfl, by repeat ((with_reducible (exact HB.out)))⟩
  rw [if_neg c3] at H
  have c3b0 : (a0_1 == 0) = false := beq_eq_false_iff_ne.mpr c3
  have c3b1 : (a0_1 != 0) = true := bne_iff_ne.mpr c3
  obtain rfl := Option.some.inj H
  go_enter Tryd.func40, Tryd.ntmps40
  go_wp2_with (first | ((with_reducible refine gate_dst (N := 1) rfl ?_); (try (refine gate_guard (by rfl) ?_; dsimp only)); refine box_event ?hg (N := 1) ?hd (cs := #[.int .i64 a0_0, .int .i64 a0_1, .string a0_2]) (t := 26) ?hr ?_; (case hd => rfl); (case hg => rfl); (case hr => (go_simp; done)); intro gb265 hg w6 hbox hb; have n0_ := Aside0.mk (below_step HB.out hb); have n1_ := Aside0.mk (hbox); clear HB; have HB := n0_; have BK265 := n1_; clear n0_ n1_; clear hb hbox hg; have hcz7_0 := cel_ BK265.out 0 rfl; have hcz7_1 := cel_ BK265.out 1 rfl; have hcz7_2 := cel_ BK265.out 2 rfl; have hfz7_0 := blk_frozen BK265.out 0; have hfz7_1 := blk_frozen BK265.out 1; have hfz7_2 := blk_frozen BK265.out 2))
  go_ret
  exact ⟨by rfl, by repeat ((with_reducible (exact HB.out)))⟩
 rw [if_neg c2] at H
 have c2b0 : (a0_0 == 0) = false := beq_eq_false_iff_ne.mpr c2
 have c2b1 : (a0_0 != 0) = true := bne_iff_ne.mpr c2
 by_cases c8 : a0_0 = 1
 ·rw [if_pos c8] at H
  have c8b0 : (a0_0 == 1) = true := beq_iff_eq.mpr c8
  have c8b1 : (a0_0 != 1) = false := bne_eq_false_iff_eq.mpr c8
  clear c8
  by_cases c9 : a0_1 = 0
  ·rw [if_pos c9] at H
   have c9b0 : (a0_1 == 0) = true := beq_iff_eq.mpr c9
   have c9b1 : (a0_1 != 0) = false := bne_eq_false_iff_eq.mpr c9
   clear c9
   obtain rfl := Option.some.inj H
   go_enter Tryd.func40, Tryd.ntmps40
   go_wp2_with (first | ((with_reducible refine gate_dst (N := 1) rfl ?_); (try (refine gate_guard (by rfl) ?_; dsimp only)); refine box_event ?hg (N := 1) ?hd (cs := #[.int .i64 a0_0, .int .i64 a0_1, .string a0_2]) (t := 26) ?hr ?_; (case hd => rfl); (case hg => rfl); (case hr => (go_simp; done)); intro gb265 hg w10 hbox hb; have n0_ := Aside0.mk (below_step HB.out hb); have n1_ := Aside0.mk (hbox); clear HB; have HB := n0_; have BK265 := n1_; clear n0_ n1_; clear hb hbox hg; have hcz11_0 := cel_ BK265.out 0 rfl; have hcz11_1 := cel_ BK265.out 1 rfl; have hcz11_2 := cel_ BK265.out 2 rfl; have hfz11_0 := blk_frozen BK265.out 0; have hfz11_1 := blk_frozen BK265.out 1; have hfz11_2 := blk_frozen BK265.out 2))
   go_ret
   exact ⟨by rfl, by repeat ((with_reducible (exact HB.out)))⟩
  rw [if_neg c9] at H
  have c9b0 : (a0_1 == 0) = false := beq_eq_false_iff_ne.mpr c9
  have c9b1 : (a0_1 != 0) = true := bne_iff_ne.mpr c9
  obtain rfl := Option.some.inj H
  go_enter Tryd.func40, Tryd.ntmps40
  go_wp2_with (first | ((with_reducible refine gate_dst (N := 1) rfl ?_); (try (refine gate_guard (by rfl) ?_; dsimp only)); refine box_event ?hg (N := 1) ?hd (cs := #[.int .i64 a0_0, .int .i64 a0_1, .string a0_2]) (t := 26) ?hr ?_; (case hd => rfl); (case hg => rfl); (case hr => (go_simp; done)); intro gb265 hg w12 hbox hb; have n0_ := Aside0.mk (below_step HB.out hb); have n1_ := Aside0.mk (hbox); clear HB; have HB := n0_; have BK265 := n1_; clear n0_ n1_; clear hb hbox hg; have hcz13_0 := cel_ BK265.out 0 rfl; have hcz13_1 := cel_ BK265.out 1 rfl; have hcz13_2 := cel_ BK265.out 2 rfl; have hfz13_0 := blk_frozen BK265.out 0; have hfz13_1 := blk_frozen BK265.out 1; have hfz13_2 := blk_frozen BK265.out 2))
  go_ret
  exact ⟨by rfl, by repeat ((with_reducible (exact HB.out)))⟩
 rw [if_neg c8] at H
 have c8b0 : (a0_0 == 1) = false := beq_eq_false_iff_ne.mpr c8
 have c8b1 : (a0_0 != 1) = true := bne_iff_ne.mpr c8
 by_cases c14 : a0_0 = 2
 ·rw [if_pos c14] at H
  have c14b0 : (a0_0 == 2) = true := beq_iff_eq.mpr c14
  have c14b1 : (a0_0 != 2) = false := bne_eq_false_iff_eq.mpr c14
  clear c14
  by_cases c15 : a0_1 ≥ (-1000000000)
  ·rw [if_pos c15] at H
   have c15b0 : decide ((-1000000000) ≤ a0_1) = true := decide_eq_true c15
   clear c15
   by_cases c16 : a0_1 ≤ 1000000000
   ·rw [if_pos c16] at H
    have c16b0 : decide (a0_1 ≤ 1000000000) = true := decide_eq_true c16
    clear c16
    obtain rfl := Option.some.inj H
    go_enter Tryd.func40, Tryd.ntmps40
    go_wp2_with (first | ((with_reducible refine gate_dst (N := 1) rfl ?_); (try (refine gate_guard (by rfl) ?_; dsimp only)); refine box_event ?hg (N := 1) ?hd (cs := #[.int .i64 a0_0, .int .i64 a0_1, .string a0_2]) (t := 26) ?hr ?_; (case hd => rfl); (case hg => rfl); (case hr => (go_simp; done)); intro gb265 hg w17 hbox hb; have n0_ := Aside0.mk (below_step HB.out hb); have n1_ := Aside0.mk (hbox); clear HB; have HB := n0_; have BK265 := n1_; clear n0_ n1_; clear hb hbox hg; have hcz18_0 := cel_ BK265.out 0 rfl; have hcz18_1 := cel_ BK265.out 1 rfl; have hcz18_2 := cel_ BK265.out 2 rfl; have hfz18_0 := blk_frozen BK265.out 0; have hfz18_1 := blk_frozen BK265.out 1; have hfz18_2 := blk_frozen BK265.out 2))
    go_ret
    exact ⟨by rfl, by repeat ((with_reducible (exact HB.out)))⟩
   rw [if_neg c16] at H
   have c16b0 : decide (a0_1 ≤ 1000000000) = false := decide_eq_false c16
   clear c16
   obtain rfl := Option.some.inj H
   go_enter Tryd.func40, Tryd.ntmps40
   go_wp2_with (first | ((with_reducible refine gate_dst (N := 1) rfl ?_); (try (refine gate_guard (by rfl) ?_; dsimp only)); refine box_event ?hg (N := 1) ?hd (cs := #[.int .i64 a0_0, .int .i64 a0_1, .string a0_2]) (t := 26) ?hr ?_; (case hd => rfl); (case hg => rfl); (case hr => (go_simp; done)); intro gb265 hg w19 hbox hb; have n0_ := Aside0.mk (below_step HB.out hb); have n1_ := Aside0.mk (hbox); clear HB; have HB := n0_; have BK265 := n1_; clear n0_ n1_; clear hb hbox hg; have hcz20_0 := cel_ BK265.out 0 rfl; have hcz20_1 := cel_ BK265.out 1 rfl; have hcz20_2 := cel_ BK265.out 2 rfl; have hfz20_0 := blk_frozen BK265.out 0; have hfz20_1 := blk_frozen BK265.out 1; have hfz20_2 := blk_frozen BK265.out 2))
   go_ret
   exact ⟨by rfl, by repeat ((with_reducible (exact HB.out)))⟩
  rw [if_neg c15] at H
  have c15b0 : decide ((-1000000000) ≤ a0_1) = false := decide_eq_false c15
  clear c15
  obtain rfl := Option.some.inj H
  go_enter Tryd.func40, Tryd.ntmps40
  go_wp2_with (first | ((with_reducible refine gate_dst (N := 1) rfl ?_); (try (refine gate_guard (by rfl) ?_; dsimp only)); refine box_event ?hg (N := 1) ?hd (cs := #[.int .i64 a0_0, .int .i64 a0_1, .string a0_2]) (t := 26) ?hr ?_; (case hd => rfl); (case hg => rfl); (case hr => (go_simp; done)); intro gb265 hg w21 hbox hb; have n0_ := Aside0.mk (below_step HB.out hb); have n1_ := Aside0.mk (hbox); clear HB; have HB := n0_; have BK265 := n1_; clear n0_ n1_; clear hb hbox hg; have hcz22_0 := cel_ BK265.out 0 rfl; have hcz22_1 := cel_ BK265.out 1 rfl; have hcz22_2 := cel_ BK265.out 2 rfl; have hfz22_0 := blk_frozen BK265.out 0; have hfz22_1 := blk_frozen BK265.out 1; have hfz22_2 := blk_frozen BK265.out 2))
  go_ret
  exact ⟨by rfl, by repeat ((with_reducible (exact HB.out)))⟩
 rw [if_neg c14] at H
 have c14b0 : (a0_0 == 2) = false := beq_eq_false_iff_ne.mpr c14
 have c14b1 : (a0_0 != 2) = true := bne_iff_ne.mpr c14
 by_cases c23 : a0_0 = 3
 ·rw [if_pos c23] at H
  have c23b0 : (a0_0 == 3) = true := beq_iff_eq.mpr c23
  have c23b1 : (a0_0 != 3) = false := bne_eq_false_iff_eq.mpr c23
  clear c23
  by_cases c24 : a0_1 ≥ 0
  ·rw [if_pos c24] at H
   have c24b0 : decide (0 ≤ a0_1) = true := decide_eq_true c24
   clear c24
   by_cases c25 : a0_1 ≤ 73048
   ·rw [if_pos c25] at H
    have c25b0 : decide (a0_1 ≤ 73048) = true := decide_eq_true c25
    clear c25
    obtain rfl := Option.some.inj H
    go_enter Tryd.func40, Tryd.ntmps40
    go_wp2_with (first | ((with_reducible refine gate_dst (N := 1) rfl ?_); (try (refine gate_guard (by rfl) ?_; dsimp only)); refine box_event ?hg (N := 1) ?hd (cs := #[.int .i64 a0_0, .int .i64 a0_1, .string a0_2]) (t := 26) ?hr ?_; (case hd => rfl); (case hg => rfl); (case hr => (go_simp; done)); intro gb265 hg w26 hbox hb; have n0_ := Aside0.mk (below_step HB.out hb); have n1_ := Aside0.mk (hbox); clear HB; have HB := n0_; have BK265 := n1_; clear n0_ n1_; clear hb hbox hg; have hcz27_0 := cel_ BK265.out 0 rfl; have hcz27_1 := cel_ BK265.out 1 rfl; have hcz27_2 := cel_ BK265.out 2 rfl; have hfz27_0 := blk_frozen BK265.out 0; have hfz27_1 := blk_frozen BK265.out 1; have hfz27_2 := blk_frozen BK265.out 2))
    go_ret
    exact ⟨by rfl, by repeat ((with_reducible (exact HB.out)))⟩
   rw [if_neg c25] at H
   have c25b0 : decide (a0_1 ≤ 73048) = false := decide_eq_false c25
   clear c25
   obtain rfl := Option.some.inj H
   go_enter Tryd.func40, Tryd.ntmps40
   go_wp2_with (first | ((with_reducible refine gate_dst (N := 1) rfl ?_); (try (refine gate_guard (by rfl) ?_; dsimp only)); refine box_event ?hg (N := 1) ?hd (cs := #[.int .i64 a0_0, .int .i64 a0_1, .string a0_2]) (t := 26) ?hr ?_; (case hd => rfl); (case hg => rfl); (case hr => (go_simp; done)); intro gb265 hg w28 hbox hb; have n0_ := Aside0.mk (below_step HB.out hb); have n1_ := Aside0.mk (hbox); clear HB; have HB := n0_; have BK265 := n1_; clear n0_ n1_; clear hb hbox hg; have hcz29_0 := cel_ BK265.out 0 rfl; have hcz29_1 := cel_ BK265.out 1 rfl; have hcz29_2 := cel_ BK265.out 2 rfl; have hfz29_0 := blk_frozen BK265.out 0; have hfz29_1 := blk_frozen BK265.out 1; have hfz29_2 := blk_frozen BK265.out 2))
   go_ret
   exact ⟨by rfl, by repeat ((with_reducible (exact HB.out)))⟩
  rw [if_neg c24] at H
  have c24b0 : decide (0 ≤ a0_1) = false := decide_eq_false c24
  clear c24
  obtain rfl := Option.some.inj H
  go_enter Tryd.func40, Tryd.ntmps40
  go_wp2_with (first | ((with_reducible refine gate_dst (N := 1) rfl ?_); (try (refine gate_guard (by rfl) ?_; dsimp only)); refine box_event ?hg (N := 1) ?hd (cs := #[.int .i64 a0_0, .int .i64 a0_1, .string a0_2]) (t := 26) ?hr ?_; (case hd => rfl); (case hg => rfl); (case hr => (go_simp; done)); intro gb265 hg w30 hbox hb; have n0_ := Aside0.mk (below_step HB.out hb); have n1_ := Aside0.mk (hbox); clear HB; have HB := n0_; have BK265 := n1_; clear n0_ n1_; clear hb hbox hg; have hcz31_0 := cel_ BK265.out 0 rfl; have hcz31_1 := cel_ BK265.out 1 rfl; have hcz31_2 := cel_ BK265.out 2 rfl; have hfz31_0 := blk_frozen BK265.out 0; have hfz31_1 := blk_frozen BK265.out 1; have hfz31_2 := blk_frozen BK265.out 2))
  go_ret
  exact ⟨by rfl, by repeat ((with_reducible (exact HB.out)))⟩
 rw [if_neg c23] at H
 have c23b0 : (a0_0 == 3) = false := beq_eq_false_iff_ne.mpr c23
 have c23b1 : (a0_0 != 3) = true := bne_iff_ne.mpr c23
 by_cases c32 : a0_0 = 4
 ·rw [if_pos c32] at H
  have c32b0 : (a0_0 == 4) = true := beq_iff_eq.mpr c32
  have c32b1 : (a0_0 != 4) = false := bne_eq_false_iff_eq.mpr c32
  clear c32
  by_cases c33 : a0_1 = 0
  ·rw [if_pos c33] at H
   have c33b0 : (a0_1 == 0) = true := beq_iff_eq.mpr c33
   have c33b1 : (a0_1 != 0) = false := bne_eq_false_iff_eq.mpr c33
   clear c33
   obtain rfl := Option.some.inj H
   go_enter Tryd.func40, Tryd.ntmps40
   go_wp2_with (first | ((with_reducible refine gate_dst (N := 1) rfl ?_); (try (refine gate_guard (by rfl) ?_; dsimp only)); refine box_event ?hg (N := 1) ?hd (cs := #[.int .i64 a0_0, .int .i64 a0_1, .string a0_2]) (t := 26) ?hr ?_; (case hd => rfl); (case hg => rfl); (case hr => (go_simp; done)); intro gb265 hg w34 hbox hb; have n0_ := Aside0.mk (below_step HB.out hb); have n1_ := Aside0.mk (hbox); clear HB; have HB := n0_; have BK265 := n1_; clear n0_ n1_; clear hb hbox hg; have hcz35_0 := cel_ BK265.out 0 rfl; have hcz35_1 := cel_ BK265.out 1 rfl; have hcz35_2 := cel_ BK265.out 2 rfl; have hfz35_0 := blk_frozen BK265.out 0; have hfz35_1 := blk_frozen BK265.out 1; have hfz35_2 := blk_frozen BK265.out 2))
   go_ret
   exact ⟨by rfl, by repeat ((with_reducible (exact HB.out)))⟩
  rw [if_neg c33] at H
  have c33b0 : (a0_1 == 0) = false := beq_eq_false_iff_ne.mpr c33
  have c33b1 : (a0_1 != 0) = true := bne_iff_ne.mpr c33
  by_cases c36 : a0_1 = 1
  ·rw [if_pos c36] at H
   have c36b0 : (a0_1 == 1) = true := beq_iff_eq.mpr c36
   have c36b1 : (a0_1 != 1) = false := bne_eq_false_iff_eq.mpr c36
   clear c36
   obtain rfl := Option.some.inj H
   go_enter Tryd.func40, Tryd.ntmps40
   go_wp2_with (first | ((with_reducible refine gate_dst (N := 1) rfl ?_); (try (refine gate_guard (by rfl) ?_; dsimp only)); refine box_event ?hg (N := 1) ?hd (cs := #[.int .i64 a0_0, .int .i64 a0_1, .string a0_2]) (t := 26) ?hr ?_; (case hd => rfl); (case hg => rfl); (case hr => (go_simp; done)); intro gb265 hg w37 hbox hb; have n0_ := Aside0.mk (below_step HB.out hb); have n1_ := Aside0.mk (hbox); clear HB; have HB := n0_; have BK265 := n1_; clear n0_ n1_; clear hb hbox hg; have hcz38_0 := cel_ BK265.out 0 rfl; have hcz38_1 := cel_ BK265.out 1 rfl; have hcz38_2 := cel_ BK265.out 2 rfl; have hfz38_0 := blk_frozen BK265.out 0; have hfz38_1 := blk_frozen BK265.out 1; have hfz38_2 := blk_frozen BK265.out 2))
   go_ret
   exact ⟨by rfl, by repeat ((with_reducible (exact HB.out)))⟩
  rw [if_neg c36] at H
  have c36b0 : (a0_1 == 1) = false := beq_eq_false_iff_ne.mpr c36
  have c36b1 : (a0_1 != 1) = true := bne_iff_ne.mpr c36
  obtain rfl := Option.some.inj H
  go_enter Tryd.func40, Tryd.ntmps40
  go_wp2_with (first | ((with_reducible refine gate_dst (N := 1) rfl ?_); (try (refine gate_guard (by rfl) ?_; dsimp only)); refine box_event ?hg (N := 1) ?hd (cs := #[.int .i64 a0_0, .int .i64 a0_1, .string a0_2]) (t := 26) ?hr ?_; (case hd => rfl); (case hg => rfl); (case hr => (go_simp; done)); intro gb265 hg w39 hbox hb; have n0_ := Aside0.mk (below_step HB.out hb); have n1_ := Aside0.mk (hbox); clear HB; have HB := n0_; have BK265 := n1_; clear n0_ n1_; clear hb hbox hg; have hcz40_0 := cel_ BK265.out 0 rfl; have hcz40_1 := cel_ BK265.out 1 rfl; have hcz40_2 := cel_ BK265.out 2 rfl; have hfz40_0 := blk_frozen BK265.out 0; have hfz40_1 := blk_frozen BK265.out 1; have hfz40_2 := blk_frozen BK265.out 2))
  go_ret
  exact ⟨by rfl, by repeat ((with_reducible (exact HB.out)))⟩
 rw [if_neg c32] at H
 have c32b0 : (a0_0 == 4) = false := beq_eq_false_iff_ne.mpr c32
 have c32b1 : (a0_0 != 4) = true := bne_iff_ne.mpr c32
 obtain rfl := Option.some.inj H
 go_enter Tryd.func40, Tryd.ntmps40
 go_wp2_with (first | ((with_reducible refine gate_dst (N := 1) rfl ?_); (try (refine gate_guard (by rfl) ?_; dsimp only)); refine box_event ?hg (N := 1) ?hd (cs := #[.int .i64 a0_0, .int .i64 a0_1, .string a0_2]) (t := 26) ?hr ?_; (case hd => rfl); (case hg => rfl); (case hr => (go_simp; done)); intro gb265 hg w41 hbox hb; have n0_ := Aside0.mk (below_step HB.out hb); have n1_ := Aside0.mk (hbox); clear HB; have HB := n0_; have BK265 := n1_; clear n0_ n1_; clear hb hbox hg; have hcz42_0 := cel_ BK265.out 0 rfl; have hcz42_1 := cel_ BK265.out 1 rfl; have hcz42_2 := cel_ BK265.out 2 rfl; have hfz42_0 := blk_frozen BK265.out 0; have hfz42_1 := blk_frozen BK265.out 1; have hfz42_2 := blk_frozen BK265.out 2))
 go_ret
 exact ⟨by rfl, by repeat ((with_reducible (exact HB.out)))⟩

end Go.Proofs.YtgomlpndoolllaaDoor.Q
end

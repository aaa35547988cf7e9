/- Parts of the proof of BothWays: words, contracts and plain laws. -/
import Derived.Test.YtiffkknhnmpgbaaDoorBothWays16
import Derived.Test.YtiffkknhnmpgbaaDoorBothWays17
import Derived.Test.YtiffkknhnmpgbaaDoorBothWays22
import Derived.Test.YtiffkknhnmpgbaaDoorBothWays25
import Derived.Test.YtiffkknhnmpgbaaDoorBothWays26
namespace Go.Proofs.YtiffkknhnmpgbaaDoor.Q
end Go.Proofs.YtiffkknhnmpgbaaDoor.Q
section
namespace Go.Proofs.YtiffkknhnmpgbaaDoor.CL
open Go.RowKit Go.Proofs.YtiffkknhnmpgbaaDoor.Q Go.Proofs.YtiffkknhnmpgbaaDoorW.PrintWords Go.Proofs.YtiffkknhnmpgbaaDoorW.PrintLast Go.Proofs.YtiffkknhnmpgbaaDoorW.PrintMore
attribute [local go_sem] max2_int min2_int max_two min_two max_three min_three max_four min_four   -- for this text's walks alone
set_option linter.unusedVariables false
set_option linter.unusedSimpArgs false

-- by hand: function 36 (measure_Alike)

-- by hand: function 37 (words_Fold)

/-! ### measure_texts_1: function 35 -/
def measure_texts_1.f (k : Nat) (a0 : ByteArray) (a1 : ByteArray) : Option (Int × Int) := (words_Fold.f a0).bind fun t102 => ((words_Fold.f a1).bind fun t103 => ((measure_Alike.f k t102 t103).bind fun bt104 => (some (bt104.1, bt104.2))))
set_option maxHeartbeats 8000000 in
set_option maxRecDepth 100000 in
theorem measure_texts_1.calls (k : Nat) (a0 : ByteArray) (a1 : ByteArray) (r1 : Int) (r2 : Int) (w : World) (hG : Gl w) (h : measure_texts_1.f k a0 a1 = some (r1, r2)) :
    Calls Tryd.prog 35 #[.string a0, .string a1] w fun e w' => e = .returned (.agg #[.int .i64 r1, .int .i64 r2]) ∧ Below w.heap.size w w' := by
  have HGl := Aside0.mk hG
  clear hG
  have hu41 := Tryd.underlying41
  have HB := Aside0.mk (Below.refl w.heap.size w)
  have H : ((words_Fold.f a0).bind fun t102 => ((words_Fold.f a1).bind fun t103 => ((measure_Alike.f k t102 t103).bind fun bt104 => (some (bt104.1, bt104.2))))) = some (r1, r2) := h
  clear h
  replace H := Option.bind_eq_some_iff.mp H
  obtain ⟨t102, A30, H⟩ := H
  replace H : ((words_Fold.f a1).bind fun t103 => ((measure_Alike.f k t102 t103).bind fun bt104 => (some (bt104.1, bt104.2)))) = some (r1, r2) := H
  have A3 := Aside0.mk A30
  clear A30
  replace H := Option.bind_eq_some_iff.mp H
  obtain ⟨t103, A40, H⟩ := H
  replace H : ((measure_Alike.f k t102 t103).bind fun bt104 => (some (bt104.1, bt104.2))) = some (r1, r2) := H
  have A4 := Aside0.mk A40
  clear A40
  replace H := Option.bind_eq_some_iff.mp H
  obtain ⟨⟨t104, t105⟩, A50, H⟩ := H
  replace H : (some (t104, t105)) = some (r1, r2) := H
  have A5 := Aside0.mk A50
  clear A50
  simp only [Option.some.injEq, Prod.mk.injEq] at H
  obtain ⟨rfl, rfl⟩ := H
  go_enter Tryd.func35, Tryd.ntmps35
  go_wp2_with (first | ((with_reducible refine gate_dst (N := 4) rfl ?_); refine box_event ?hg (N := 4) ?hd (cs := #[.int .i64 0, .int .i64 0]) (t := 41) ?hr ?_; (case hd => rfl); (case hg => rfl); (case hr => first | (go_simp; done) | (go_simp; rfl)); intro gb101 hg w6 hbox hb; have n0_ := Aside0.mk (below_step (by repeat (first | (with_reducible first | exact HB.out | apply below_alloc | apply pw_below_drewN | apply below_drew1) | exact HB.out)) hb); have n1_ := Aside0.mk (hbox); have n3_ := Aside0.mk ((by rw [hg]; exact (below_size (by repeat (first | (with_reducible first | exact HB.out | apply below_alloc | apply pw_below_drewN | apply below_drew1) | exact HB.out))) : w.heap.size ≤ gb101)); clear HB; have HB := n0_; have BK101 := n1_; have GE101 := n3_; clear n0_ n1_ n3_; clear hb hbox hg) | ((with_reducible refine gate_callee (f := 37) rfl ?_); refine goesL_ (some 6) rfl rfl Tryd.func37 (by kernel_rfl) rfl #[.string a0] rfl (by (try simp only [List.map_toArray, List.map_cons, List.map_nil]); first | done | rfl | (simp only [List.length_drop, List.length_take]; rfl) | (simp only [Int.add_zero]; rfl) | (simp; done)) ?_; (with_reducible refine (words_Fold.calls a0 t102 _ A3.out).mono ?_); rintro e w7 ⟨rfl, hb⟩; refine ⟨_, rfl, ?_⟩; have n0_ := Aside0.mk (blk_below (g := gb101) (o := .cells #[.int .i64 0, .int .i64 0] 41 (0, 0)) (by (with_reducible repeat (first | refine blk_drewN ?_ _ | refine blk_drew ?_ | refine blk_alloc ?_ _)); exact BK101.out) hb); have n1_ := Aside0.mk (below_step (by repeat (first | (with_reducible first | exact HB.out | apply below_alloc | apply pw_below_drewN | apply below_drew1 | refine below_set ?_ GE101.out) | exact HB.out)) hb); clear BK101; clear HB; have BK101 := n0_; have HB := n1_; clear n0_ n1_; (try clear hb); (try clear hb2); (try clear hk); (try clear hi)) | ((with_reducible refine gate_callee (f := 37) rfl ?_); refine goesL_ (some 8) rfl rfl Tryd.func37 (by kernel_rfl) rfl #[.string a1] rfl (by (try simp only [List.map_toArray, List.map_cons, List.map_nil]); first | done | rfl | (simp only [List.length_drop, List.length_take]; rfl) | (simp only [Int.add_zero]; rfl) | (simp; done)) ?_; (with_reducible refine (words_Fold.calls a1 t103 _ A4.out).mono ?_); rintro e w8 ⟨rfl, hb⟩; refine ⟨_, rfl, ?_⟩; have n0_ := Aside0.mk (blk_below (g := gb101) (o := .cells #[.int .i64 0, .int .i64 0] 41 (0, 0)) (by (with_reducible repeat (first | refine blk_drewN ?_ _ | refine blk_drew ?_ | refine blk_alloc ?_ _)); exact BK101.out) hb); have n1_ := Aside0.mk (below_step (by repeat (first | (with_reducible first | exact HB.out | apply below_alloc | apply pw_below_drewN | apply below_drew1 | refine below_set ?_ GE101.out) | exact HB.out)) hb); clear BK101; clear HB; have BK101 := n0_; have HB := n1_; clear n0_ n1_; (try clear hb); (try clear hb2); (try clear hk); (try clear hi)) | ((with_reducible refine gate_callee (f := 36) rfl ?_); refine goesL_ (some 9) rfl rfl Tryd.func36 (by kernel_rfl) rfl #[.string t102, .string t103] rfl (by (try simp only [List.map_toArray, List.map_cons, List.map_nil]); first | done | rfl | (simp only [List.length_drop, List.length_take]; rfl) | (simp only [Int.add_zero]; rfl) | (simp; done)) ?_; (with_reducible refine (measure_Alike.calls k t102 t103 t104 t105 _ ?sGl A5.out).mono ?_); (case sGl => exact Gl.below HGl.out (by repeat (first | (with_reducible first | exact HB.out | apply below_alloc | apply pw_below_drewN | apply below_drew1 | refine below_set ?_ (Aside0.out (by assumption))) | exact HB.out))); rintro e w9 ⟨rfl, hb⟩; refine ⟨_, rfl, ?_⟩; have n0_ := Aside0.mk (blk_below (g := gb101) (o := .cells #[.int .i64 0, .int .i64 0] 41 (0, 0)) (by (with_reducible repeat (first | refine blk_drewN ?_ _ | refine blk_drew ?_ | refine blk_alloc ?_ _)); exact BK101.out) hb); have n1_ := Aside0.mk (below_step (by repeat (first | (with_reducible first | exact HB.out | apply below_alloc | apply pw_below_drewN | apply below_drew1 | refine below_set ?_ GE101.out) | exact HB.out)) hb); clear BK101; clear HB; have BK101 := n0_; have HB := n1_; clear n0_ n1_; (try clear hb); (try clear hb2); (try clear hk); (try clear hi); have hcz10_0 := cel_ BK101.out 0 rfl; have hcz10_1 := cel_ BK101.out 1 rfl; have hfz10_0 := blk_frozen BK101.out 0; have hfz10_1 := blk_frozen BK101.out 1))
  refine bodyPost_ret (results_cell_row rfl _ _ gb101 41 #[.int .i64 t104, .int .i64 t105] (0, 0) _ rfl (by (with_reducible repeat (first | refine blk_drewN ?_ _ | refine blk_drew ?_ | refine blk_alloc ?_ _)); refine blk_put (cs := #[.int .i64 t104, .int .i64 0]) ?_ 1 _ rfl; (with_reducible repeat (first | refine blk_drewN ?_ _ | refine blk_drew ?_ | refine blk_alloc ?_ _)); refine blk_put (cs := #[.int .i64 0, .int .i64 0]) ?_ 0 _ rfl; (with_reducible repeat (first | refine blk_drewN ?_ _ | refine blk_drew ?_ | refine blk_alloc ?_ _)); exact BK101.out) Tryd.underlying41 rfl (by kernel_rfl)) rfl ?_
  exact ⟨by first | rfl | (simp [errW_none, errW_some] <;> rfl) | (simp [*, errW_none, errW_some] <;> rfl), by repeat (first | (with_reducible first | exact HB.out | apply below_alloc | apply pw_below_drewN | apply below_drew1 | refine below_set ?_ GE101.out) | exact HB.out)⟩

-- by hand: function 39 (measure_Jaccard)

-- by hand: function 40 (words_Tokens)

/-! ### measure_texts_2: function 38 -/
def measure_texts_2.f (k : Nat) (a0 : ByteArray) (a1 : ByteArray) : Option (Int × Int) := (words_Tokens.f a0).bind fun t107 => ((words_Tokens.f a1).bind fun t110 => ((measure_Jaccard.f k t107 t110).bind fun bt113 => (some (bt113.1, bt113.2))))
set_option maxHeartbeats 8000000 in
set_option maxRecDepth 100000 in
theorem measure_texts_2.calls (k : Nat) (a0 : ByteArray) (a1 : ByteArray) (r1 : Int) (r2 : Int) (w : World) (hG : Gl w) (h : measure_texts_2.f k a0 a1 = some (r1, r2)) :
    Calls Tryd.prog 38 #[.string a0, .string a1] w fun e w' => e = .returned (.agg #[.int .i64 r1, .int .i64 r2]) ∧ Below w.heap.size w w' := by
  have HGl := Aside0.mk hG
  clear hG
  have hu41 := Tryd.underlying41
  have HB := Aside0.mk (Below.refl w.heap.size w)
  have H : ((words_Tokens.f a0).bind fun t107 => ((words_Tokens.f a1).bind fun t110 => ((measure_Jaccard.f k t107 t110).bind fun bt113 => (some (bt113.1, bt113.2))))) = some (r1, r2) := h
  clear h
  replace H := Option.bind_eq_some_iff.mp H
  obtain ⟨t107, A30, H⟩ := H
  replace H : ((words_Tokens.f a1).bind fun t110 => ((measure_Jaccard.f k t107 t110).bind fun bt113 => (some (bt113.1, bt113.2)))) = some (r1, r2) := H
  have A3 := Aside0.mk A30
  clear A30
  replace H := Option.bind_eq_some_iff.mp H
  obtain ⟨t110, A40, H⟩ := H
  replace H : ((measure_Jaccard.f k t107 t110).bind fun bt113 => (some (bt113.1, bt113.2))) = some (r1, r2) := H
  have A4 := Aside0.mk A40
  clear A40
  replace H := Option.bind_eq_some_iff.mp H
  obtain ⟨⟨t113, t114⟩, A50, H⟩ := H
  replace H : (some (t113, t114)) = some (r1, r2) := H
  have A5 := Aside0.mk A50
  clear A50
  simp only [Option.some.injEq, Prod.mk.injEq] at H
  obtain ⟨rfl, rfl⟩ := H
  go_enter Tryd.func38, Tryd.ntmps38
  go_wp2_with (first | ((with_reducible refine gate_dst (N := 4) rfl ?_); refine box_event ?hg (N := 4) ?hd (cs := #[.int .i64 0, .int .i64 0]) (t := 41) ?hr ?_; (case hd => rfl); (case hg => rfl); (case hr => first | (go_simp; done) | (go_simp; rfl)); intro gb106 hg w6 hbox hb; have n0_ := Aside0.mk (below_step (by repeat (first | (with_reducible first | exact HB.out | apply below_alloc | apply pw_below_drewN | apply below_drew1) | exact HB.out)) hb); have n1_ := Aside0.mk (hbox); have n3_ := Aside0.mk ((by rw [hg]; exact (below_size (by repeat (first | (with_reducible first | exact HB.out | apply below_alloc | apply pw_below_drewN | apply below_drew1) | exact HB.out))) : w.heap.size ≤ gb106)); clear HB; have HB := n0_; have BK106 := n1_; have GE106 := n3_; clear n0_ n1_ n3_; clear hb hbox hg) | ((with_reducible refine gate_callee (f := 40) rfl ?_); refine goesL_ (some 6) rfl rfl Tryd.func40 (by kernel_rfl) rfl #[.string a0] rfl (by (try simp only [List.map_toArray, List.map_cons, List.map_nil]); first | done | rfl | (simp only [List.length_drop, List.length_take]; rfl) | (simp only [Int.add_zero]; rfl) | (simp; done)) ?_; (with_reducible refine (words_Tokens.calls a0 t107 _ A3.out).mono ?_); rintro e w7 ⟨v108, rfl, ho0, hb⟩; refine ⟨_, rfl, ?_⟩; have n0_ := Aside0.mk (Kd.R_lower ho0 (below_size (by repeat (first | (with_reducible first | exact HB.out | apply below_alloc | apply pw_below_drewN | apply below_drew1 | refine below_set ?_ GE106.out) | exact HB.out)))); have n1_ := Aside0.mk (blk_below (g := gb106) (o := .cells #[.int .i64 0, .int .i64 0] 41 (0, 0)) (by (with_reducible repeat (first | refine blk_drewN ?_ _ | refine blk_drew ?_ | refine blk_alloc ?_ _)); exact BK106.out) hb); have n2_ := Aside0.mk (below_step (by repeat (first | (with_reducible first | exact HB.out | apply below_alloc | apply pw_below_drewN | apply below_drew1 | refine below_set ?_ GE106.out) | exact HB.out)) hb); clear BK106; clear HB; have HO109 := n0_; have BK106 := n1_; have HB := n2_; clear n0_ n1_ n2_; (try clear hb); (try clear hb2); (try clear hk); (try clear hi); (try clear ho0)) | ((with_reducible refine gate_callee (f := 40) rfl ?_); refine goesL_ (some 8) rfl rfl Tryd.func40 (by kernel_rfl) rfl #[.string a1] rfl (by (try simp only [List.map_toArray, List.map_cons, List.map_nil]); first | done | rfl | (simp only [List.length_drop, List.length_take]; rfl) | (simp only [Int.add_zero]; rfl) | (simp; done)) ?_; (with_reducible refine (words_Tokens.calls a1 t110 _ A4.out).mono ?_); rintro e w8 ⟨v111, rfl, ho0, hb⟩; refine ⟨_, rfl, ?_⟩; have n0_ := Aside0.mk (Kd.R_elder' (by (with_reducible repeat (first | apply Kd.R_alloc | apply Kd.R_drewN | apply Kd.R_drew)); exact HO109.out) (Kd.R_base ho0) hb); have n1_ := Aside0.mk (Kd.R_lower (Kd.R_new' ho0 (Kd.R_lt (by (with_reducible repeat (first | apply Kd.R_alloc | apply Kd.R_drewN | apply Kd.R_drew)); exact HO109.out))) (below_size (by repeat (first | (with_reducible first | exact HB.out | apply below_alloc | apply pw_below_drewN | apply below_drew1 | refine below_set ?_ GE106.out) | exact HB.out)))); have n2_ := Aside0.mk (blk_below (g := gb106) (o := .cells #[.int .i64 0, .int .i64 0] 41 (0, 0)) (by (with_reducible repeat (first | refine blk_drewN ?_ _ | refine blk_drew ?_ | refine blk_alloc ?_ _)); exact BK106.out) hb); have n3_ := Aside0.mk (below_step (by repeat (first | (with_reducible first | exact HB.out | apply below_alloc | apply pw_below_drewN | apply below_drew1 | refine below_set ?_ GE106.out) | exact HB.out)) hb); clear HO109; clear BK106; clear HB; have HO109 := n0_; have HO112 := n1_; have BK106 := n2_; have HB := n3_; clear n0_ n1_ n2_ n3_; (try clear hb); (try clear hb2); (try clear hk); (try clear hi); (try clear ho0); obtain ⟨Ao9, co9, eo9⟩ := Kd.R_slice HO109.out; subst eo9; obtain ⟨Ao10, co10, eo10⟩ := Kd.R_slice HO112.out; subst eo10) | ((with_reducible refine gate_callee (f := 39) rfl ?_); refine goesL_ (some 9) rfl rfl Tryd.func39 (by kernel_rfl) rfl #[.slice Ao9 t107.length co9, .slice Ao10 t110.length co10] rfl (by (try simp only [List.map_toArray, List.map_cons, List.map_nil]); first | done | rfl | (simp only [List.length_drop, List.length_take]; rfl) | (simp only [Int.add_zero]; rfl) | (simp; done)) ?_; (with_reducible refine (measure_Jaccard.calls k _ _ t107 _ _ t110 t113 t114 _ ?side1 ?side2 ?side3 ?side4 ?sGl A5.out).mono ?_); (case sGl => exact Gl.below HGl.out (by repeat (first | (with_reducible first | exact HB.out | apply below_alloc | apply pw_below_drewN | apply below_drew1 | refine below_set ?_ (Aside0.out (by assumption))) | exact HB.out))); (case side1 => repeat (first | exact (Kd.R_reads' HO109.out).2.2 | (with_reducible refine Kd.C_alloc ?_ _) | (with_reducible refine Kd.C_drewN ?_ _) | (with_reducible refine Kd.C_drew ?_))); (case side2 => exact (Kd.R_reads' HO109.out).2.1); (case side3 => repeat (first | exact (Kd.R_reads' HO112.out).2.2 | (with_reducible refine Kd.C_alloc ?_ _) | (with_reducible refine Kd.C_drewN ?_ _) | (with_reducible refine Kd.C_drew ?_))); (case side4 => exact (Kd.R_reads' HO112.out).2.1); rintro e w11 ⟨rfl, hb⟩; refine ⟨_, rfl, ?_⟩; have n0_ := Aside0.mk (Kd.R_below (by (with_reducible repeat (first | apply Kd.R_alloc | apply Kd.R_drewN | apply Kd.R_drew)); exact HO109.out) hb); have n1_ := Aside0.mk (Kd.R_below (by (with_reducible repeat (first | apply Kd.R_alloc | apply Kd.R_drewN | apply Kd.R_drew)); exact HO112.out) hb); have n2_ := Aside0.mk (blk_below (g := gb106) (o := .cells #[.int .i64 0, .int .i64 0] 41 (0, 0)) (by (with_reducible repeat (first | refine blk_drewN ?_ _ | refine blk_drew ?_ | refine blk_alloc ?_ _)); exact BK106.out) hb); have n3_ := Aside0.mk (below_step (by repeat (first | (with_reducible first | exact HB.out | apply below_alloc | apply pw_below_drewN | apply below_drew1 | refine below_set ?_ GE106.out) | exact HB.out)) hb); clear HO109; clear HO112; clear BK106; clear HB; have HO109 := n0_; have HO112 := n1_; have BK106 := n2_; have HB := n3_; clear n0_ n1_ n2_ n3_; (try clear hb); (try clear hb2); (try clear hk); (try clear hi); have hcz12_0 := cel_ BK106.out 0 rfl; have hcz12_1 := cel_ BK106.out 1 rfl; have hfz12_0 := blk_frozen BK106.out 0; have hfz12_1 := blk_frozen BK106.out 1))
  refine bodyPost_ret (results_cell_row rfl _ _ gb106 41 #[.int .i64 t113, .int .i64 t114] (0, 0) _ rfl (by (with_reducible repeat (first | refine blk_drewN ?_ _ | refine blk_drew ?_ | refine blk_alloc ?_ _)); refine blk_put (cs := #[.int .i64 t113, .int .i64 0]) ?_ 1 _ rfl; (with_reducible repeat (first | refine blk_drewN ?_ _ | refine blk_drew ?_ | refine blk_alloc ?_ _)); refine blk_put (cs := #[.int .i64 0, .int .i64 0]) ?_ 0 _ rfl; (with_reducible repeat (first | refine blk_drewN ?_ _ | refine blk_drew ?_ | refine blk_alloc ?_ _)); exact BK106.out) Tryd.underlying41 rfl (by kernel_rfl)) rfl ?_
  exact ⟨by first | rfl | (simp [errW_none, errW_some] <;> rfl) | (simp [*, errW_none, errW_some] <;> rfl), by repeat (first | (with_reducible first | exact HB.out | apply below_alloc | apply pw_below_drewN | apply below_drew1 | refine below_set ?_ GE106.out) | exact HB.out)⟩

-- by hand: function 42 (measure_Jaro)

/-! ### measure_texts_3: function 41 -/
def measure_texts_3.f (k : Nat) (a0 : ByteArray) (a1 : ByteArray) : Option (Int × Int) := (words_Fold.f a0).bind fun t116 => ((words_Fold.f a1).bind fun t117 => ((measure_Jaro.f k t116 t117).bind fun bt118 => (some (bt118.1, bt118.2))))
set_option maxHeartbeats 8000000 in
set_option maxRecDepth 100000 in
theorem measure_texts_3.calls (k : Nat) (a0 : ByteArray) (a1 : ByteArray) (r1 : Int) (r2 : Int) (w : World) (hG : Gl w) (h : measure_texts_3.f k a0 a1 = some (r1, r2)) :
    Calls Tryd.prog 41 #[.string a0, .string a1] w fun e w' => e = .returned (.agg #[.int .i64 r1, .int .i64 r2]) ∧ Below w.heap.size w w' := by
  have HGl := Aside0.mk hG
  clear hG
  have hu41 := Tryd.underlying41
  have HB := Aside0.mk (Below.refl w.heap.size w)
  have H : ((words_Fold.f a0).bind fun t116 => ((words_Fold.f a1).bind fun t117 => ((measure_Jaro.f k t116 t117).bind fun bt118 => (some (bt118.1, bt118.2))))) = some (r1, r2) := h
  clear h
  replace H := Option.bind_eq_some_iff.mp H
  obtain ⟨t116, A30, H⟩ := H
  replace H : ((words_Fold.f a1).bind fun t117 => ((measure_Jaro.f k t116 t117).bind fun bt118 => (some (bt118.1, bt118.2)))) = some (r1, r2) := H
  have A3 := Aside0.mk A30
  clear A30
  replace H := Option.bind_eq_some_iff.mp H
  obtain ⟨t117, A40, H⟩ := H
  replace H : ((measure_Jaro.f k t116 t117).bind fun bt118 => (some (bt118.1, bt118.2))) = some (r1, r2) := H
  have A4 := Aside0.mk A40
  clear A40
  replace H := Option.bind_eq_some_iff.mp H
  obtain ⟨⟨t118, t119⟩, A50, H⟩ := H
  replace H : (some (t118, t119)) = some (r1, r2) := H
  have A5 := Aside0.mk A50
  clear A50
  simp only [Option.some.injEq, Prod.mk.injEq] at H
  obtain ⟨rfl, rfl⟩ := H
  go_enter Tryd.func41, Tryd.ntmps41
  go_wp2_with (first | ((with_reducible refine gate_dst (N := 4) rfl ?_); refine box_event ?hg (N := 4) ?hd (cs := #[.int .i64 0, .int .i64 0]) (t := 41) ?hr ?_; (case hd => rfl); (case hg => rfl); (case hr => first | (go_simp; done) | (go_simp; rfl)); intro gb115 hg w6 hbox hb; have n0_ := Aside0.mk (below_step (by repeat (first | (with_reducible first | exact HB.out | apply below_alloc | apply pw_below_drewN | apply below_drew1) | exact HB.out)) hb); have n1_ := Aside0.mk (hbox); have n3_ := Aside0.mk ((by rw [hg]; exact (below_size (by repeat (first | (with_reducible first | exact HB.out | apply below_alloc | apply pw_below_drewN | apply below_drew1) | exact HB.out))) : w.heap.size ≤ gb115)); clear HB; have HB := n0_; have BK115 := n1_; have GE115 := n3_; clear n0_ n1_ n3_; clear hb hbox hg) | ((with_reducible refine gate_callee (f := 37) rfl ?_); refine goesL_ (some 6) rfl rfl Tryd.func37 (by kernel_rfl) rfl #[.string a0] rfl (by (try simp only [List.map_toArray, List.map_cons, List.map_nil]); first | done | rfl | (simp only [List.length_drop, List.length_take]; rfl) | (simp only [Int.add_zero]; rfl) | (simp; done)) ?_; (with_reducible refine (words_Fold.calls a0 t116 _ A3.out).mono ?_); rintro e w7 ⟨rfl, hb⟩; refine ⟨_, rfl, ?_⟩; have n0_ := Aside0.mk (blk_below (g := gb115) (o := .cells #[.int .i64 0, .int .i64 0] 41 (0, 0)) (by (with_reducible repeat (first | refine blk_drewN ?_ _ | refine blk_drew ?_ | refine blk_alloc ?_ _)); exact BK115.out) hb); have n1_ := Aside0.mk (below_step (by repeat (first | (with_reducible first | exact HB.out | apply below_alloc | apply pw_below_drewN | apply below_drew1 | refine below_set ?_ GE115.out) | exact HB.out)) hb); clear BK115; clear HB; have BK115 := n0_; have HB := n1_; clear n0_ n1_; (try clear hb); (try clear hb2); (try clear hk); (try clear hi)) | ((with_reducible refine gate_callee (f := 37) rfl ?_); refine goesL_ (some 8) rfl rfl Tryd.func37 (by kernel_rfl) rfl #[.string a1] rfl (by (try simp only [List.map_toArray, List.map_cons, List.map_nil]); first | done | rfl | (simp only [List.length_drop, List.length_take]; rfl) | (simp only [Int.add_zero]; rfl) | (simp; done)) ?_; (with_reducible refine (words_Fold.calls a1 t117 _ A4.out).mono ?_); rintro e w8 ⟨rfl, hb⟩; refine ⟨_, rfl, ?_⟩; have n0_ := Aside0.mk (blk_below (g := gb115) (o := .cells #[.int .i64 0, .int .i64 0] 41 (0, 0)) (by (with_reducible repeat (first | refine blk_drewN ?_ _ | refine blk_drew ?_ | refine blk_alloc ?_ _)); exact BK115.out) hb); have n1_ := Aside0.mk (below_step (by repeat (first | (with_reducible first | exact HB.out | apply below_alloc | apply pw_below_drewN | apply below_drew1 | refine below_set ?_ GE115.out) | exact HB.out)) hb); clear BK115; clear HB; have BK115 := n0_; have HB := n1_; clear n0_ n1_; (try clear hb); (try clear hb2); (try clear hk); (try clear hi)) | ((with_reducible refine gate_callee (f := 42) rfl ?_); refine goesL_ (some 9) rfl rfl Tryd.func42 (by kernel_rfl) rfl #[.string t116, .string t117] rfl (by (try simp only [List.map_toArray, List.map_cons, List.map_nil]); first | done | rfl | (simp only [List.length_drop, List.length_take]; rfl) | (simp only [Int.add_zero]; rfl) | (simp; done)) ?_; (with_reducible refine (measure_Jaro.calls k t116 t117 t118 t119 _ ?sGl A5.out).mono ?_); (case sGl => exact Gl.below HGl.out (by repeat (first | (with_reducible first | exact HB.out | apply below_alloc | apply pw_below_drewN | apply below_drew1 | refine below_set ?_ (Aside0.out (by assumption))) | exact HB.out))); rintro e w9 ⟨rfl, hb⟩; refine ⟨_, rfl, ?_⟩; have n0_ := Aside0.mk (blk_below (g := gb115) (o := .cells #[.int .i64 0, .int .i64 0] 41 (0, 0)) (by (with_reducible repeat (first | refine blk_drewN ?_ _ | refine blk_drew ?_ | refine blk_alloc ?_ _)); exact BK115.out) hb); have n1_ := Aside0.mk (below_step (by repeat (first | (with_reducible first | exact HB.out | apply below_alloc | apply pw_below_drewN | apply below_drew1 | refine below_set ?_ GE115.out) | exact HB.out)) hb); clear BK115; clear HB; have BK115 := n0_; have HB := n1_; clear n0_ n1_; (try clear hb); (try clear hb2); (try clear hk); (try clear hi); have hcz10_0 := cel_ BK115.out 0 rfl; have hcz10_1 := cel_ BK115.out 1 rfl; have hfz10_0 := blk_frozen BK115.out 0; have hfz10_1 := blk_frozen BK115.out 1))
  refine bodyPost_ret (results_cell_row rfl _ _ gb115 41 #[.int .i64 t118, .int .i64 t119] (0, 0) _ rfl (by (with_reducible repeat (first | refine blk_drewN ?_ _ | refine blk_drew ?_ | refine blk_alloc ?_ _)); refine blk_put (cs := #[.int .i64 t118, .int .i64 0]) ?_ 1 _ rfl; (with_reducible repeat (first | refine blk_drewN ?_ _ | refine blk_drew ?_ | refine blk_alloc ?_ _)); refine blk_put (cs := #[.int .i64 0, .int .i64 0]) ?_ 0 _ rfl; (with_reducible repeat (first | refine blk_drewN ?_ _ | refine blk_drew ?_ | refine blk_alloc ?_ _)); exact BK115.out) Tryd.underlying41 rfl (by kernel_rfl)) rfl ?_
  exact ⟨by first | rfl | (simp [errW_none, errW_some] <;> rfl) | (simp [*, errW_none, errW_some] <;> rfl), by repeat (first | (with_reducible first | exact HB.out | apply below_alloc | apply pw_below_drewN | apply below_drew1 | refine below_set ?_ GE115.out) | exact HB.out)⟩

end Go.Proofs.YtiffkknhnmpgbaaDoor.CL
end

section
/- measure.Of: for every measure, tolerance and two values: what it answers, by the printed contracts of value.Valid, measure.Near and the three functions of texts. -/
namespace Go.Proofs.YtiffkknhnmpgbaaDoor
open Go Go.RowKit Go.Shelf Go.Proofs.YtiffkknhnmpgbaaDoorW.PrintWords Go.Proofs.YtiffkknhnmpgbaaDoorW.PrintLast
attribute [local go_sem] Oper.semAt_some
set_option linter.unusedVariables false
set_option linter.unusedSimpArgs false

def ofTail (k : Nat) (m tol a0 a1 : Int) (a2 : ByteArray) (b0 b1 : Int) (b2 : ByteArray) : Option (Int × Int × Int) :=
  if m = 5 ∧ (tol < 0 ∨ 1000000000 ≤ tol) then some (0, 0, 1)
  else if a0 = 0 ∨ b0 = 0 then some (0, 1, 0)
  else if m = 1 then (if a0 = b0 ∧ a1 = b1 ∧ a2.toList = b2.toList then some (1, 1, 0) else some (0, 1, 0))
  else if a0 ≠ b0 ∨ (m = 5 ∧ a0 ≠ 2 ∧ a0 ≠ 3) ∨ (m ≠ 5 ∧ a0 ≠ 1) then some (0, 0, 10)
  else if m = 5 then (Q.measure_Near.f k a1 b1 tol).bind fun r => some (r.1, r.2, 0)
  else if m = 2 then (CL.measure_texts_1.f k a2 b2).bind fun r => some (r.1, r.2, 0)
  else if m = 3 then (CL.measure_texts_2.f k a2 b2).bind fun r => some (r.1, r.2, 0)
  else (CL.measure_texts_3.f k a2 b2).bind fun r => some (r.1, r.2, 0)
def measure_Of.f (k : Nat) (m tol a0 a1 : Int) (a2 : ByteArray) (b0 b1 : Int) (b2 : ByteArray) : Option (Int × Int × Int) :=
  if (Lit.int .i64 m).wf = true then (if m < 1 ∨ 5 < m then some (0, 0, 1) else
    (Q.value_Valid.f k a0 a1 a2).bind fun va => if va = true then ((Q.value_Valid.f k b0 b1 b2).bind fun vb => if vb = true then ofTail k m tol a0 a1 a2 b0 b1 b2 else some (0, 0, 1)) else some (0, 0, 1)) else none
theorem eqF_nn (d : Nat) (w : World) : (Op.equalIn (d + 1) 69 .nilFunc .nilFunc).run Tryd.prog w = .ok true w := by
  have hu := Tryd.underlying69
  unfold Op.equalIn
  go_simp
theorem eqF_fn (d : Nat) (f : FuncId) (w : World) : (Op.equalIn (d + 1) 69 (.func (.func f) #[] #[]) .nilFunc).run Tryd.prog w = .ok false w := by
  have hu := Tryd.underlying69
  unfold Op.equalIn
  go_simp
theorem eq_nil_nil (w : World) : (binOp .eql 69 .nilFunc .nilFunc).run Tryd.prog w = .ok (.bool true) w := by
  have h := eqF_nn 9999 w
  simp only [binOp, Op.equal, Op.maxDepth, Sem.run_bind]
  rw [h]
  rfl
theorem eq_func_nil (f : FuncId) (w : World) : (binOp .eql 69 (.func (.func f) #[] #[]) .nilFunc).run Tryd.prog w = .ok (.bool false) w := by
  have h := eqF_fn 9999 f w
  simp only [binOp, Op.equal, Op.maxDepth, Sem.run_bind]
  rw [h]
  rfl
theorem eqValIn (d : Nat) (w : World) (x0 y0 : Int) (x1 y1 : Int) (x2 y2 : ByteArray) :
    (Op.equalIn (d + 2) 48 (.agg #[.int .i64 x0, .int .i64 x1, .string x2]) (.agg #[.int .i64 y0, .int .i64 y1, .string y2])).run Tryd.prog w = .ok (x0 == y0 && (x1 == y1 && (x2.toList == y2.toList))) w := by
  refine eqA_of Tryd.underlying48 (by kernel_rfl) ?_
  refine eqf_cons (by rfl) (by go_simp; rfl) (by go_simp; rfl) (by go_simp) ?_
  refine eqf_cons (by rfl) (by go_simp; rfl) (by go_simp; rfl) (by go_simp) ?_
  exact eqf_last (by rfl) (by go_simp; rfl) (by go_simp; rfl) (by go_simp)
theorem eq_val (x0 x1 : Int) (x2 : ByteArray) (y0 y1 : Int) (y2 : ByteArray) (w : World) : (binOp .eql 48 (.agg #[.int .i64 x0, .int .i64 x1, .string x2]) (.agg #[.int .i64 y0, .int .i64 y1, .string y2])).run Tryd.prog w = .ok (.bool (x0 == y0 && (x1 == y1 && (x2.toList == y2.toList)))) w := by
  have h := eqValIn 9998 w x0 y0 x1 y1 x2 y2
  simp only [binOp, Op.equal, Op.maxDepth, Sem.run_bind]
  rw [h]
  rfl
section
variable (a0 a1 : Int) (a2 : ByteArray) (b0 b1 : Int) (b2 : ByteArray) (w : World)
/-- What the walk keeps: the two values and the result in their blocks, the package's variables. -/
def OfS (W : World) : Prop := W.heap[w.heap.size]? = some (.cells #[.int .i64 a0, .int .i64 a1, .string a2] 48 (0, 0)) ∧ W.heap[w.heap.size + 1]? = some (.cells #[.int .i64 b0, .int .i64 b1, .string b2] 48 (0, 0)) ∧
  W.heap[w.heap.size + 1 + 1]? = some (.cells #[.int .i64 0, .int .i64 0] 41 (0, 0)) ∧ Below w.heap.size w W ∧ Gl W
variable {a0 a1 a2 b0 b1 b2 w}
theorem OfS.below {W W' : World} (h : OfS a0 a1 a2 b0 b1 b2 w W) (hb : Below W.heap.size W W') : OfS a0 a1 a2 b0 b1 b2 w W' :=
  ⟨blk_below h.1 hb, blk_below h.2.1 hb, blk_below h.2.2.1 hb, h.2.2.2.1.trans (hb.mono h.2.2.2.1.size), h.2.2.2.2.below hb⟩
theorem OfS.gl {W : World} (h : OfS a0 a1 a2 b0 b1 b2 w W) : Gl W := h.2.2.2.2
theorem OfS.start (hG : Gl w) : OfS a0 a1 a2 b0 b1 b2 w (((w.alloc (.cells #[.int .i64 a0, .int .i64 a1, .string a2] 48)).alloc (.cells #[.int .i64 b0, .int .i64 b1, .string b2] 48)).alloc (.cells #[.int .i64 0, .int .i64 0] 41)) := by
  have hb : Below w.heap.size w (((w.alloc (.cells #[.int .i64 a0, .int .i64 a1, .string a2] 48)).alloc (.cells #[.int .i64 b0, .int .i64 b1, .string b2] 48)).alloc (.cells #[.int .i64 0, .int .i64 0] 41)) :=
    (((Below.refl _ w).alloc (Nat.le_refl _) _).alloc (by simp) _).alloc (by simp; omega) _
  refine ⟨blk_alloc (blk_alloc (blk_new w _) _) _, blk_alloc ?_ _, ?_, hb, hG.below hb⟩
  · have := blk_new (w.alloc (.cells #[.int .i64 a0, .int .i64 a1, .string a2] 48)) (.cells #[.int .i64 b0, .int .i64 b1, .string b2] 48)
    rwa [World.size_alloc] at this
  · have := blk_new ((w.alloc (.cells #[.int .i64 a0, .int .i64 a1, .string a2] 48)).alloc (.cells #[.int .i64 b0, .int .i64 b1, .string b2] 48)) (.cells #[.int .i64 0, .int .i64 0] 41)
    rwa [World.size_alloc, World.size_alloc] at this
theorem OfS.cells {W : World} (h : OfS a0 a1 a2 b0 b1 b2 w W) :
    W.cell? ⟨w.heap.size, 0, none⟩ = some (.int .i64 a0) ∧ W.cell? ⟨w.heap.size, 1, none⟩ = some (.int .i64 a1) ∧ W.cell? ⟨w.heap.size, 2, none⟩ = some (.string a2) ∧
    W.cell? ⟨w.heap.size + 1, 0, none⟩ = some (.int .i64 b0) ∧ W.cell? ⟨w.heap.size + 1, 1, none⟩ = some (.int .i64 b1) ∧ W.cell? ⟨w.heap.size + 1, 2, none⟩ = some (.string b2) ∧
    W.cell? ⟨w.heap.size + 1 + 1, 0, none⟩ = some (.int .i64 0) ∧ W.cell? ⟨w.heap.size + 1 + 1, 1, none⟩ = some (.int .i64 0) ∧ W.frozen? ⟨w.heap.size + 1 + 1, 0, none⟩ = false ∧ W.frozen? ⟨w.heap.size + 1 + 1, 1, none⟩ = false :=
  ⟨(blk_cell h.1 0).trans rfl, (blk_cell h.1 1).trans rfl, (blk_cell h.1 2).trans rfl, (blk_cell h.2.1 0).trans rfl, (blk_cell h.2.1 1).trans rfl, (blk_cell h.2.1 2).trans rfl,
   (blk_cell h.2.2.1 0).trans rfl, (blk_cell h.2.2.1 1).trans rfl, blk_frozen h.2.2.1 0, blk_frozen h.2.2.1 1⟩
end

set_option maxRecDepth 100000 in
set_option maxHeartbeats 4000000 in
theorem of_other (k : Nat) (m : Int) (tol a0 a1 : Int) (a2 : ByteArray) (b0 b1 : Int) (b2 : ByteArray) (w : World) (hG : Gl w) (hwf : (Lit.int .i64 m).wf = true) (hnil : ofF m = .nilFunc) (h5 : (m == 5) = false) (h1 : (m != 1) = true) :
    Calls Tryd.prog 15 #[.int .i64 m, .int .i64 tol, .agg #[.int .i64 a0, .int .i64 a1, .string a2], .agg #[.int .i64 b0, .int .i64 b1, .string b2]] w fun e w' => e = .returned (.tuple #[.agg #[.int .i64 0, .int .i64 0], .int .i64 1]) ∧ Below w.heap.size w w' := by
  have HS0 := Aside0.mk (OfS.start (a0 := a0) (a1 := a1) (a2 := a2) (b0 := b0) (b1 := b1) (b2 := b2) hG)
  clear hG
  have hu := Tryd.underlying41
  have hu2 := Tryd.underlying48
  have hnn := eq_nil_nil
  have hfn := eq_func_nil
  have hev := eq_val
  go_enter Tryd.func15, Tryd.ntmps15
  go_wp2_with (first
    | (go_at_call 23; with_reducible refine (texts_calls _).mono ?_; rintro e w1 ⟨b, rfl, hb1, hlk⟩; have hl1 := hlk m hwf; rw [show ofF m = .nilFunc from hnil] at hl1; clear hlk; have HS1 := Aside0.mk (HS0.out.below hb1); clear hb1; obtain ⟨ca0, ca1, ca2, cb0, cb1, cb2, cr0, cr1, fr0, fr1⟩ := HS1.out.cells)
    | ((with_reducible refine gate_op (op := .load 41 (.global 1)) rfl ?_); refine gl1_event rfl rfl rfl ?hGl ?_; (case hGl => exact HS1.out.2.2.2.2))
    | ((with_reducible refine gate_op (op := .load 41 (.global 0)) rfl ?_); refine gl0_event rfl rfl rfl ?hGl ?_; (case hGl => exact HS1.out.2.2.2.2)))
  refine bodyPost_ret (results_ct rfl _ _ (w.heap.size + 1 + 1) 41 #[.int .i64 0, .int .i64 0] (0, 0) _ rfl (by (with_reducible repeat (first | refine blk_drewN ?_ _ | refine blk_drew ?_ | refine blk_alloc ?_ _)); refine blk_put (cs := #[.int .i64 0, .int .i64 0]) ?_ 1 _ rfl; (with_reducible repeat (first | refine blk_drewN ?_ _ | refine blk_drew ?_ | refine blk_alloc ?_ _)); refine blk_put (cs := #[.int .i64 0, .int .i64 0]) ?_ 0 _ rfl; (with_reducible repeat (first | refine blk_drewN ?_ _ | refine blk_drew ?_ | refine blk_alloc ?_ _)); exact HS1.out.2.2.1) Tryd.underlying41 rfl (by kernel_rfl)) rfl ?_
  have HBX := HS1.out.2.2.2.1
  exact ⟨rfl, by repeat (first | exact HBX | apply below_alloc | apply pw_below_drewN | apply below_drew1 | refine below_set ?_ (by omega))⟩
set_option maxRecDepth 100000 in
set_option maxHeartbeats 4000000 in
theorem of_1_va (k : Nat) (tol a0 a1 : Int) (a2 : ByteArray) (b0 b1 : Int) (b2 : ByteArray) (w : World) (hG : Gl w) (hva : Q.value_Valid.f k a0 a1 a2 = some false) :
    Calls Tryd.prog 15 #[.int .i64 1, .int .i64 tol, .agg #[.int .i64 a0, .int .i64 a1, .string a2], .agg #[.int .i64 b0, .int .i64 b1, .string b2]] w fun e w' => e = .returned (.tuple #[.agg #[.int .i64 0, .int .i64 0], .int .i64 1]) ∧ Below w.heap.size w w' := by
  have HS0 := Aside0.mk (OfS.start (a0 := a0) (a1 := a1) (a2 := a2) (b0 := b0) (b1 := b1) (b2 := b2) hG)
  clear hG
  have hu := Tryd.underlying41
  have hu2 := Tryd.underlying48
  have hnn := eq_nil_nil
  have hfn := eq_func_nil
  have hev := eq_val
  go_enter Tryd.func15, Tryd.ntmps15
  go_wp2_with (first
    | (go_at_call 23; with_reducible refine (texts_calls _).mono ?_; rintro e w1 ⟨b, rfl, hb1, hlk⟩; have hl1 := hlk 1 (by decide); rw [show ofF 1 = .nilFunc from rfl] at hl1; clear hlk; have HS1 := Aside0.mk (HS0.out.below hb1); clear hb1; obtain ⟨ca0, ca1, ca2, cb0, cb1, cb2, cr0, cr1, fr0, fr1⟩ := HS1.out.cells)
    | (go_at_call 24; with_reducible refine (Q.value_Valid.calls k a0 a1 a2 _ _ hva).mono ?_; rintro e w2 ⟨rfl, hb2⟩; have HS2 := Aside0.mk (HS1.out.below hb2); clear hb2; clear ca0 ca1 ca2 cb0 cb1 cb2 cr0 cr1 fr0 fr1; obtain ⟨ca0, ca1, ca2, cb0, cb1, cb2, cr0, cr1, fr0, fr1⟩ := HS2.out.cells)
    | ((with_reducible refine gate_op (op := .load 41 (.global 1)) rfl ?_); refine gl1_event rfl rfl rfl ?hGl ?_; (case hGl => exact HS2.out.2.2.2.2))
    | ((with_reducible refine gate_op (op := .load 41 (.global 0)) rfl ?_); refine gl0_event rfl rfl rfl ?hGl ?_; (case hGl => exact HS2.out.2.2.2.2)))
  refine bodyPost_ret (results_ct rfl _ _ (w.heap.size + 1 + 1) 41 #[.int .i64 0, .int .i64 0] (0, 0) _ rfl (by (with_reducible repeat (first | refine blk_drewN ?_ _ | refine blk_drew ?_ | refine blk_alloc ?_ _)); refine blk_put (cs := #[.int .i64 0, .int .i64 0]) ?_ 1 _ rfl; (with_reducible repeat (first | refine blk_drewN ?_ _ | refine blk_drew ?_ | refine blk_alloc ?_ _)); refine blk_put (cs := #[.int .i64 0, .int .i64 0]) ?_ 0 _ rfl; (with_reducible repeat (first | refine blk_drewN ?_ _ | refine blk_drew ?_ | refine blk_alloc ?_ _)); exact HS2.out.2.2.1) Tryd.underlying41 rfl (by kernel_rfl)) rfl ?_
  have HBX := HS2.out.2.2.2.1
  exact ⟨rfl, by repeat (first | exact HBX | apply below_alloc | apply pw_below_drewN | apply below_drew1 | refine below_set ?_ (by omega))⟩
set_option maxRecDepth 100000 in
set_option maxHeartbeats 4000000 in
theorem of_1_vb (k : Nat) (tol a0 a1 : Int) (a2 : ByteArray) (b0 b1 : Int) (b2 : ByteArray) (w : World) (hG : Gl w) (hva : Q.value_Valid.f k a0 a1 a2 = some true) (hvb : Q.value_Valid.f k b0 b1 b2 = some false) :
    Calls Tryd.prog 15 #[.int .i64 1, .int .i64 tol, .agg #[.int .i64 a0, .int .i64 a1, .string a2], .agg #[.int .i64 b0, .int .i64 b1, .string b2]] w fun e w' => e = .returned (.tuple #[.agg #[.int .i64 0, .int .i64 0], .int .i64 1]) ∧ Below w.heap.size w w' := by
  have HS0 := Aside0.mk (OfS.start (a0 := a0) (a1 := a1) (a2 := a2) (b0 := b0) (b1 := b1) (b2 := b2) hG)
  clear hG
  have hu := Tryd.underlying41
  have hu2 := Tryd.underlying48
  have hnn := eq_nil_nil
  have hfn := eq_func_nil
  have hev := eq_val
  go_enter Tryd.func15, Tryd.ntmps15
  go_wp2_with (first
    | (go_at_call 23; with_reducible refine (texts_calls _).mono ?_; rintro e w1 ⟨b, rfl, hb1, hlk⟩; have hl1 := hlk 1 (by decide); rw [show ofF 1 = .nilFunc from rfl] at hl1; clear hlk; have HS1 := Aside0.mk (HS0.out.below hb1); clear hb1; obtain ⟨ca0, ca1, ca2, cb0, cb1, cb2, cr0, cr1, fr0, fr1⟩ := HS1.out.cells)
    | (go_at_call 24; with_reducible refine (Q.value_Valid.calls k a0 a1 a2 _ _ hva).mono ?_; rintro e w2 ⟨rfl, hb2⟩; have HS2 := Aside0.mk (HS1.out.below hb2); clear hb2; clear ca0 ca1 ca2 cb0 cb1 cb2 cr0 cr1 fr0 fr1; obtain ⟨ca0, ca1, ca2, cb0, cb1, cb2, cr0, cr1, fr0, fr1⟩ := HS2.out.cells)
    | (go_at_call 24; with_reducible refine (Q.value_Valid.calls k b0 b1 b2 _ _ hvb).mono ?_; rintro e w3 ⟨rfl, hb3⟩; have HS3 := Aside0.mk (HS2.out.below hb3); clear hb3; clear ca0 ca1 ca2 cb0 cb1 cb2 cr0 cr1 fr0 fr1; obtain ⟨ca0, ca1, ca2, cb0, cb1, cb2, cr0, cr1, fr0, fr1⟩ := HS3.out.cells)
    | ((with_reducible refine gate_op (op := .load 41 (.global 1)) rfl ?_); refine gl1_event rfl rfl rfl ?hGl ?_; (case hGl => exact HS3.out.2.2.2.2))
    | ((with_reducible refine gate_op (op := .load 41 (.global 0)) rfl ?_); refine gl0_event rfl rfl rfl ?hGl ?_; (case hGl => exact HS3.out.2.2.2.2)))
  refine bodyPost_ret (results_ct rfl _ _ (w.heap.size + 1 + 1) 41 #[.int .i64 0, .int .i64 0] (0, 0) _ rfl (by (with_reducible repeat (first | refine blk_drewN ?_ _ | refine blk_drew ?_ | refine blk_alloc ?_ _)); refine blk_put (cs := #[.int .i64 0, .int .i64 0]) ?_ 1 _ rfl; (with_reducible repeat (first | refine blk_drewN ?_ _ | refine blk_drew ?_ | refine blk_alloc ?_ _)); refine blk_put (cs := #[.int .i64 0, .int .i64 0]) ?_ 0 _ rfl; (with_reducible repeat (first | refine blk_drewN ?_ _ | refine blk_drew ?_ | refine blk_alloc ?_ _)); exact HS3.out.2.2.1) Tryd.underlying41 rfl (by kernel_rfl)) rfl ?_
  have HBX := HS3.out.2.2.2.1
  exact ⟨rfl, by repeat (first | exact HBX | apply below_alloc | apply pw_below_drewN | apply below_drew1 | refine below_set ?_ (by omega))⟩
set_option maxRecDepth 100000 in
set_option maxHeartbeats 4000000 in
theorem of_1_na (k : Nat) (tol a0 a1 : Int) (a2 : ByteArray) (b0 b1 : Int) (b2 : ByteArray) (w : World) (hG : Gl w) (hva : Q.value_Valid.f k a0 a1 a2 = some true) (hvb : Q.value_Valid.f k b0 b1 b2 = some true) (ha : (a0 == 0) = true) :
    Calls Tryd.prog 15 #[.int .i64 1, .int .i64 tol, .agg #[.int .i64 a0, .int .i64 a1, .string a2], .agg #[.int .i64 b0, .int .i64 b1, .string b2]] w fun e w' => e = .returned (.tuple #[.agg #[.int .i64 0, .int .i64 1], .int .i64 0]) ∧ Below w.heap.size w w' := by
  have HS0 := Aside0.mk (OfS.start (a0 := a0) (a1 := a1) (a2 := a2) (b0 := b0) (b1 := b1) (b2 := b2) hG)
  clear hG
  have hu := Tryd.underlying41
  have hu2 := Tryd.underlying48
  have hnn := eq_nil_nil
  have hfn := eq_func_nil
  have hev := eq_val
  go_enter Tryd.func15, Tryd.ntmps15
  go_wp2_with (first
    | (go_at_call 23; with_reducible refine (texts_calls _).mono ?_; rintro e w1 ⟨b, rfl, hb1, hlk⟩; have hl1 := hlk 1 (by decide); rw [show ofF 1 = .nilFunc from rfl] at hl1; clear hlk; have HS1 := Aside0.mk (HS0.out.below hb1); clear hb1; obtain ⟨ca0, ca1, ca2, cb0, cb1, cb2, cr0, cr1, fr0, fr1⟩ := HS1.out.cells)
    | (go_at_call 24; with_reducible refine (Q.value_Valid.calls k a0 a1 a2 _ _ hva).mono ?_; rintro e w2 ⟨rfl, hb2⟩; have HS2 := Aside0.mk (HS1.out.below hb2); clear hb2; clear ca0 ca1 ca2 cb0 cb1 cb2 cr0 cr1 fr0 fr1; obtain ⟨ca0, ca1, ca2, cb0, cb1, cb2, cr0, cr1, fr0, fr1⟩ := HS2.out.cells)
    | (go_at_call 24; with_reducible refine (Q.value_Valid.calls k b0 b1 b2 _ _ hvb).mono ?_; rintro e w3 ⟨rfl, hb3⟩; have HS3 := Aside0.mk (HS2.out.below hb3); clear hb3; clear ca0 ca1 ca2 cb0 cb1 cb2 cr0 cr1 fr0 fr1; obtain ⟨ca0, ca1, ca2, cb0, cb1, cb2, cr0, cr1, fr0, fr1⟩ := HS3.out.cells)
    | ((with_reducible refine gate_op (op := .load 41 (.global 1)) rfl ?_); refine gl1_event rfl rfl rfl ?hGl ?_; (case hGl => exact HS3.out.2.2.2.2))
    | ((with_reducible refine gate_op (op := .load 41 (.global 0)) rfl ?_); refine gl0_event rfl rfl rfl ?hGl ?_; (case hGl => exact HS3.out.2.2.2.2)))
  refine bodyPost_ret (results_ct rfl _ _ (w.heap.size + 1 + 1) 41 #[.int .i64 0, .int .i64 1] (0, 0) _ rfl (by (with_reducible repeat (first | refine blk_drewN ?_ _ | refine blk_drew ?_ | refine blk_alloc ?_ _)); refine blk_put (cs := #[.int .i64 0, .int .i64 0]) ?_ 1 _ rfl; (with_reducible repeat (first | refine blk_drewN ?_ _ | refine blk_drew ?_ | refine blk_alloc ?_ _)); refine blk_put (cs := #[.int .i64 0, .int .i64 0]) ?_ 0 _ rfl; (with_reducible repeat (first | refine blk_drewN ?_ _ | refine blk_drew ?_ | refine blk_alloc ?_ _)); exact HS3.out.2.2.1) Tryd.underlying41 rfl (by kernel_rfl)) rfl ?_
  have HBX := HS3.out.2.2.2.1
  exact ⟨rfl, by repeat (first | exact HBX | apply below_alloc | apply pw_below_drewN | apply below_drew1 | refine below_set ?_ (by omega))⟩
set_option maxRecDepth 100000 in
set_option maxHeartbeats 4000000 in
theorem of_1_nb (k : Nat) (tol a0 a1 : Int) (a2 : ByteArray) (b0 b1 : Int) (b2 : ByteArray) (w : World) (hG : Gl w) (hva : Q.value_Valid.f k a0 a1 a2 = some true) (hvb : Q.value_Valid.f k b0 b1 b2 = some true) (ha : (a0 == 0) = false) (hb : (b0 == 0) = true) :
    Calls Tryd.prog 15 #[.int .i64 1, .int .i64 tol, .agg #[.int .i64 a0, .int .i64 a1, .string a2], .agg #[.int .i64 b0, .int .i64 b1, .string b2]] w fun e w' => e = .returned (.tuple #[.agg #[.int .i64 0, .int .i64 1], .int .i64 0]) ∧ Below w.heap.size w w' := by
  have HS0 := Aside0.mk (OfS.start (a0 := a0) (a1 := a1) (a2 := a2) (b0 := b0) (b1 := b1) (b2 := b2) hG)
  clear hG
  have hu := Tryd.underlying41
  have hu2 := Tryd.underlying48
  have hnn := eq_nil_nil
  have hfn := eq_func_nil
  have hev := eq_val
  go_enter Tryd.func15, Tryd.ntmps15
  go_wp2_with (first
    | (go_at_call 23; with_reducible refine (texts_calls _).mono ?_; rintro e w1 ⟨b, rfl, hb1, hlk⟩; have hl1 := hlk 1 (by decide); rw [show ofF 1 = .nilFunc from rfl] at hl1; clear hlk; have HS1 := Aside0.mk (HS0.out.below hb1); clear hb1; obtain ⟨ca0, ca1, ca2, cb0, cb1, cb2, cr0, cr1, fr0, fr1⟩ := HS1.out.cells)
    | (go_at_call 24; with_reducible refine (Q.value_Valid.calls k a0 a1 a2 _ _ hva).mono ?_; rintro e w2 ⟨rfl, hb2⟩; have HS2 := Aside0.mk (HS1.out.below hb2); clear hb2; clear ca0 ca1 ca2 cb0 cb1 cb2 cr0 cr1 fr0 fr1; obtain ⟨ca0, ca1, ca2, cb0, cb1, cb2, cr0, cr1, fr0, fr1⟩ := HS2.out.cells)
    | (go_at_call 24; with_reducible refine (Q.value_Valid.calls k b0 b1 b2 _ _ hvb).mono ?_; rintro e w3 ⟨rfl, hb3⟩; have HS3 := Aside0.mk (HS2.out.below hb3); clear hb3; clear ca0 ca1 ca2 cb0 cb1 cb2 cr0 cr1 fr0 fr1; obtain ⟨ca0, ca1, ca2, cb0, cb1, cb2, cr0, cr1, fr0, fr1⟩ := HS3.out.cells)
    | ((with_reducible refine gate_op (op := .load 41 (.global 1)) rfl ?_); refine gl1_event rfl rfl rfl ?hGl ?_; (case hGl => exact HS3.out.2.2.2.2))
    | ((with_reducible refine gate_op (op := .load 41 (.global 0)) rfl ?_); refine gl0_event rfl rfl rfl ?hGl ?_; (case hGl => exact HS3.out.2.2.2.2)))
  refine bodyPost_ret (results_ct rfl _ _ (w.heap.size + 1 + 1) 41 #[.int .i64 0, .int .i64 1] (0, 0) _ rfl (by (with_reducible repeat (first | refine blk_drewN ?_ _ | refine blk_drew ?_ | refine blk_alloc ?_ _)); refine blk_put (cs := #[.int .i64 0, .int .i64 0]) ?_ 1 _ rfl; (with_reducible repeat (first | refine blk_drewN ?_ _ | refine blk_drew ?_ | refine blk_alloc ?_ _)); refine blk_put (cs := #[.int .i64 0, .int .i64 0]) ?_ 0 _ rfl; (with_reducible repeat (first | refine blk_drewN ?_ _ | refine blk_drew ?_ | refine blk_alloc ?_ _)); exact HS3.out.2.2.1) Tryd.underlying41 rfl (by kernel_rfl)) rfl ?_
  have HBX := HS3.out.2.2.2.1
  exact ⟨rfl, by repeat (first | exact HBX | apply below_alloc | apply pw_below_drewN | apply below_drew1 | refine below_set ?_ (by omega))⟩
set_option maxRecDepth 100000 in
set_option maxHeartbeats 4000000 in
theorem of_1_eq (k : Nat) (tol a0 a1 : Int) (a2 : ByteArray) (b0 b1 : Int) (b2 : ByteArray) (w : World) (hG : Gl w) (hva : Q.value_Valid.f k a0 a1 a2 = some true) (hvb : Q.value_Valid.f k b0 b1 b2 = some true) (ha : (a0 == 0) = false) (hb : (b0 == 0) = false) (e0 : (a0 == b0) = true) (e1 : (a1 == b1) = true) (e2 : (a2.toList == b2.toList) = true) :
    Calls Tryd.prog 15 #[.int .i64 1, .int .i64 tol, .agg #[.int .i64 a0, .int .i64 a1, .string a2], .agg #[.int .i64 b0, .int .i64 b1, .string b2]] w fun e w' => e = .returned (.tuple #[.agg #[.int .i64 1, .int .i64 1], .int .i64 0]) ∧ Below w.heap.size w w' := by
  have HS0 := Aside0.mk (OfS.start (a0 := a0) (a1 := a1) (a2 := a2) (b0 := b0) (b1 := b1) (b2 := b2) hG)
  clear hG
  have hu := Tryd.underlying41
  have hu2 := Tryd.underlying48
  have hnn := eq_nil_nil
  have hfn := eq_func_nil
  have hev := eq_val
  go_enter Tryd.func15, Tryd.ntmps15
  go_wp2_with (first
    | (go_at_call 23; with_reducible refine (texts_calls _).mono ?_; rintro e w1 ⟨b, rfl, hb1, hlk⟩; have hl1 := hlk 1 (by decide); rw [show ofF 1 = .nilFunc from rfl] at hl1; clear hlk; have HS1 := Aside0.mk (HS0.out.below hb1); clear hb1; obtain ⟨ca0, ca1, ca2, cb0, cb1, cb2, cr0, cr1, fr0, fr1⟩ := HS1.out.cells)
    | (go_at_call 24; with_reducible refine (Q.value_Valid.calls k a0 a1 a2 _ _ hva).mono ?_; rintro e w2 ⟨rfl, hb2⟩; have HS2 := Aside0.mk (HS1.out.below hb2); clear hb2; clear ca0 ca1 ca2 cb0 cb1 cb2 cr0 cr1 fr0 fr1; obtain ⟨ca0, ca1, ca2, cb0, cb1, cb2, cr0, cr1, fr0, fr1⟩ := HS2.out.cells)
    | (go_at_call 24; with_reducible refine (Q.value_Valid.calls k b0 b1 b2 _ _ hvb).mono ?_; rintro e w3 ⟨rfl, hb3⟩; have HS3 := Aside0.mk (HS2.out.below hb3); clear hb3; clear ca0 ca1 ca2 cb0 cb1 cb2 cr0 cr1 fr0 fr1; obtain ⟨ca0, ca1, ca2, cb0, cb1, cb2, cr0, cr1, fr0, fr1⟩ := HS3.out.cells)
    | ((with_reducible refine gate_op (op := .load 41 (.global 1)) rfl ?_); refine gl1_event rfl rfl rfl ?hGl ?_; (case hGl => exact HS3.out.2.2.2.2))
    | ((with_reducible refine gate_op (op := .load 41 (.global 0)) rfl ?_); refine gl0_event rfl rfl rfl ?hGl ?_; (case hGl => exact HS3.out.2.2.2.2)))
  refine bodyPost_ret (results_ct rfl _ _ (w.heap.size + 1 + 1) 41 #[.int .i64 1, .int .i64 1] (0, 0) _ rfl (by (with_reducible repeat (first | refine blk_drewN ?_ _ | refine blk_drew ?_ | refine blk_alloc ?_ _)); refine blk_put (cs := #[.int .i64 1, .int .i64 0]) ?_ 1 _ rfl; (with_reducible repeat (first | refine blk_drewN ?_ _ | refine blk_drew ?_ | refine blk_alloc ?_ _)); refine blk_put (cs := #[.int .i64 0, .int .i64 0]) ?_ 0 _ rfl; (with_reducible repeat (first | refine blk_drewN ?_ _ | refine blk_drew ?_ | refine blk_alloc ?_ _)); exact HS3.out.2.2.1) Tryd.underlying41 rfl (by kernel_rfl)) rfl ?_
  have HBX := HS3.out.2.2.2.1
  exact ⟨rfl, by repeat (first | exact HBX | apply below_alloc | apply pw_below_drewN | apply below_drew1 | refine below_set ?_ (by omega))⟩
set_option maxRecDepth 100000 in
set_option maxHeartbeats 4000000 in
theorem of_1_n0 (k : Nat) (tol a0 a1 : Int) (a2 : ByteArray) (b0 b1 : Int) (b2 : ByteArray) (w : World) (hG : Gl w) (hva : Q.value_Valid.f k a0 a1 a2 = some true) (hvb : Q.value_Valid.f k b0 b1 b2 = some true) (ha : (a0 == 0) = false) (hb : (b0 == 0) = false) (e0 : (a0 == b0) = false) :
    Calls Tryd.prog 15 #[.int .i64 1, .int .i64 tol, .agg #[.int .i64 a0, .int .i64 a1, .string a2], .agg #[.int .i64 b0, .int .i64 b1, .string b2]] w fun e w' => e = .returned (.tuple #[.agg #[.int .i64 0, .int .i64 1], .int .i64 0]) ∧ Below w.heap.size w w' := by
  have HS0 := Aside0.mk (OfS.start (a0 := a0) (a1 := a1) (a2 := a2) (b0 := b0) (b1 := b1) (b2 := b2) hG)
  clear hG
  have hu := Tryd.underlying41
  have hu2 := Tryd.underlying48
  have hnn := eq_nil_nil
  have hfn := eq_func_nil
  have hev := eq_val
  go_enter Tryd.func15, Tryd.ntmps15
  go_wp2_with (first
    | (go_at_call 23; with_reducible refine (texts_calls _).mono ?_; rintro e w1 ⟨b, rfl, hb1, hlk⟩; have hl1 := hlk 1 (by decide); rw [show ofF 1 = .nilFunc from rfl] at hl1; clear hlk; have HS1 := Aside0.mk (HS0.out.below hb1); clear hb1; obtain ⟨ca0, ca1, ca2, cb0, cb1, cb2, cr0, cr1, fr0, fr1⟩ := HS1.out.cells)
    | (go_at_call 24; with_reducible refine (Q.value_Valid.calls k a0 a1 a2 _ _ hva).mono ?_; rintro e w2 ⟨rfl, hb2⟩; have HS2 := Aside0.mk (HS1.out.below hb2); clear hb2; clear ca0 ca1 ca2 cb0 cb1 cb2 cr0 cr1 fr0 fr1; obtain ⟨ca0, ca1, ca2, cb0, cb1, cb2, cr0, cr1, fr0, fr1⟩ := HS2.out.cells)
    | (go_at_call 24; with_reducible refine (Q.value_Valid.calls k b0 b1 b2 _ _ hvb).mono ?_; rintro e w3 ⟨rfl, hb3⟩; have HS3 := Aside0.mk (HS2.out.below hb3); clear hb3; clear ca0 ca1 ca2 cb0 cb1 cb2 cr0 cr1 fr0 fr1; obtain ⟨ca0, ca1, ca2, cb0, cb1, cb2, cr0, cr1, fr0, fr1⟩ := HS3.out.cells)
    | ((with_reducible refine gate_op (op := .load 41 (.global 1)) rfl ?_); refine gl1_event rfl rfl rfl ?hGl ?_; (case hGl => exact HS3.out.2.2.2.2))
    | ((with_reducible refine gate_op (op := .load 41 (.global 0)) rfl ?_); refine gl0_event rfl rfl rfl ?hGl ?_; (case hGl => exact HS3.out.2.2.2.2)))
  refine bodyPost_ret (results_ct rfl _ _ (w.heap.size + 1 + 1) 41 #[.int .i64 0, .int .i64 1] (0, 0) _ rfl (by (with_reducible repeat (first | refine blk_drewN ?_ _ | refine blk_drew ?_ | refine blk_alloc ?_ _)); refine blk_put (cs := #[.int .i64 0, .int .i64 0]) ?_ 1 _ rfl; (with_reducible repeat (first | refine blk_drewN ?_ _ | refine blk_drew ?_ | refine blk_alloc ?_ _)); refine blk_put (cs := #[.int .i64 0, .int .i64 0]) ?_ 0 _ rfl; (with_reducible repeat (first | refine blk_drewN ?_ _ | refine blk_drew ?_ | refine blk_alloc ?_ _)); exact HS3.out.2.2.1) Tryd.underlying41 rfl (by kernel_rfl)) rfl ?_
  have HBX := HS3.out.2.2.2.1
  exact ⟨rfl, by repeat (first | exact HBX | apply below_alloc | apply pw_below_drewN | apply below_drew1 | refine below_set ?_ (by omega))⟩
set_option maxRecDepth 100000 in
set_option maxHeartbeats 4000000 in
theorem of_1_n1 (k : Nat) (tol a0 a1 : Int) (a2 : ByteArray) (b0 b1 : Int) (b2 : ByteArray) (w : World) (hG : Gl w) (hva : Q.value_Valid.f k a0 a1 a2 = some true) (hvb : Q.value_Valid.f k b0 b1 b2 = some true) (ha : (a0 == 0) = false) (hb : (b0 == 0) = false) (e0 : (a0 == b0) = true) (e1 : (a1 == b1) = false) :
    Calls Tryd.prog 15 #[.int .i64 1, .int .i64 tol, .agg #[.int .i64 a0, .int .i64 a1, .string a2], .agg #[.int .i64 b0, .int .i64 b1, .string b2]] w fun e w' => e = .returned (.tuple #[.agg #[.int .i64 0, .int .i64 1], .int .i64 0]) ∧ Below w.heap.size w w' := by
  have HS0 := Aside0.mk (OfS.start (a0 := a0) (a1 := a1) (a2 := a2) (b0 := b0) (b1 := b1) (b2 := b2) hG)
  clear hG
  have hu := Tryd.underlying41
  have hu2 := Tryd.underlying48
  have hnn := eq_nil_nil
  have hfn := eq_func_nil
  have hev := eq_val
  go_enter Tryd.func15, Tryd.ntmps15
  go_wp2_with (first
    | (go_at_call 23; with_reducible refine (texts_calls _).mono ?_; rintro e w1 ⟨b, rfl, hb1, hlk⟩; have hl1 := hlk 1 (by decide); rw [show ofF 1 = .nilFunc from rfl] at hl1; clear hlk; have HS1 := Aside0.mk (HS0.out.below hb1); clear hb1; obtain ⟨ca0, ca1, ca2, cb0, cb1, cb2, cr0, cr1, fr0, fr1⟩ := HS1.out.cells)
    | (go_at_call 24; with_reducible refine (Q.value_Valid.calls k a0 a1 a2 _ _ hva).mono ?_; rintro e w2 ⟨rfl, hb2⟩; have HS2 := Aside0.mk (HS1.out.below hb2); clear hb2; clear ca0 ca1 ca2 cb0 cb1 cb2 cr0 cr1 fr0 fr1; obtain ⟨ca0, ca1, ca2, cb0, cb1, cb2, cr0, cr1, fr0, fr1⟩ := HS2.out.cells)
    | (go_at_call 24; with_reducible refine (Q.value_Valid.calls k b0 b1 b2 _ _ hvb).mono ?_; rintro e w3 ⟨rfl, hb3⟩; have HS3 := Aside0.mk (HS2.out.below hb3); clear hb3; clear ca0 ca1 ca2 cb0 cb1 cb2 cr0 cr1 fr0 fr1; obtain ⟨ca0, ca1, ca2, cb0, cb1, cb2, cr0, cr1, fr0, fr1⟩ := HS3.out.cells)
    | ((with_reducible refine gate_op (op := .load 41 (.global 1)) rfl ?_); refine gl1_event rfl rfl rfl ?hGl ?_; (case hGl => exact HS3.out.2.2.2.2))
    | ((with_reducible refine gate_op (op := .load 41 (.global 0)) rfl ?_); refine gl0_event rfl rfl rfl ?hGl ?_; (case hGl => exact HS3.out.2.2.2.2)))
  refine bodyPost_ret (results_ct rfl _ _ (w.heap.size + 1 + 1) 41 #[.int .i64 0, .int .i64 1] (0, 0) _ rfl (by (with_reducible repeat (first | refine blk_drewN ?_ _ | refine blk_drew ?_ | refine blk_alloc ?_ _)); refine blk_put (cs := #[.int .i64 0, .int .i64 0]) ?_ 1 _ rfl; (with_reducible repeat (first | refine blk_drewN ?_ _ | refine blk_drew ?_ | refine blk_alloc ?_ _)); refine blk_put (cs := #[.int .i64 0, .int .i64 0]) ?_ 0 _ rfl; (with_reducible repeat (first | refine blk_drewN ?_ _ | refine blk_drew ?_ | refine blk_alloc ?_ _)); exact HS3.out.2.2.1) Tryd.underlying41 rfl (by kernel_rfl)) rfl ?_
  have HBX := HS3.out.2.2.2.1
  exact ⟨rfl, by repeat (first | exact HBX | apply below_alloc | apply pw_below_drewN | apply below_drew1 | refine below_set ?_ (by omega))⟩
set_option maxRecDepth 100000 in
set_option maxHeartbeats 4000000 in
theorem of_1_n2 (k : Nat) (tol a0 a1 : Int) (a2 : ByteArray) (b0 b1 : Int) (b2 : ByteArray) (w : World) (hG : Gl w) (hva : Q.value_Valid.f k a0 a1 a2 = some true) (hvb : Q.value_Valid.f k b0 b1 b2 = some true) (ha : (a0 == 0) = false) (hb : (b0 == 0) = false) (e0 : (a0 == b0) = true) (e1 : (a1 == b1) = true) (e2 : (a2.toList == b2.toList) = false) :
    Calls Tryd.prog 15 #[.int .i64 1, .int .i64 tol, .agg #[.int .i64 a0, .int .i64 a1, .string a2], .agg #[.int .i64 b0, .int .i64 b1, .string b2]] w fun e w' => e = .returned (.tuple #[.agg #[.int .i64 0, .int .i64 1], .int .i64 0]) ∧ Below w.heap.size w w' := by
  have HS0 := Aside0.mk (OfS.start (a0 := a0) (a1 := a1) (a2 := a2) (b0 := b0) (b1 := b1) (b2 := b2) hG)
  clear hG
  have hu := Tryd.underlying41
  have hu2 := Tryd.underlying48
  have hnn := eq_nil_nil
  have hfn := eq_func_nil
  have hev := eq_val
  go_enter Tryd.func15, Tryd.ntmps15
  go_wp2_with (first
    | (go_at_call 23; with_reducible refine (texts_calls _).mono ?_; rintro e w1 ⟨b, rfl, hb1, hlk⟩; have hl1 := hlk 1 (by decide); rw [show ofF 1 = .nilFunc from rfl] at hl1; clear hlk; have HS1 := Aside0.mk (HS0.out.below hb1); clear hb1; obtain ⟨ca0, ca1, ca2, cb0, cb1, cb2, cr0, cr1, fr0, fr1⟩ := HS1.out.cells)
    | (go_at_call 24; with_reducible refine (Q.value_Valid.calls k a0 a1 a2 _ _ hva).mono ?_; rintro e w2 ⟨rfl, hb2⟩; have HS2 := Aside0.mk (HS1.out.below hb2); clear hb2; clear ca0 ca1 ca2 cb0 cb1 cb2 cr0 cr1 fr0 fr1; obtain ⟨ca0, ca1, ca2, cb0, cb1, cb2, cr0, cr1, fr0, fr1⟩ := HS2.out.cells)
    | (go_at_call 24; with_reducible refine (Q.value_Valid.calls k b0 b1 b2 _ _ hvb).mono ?_; rintro e w3 ⟨rfl, hb3⟩; have HS3 := Aside0.mk (HS2.out.below hb3); clear hb3; clear ca0 ca1 ca2 cb0 cb1 cb2 cr0 cr1 fr0 fr1; obtain ⟨ca0, ca1, ca2, cb0, cb1, cb2, cr0, cr1, fr0, fr1⟩ := HS3.out.cells)
    | ((with_reducible refine gate_op (op := .load 41 (.global 1)) rfl ?_); refine gl1_event rfl rfl rfl ?hGl ?_; (case hGl => exact HS3.out.2.2.2.2))
    | ((with_reducible refine gate_op (op := .load 41 (.global 0)) rfl ?_); refine gl0_event rfl rfl rfl ?hGl ?_; (case hGl => exact HS3.out.2.2.2.2)))
  refine bodyPost_ret (results_ct rfl _ _ (w.heap.size + 1 + 1) 41 #[.int .i64 0, .int .i64 1] (0, 0) _ rfl (by (with_reducible repeat (first | refine blk_drewN ?_ _ | refine blk_drew ?_ | refine blk_alloc ?_ _)); refine blk_put (cs := #[.int .i64 0, .int .i64 0]) ?_ 1 _ rfl; (with_reducible repeat (first | refine blk_drewN ?_ _ | refine blk_drew ?_ | refine blk_alloc ?_ _)); refine blk_put (cs := #[.int .i64 0, .int .i64 0]) ?_ 0 _ rfl; (with_reducible repeat (first | refine blk_drewN ?_ _ | refine blk_drew ?_ | refine blk_alloc ?_ _)); exact HS3.out.2.2.1) Tryd.underlying41 rfl (by kernel_rfl)) rfl ?_
  have HBX := HS3.out.2.2.2.1
  exact ⟨rfl, by repeat (first | exact HBX | apply below_alloc | apply pw_below_drewN | apply below_drew1 | refine below_set ?_ (by omega))⟩
set_option maxRecDepth 100000 in
set_option maxHeartbeats 4000000 in
theorem of_2_va (k : Nat) (tol a0 a1 : Int) (a2 : ByteArray) (b0 b1 : Int) (b2 : ByteArray) (w : World) (hG : Gl w) (hva : Q.value_Valid.f k a0 a1 a2 = some false) :
    Calls Tryd.prog 15 #[.int .i64 2, .int .i64 tol, .agg #[.int .i64 a0, .int .i64 a1, .string a2], .agg #[.int .i64 b0, .int .i64 b1, .string b2]] w fun e w' => e = .returned (.tuple #[.agg #[.int .i64 0, .int .i64 0], .int .i64 1]) ∧ Below w.heap.size w w' := by
  have HS0 := Aside0.mk (OfS.start (a0 := a0) (a1 := a1) (a2 := a2) (b0 := b0) (b1 := b1) (b2 := b2) hG)
  clear hG
  have hu := Tryd.underlying41
  have hu2 := Tryd.underlying48
  have hnn := eq_nil_nil
  have hfn := eq_func_nil
  have hev := eq_val
  go_enter Tryd.func15, Tryd.ntmps15
  go_wp2_with (first
    | (go_at_call 23; with_reducible refine (texts_calls _).mono ?_; rintro e w1 ⟨b, rfl, hb1, hlk⟩; have hl1 := hlk 2 (by decide); rw [show ofF 2 = .func (.func 35) #[] #[] from rfl] at hl1; clear hlk; have HS1 := Aside0.mk (HS0.out.below hb1); clear hb1; obtain ⟨ca0, ca1, ca2, cb0, cb1, cb2, cr0, cr1, fr0, fr1⟩ := HS1.out.cells)
    | (go_at_call 24; with_reducible refine (Q.value_Valid.calls k a0 a1 a2 _ _ hva).mono ?_; rintro e w2 ⟨rfl, hb2⟩; have HS2 := Aside0.mk (HS1.out.below hb2); clear hb2; clear ca0 ca1 ca2 cb0 cb1 cb2 cr0 cr1 fr0 fr1; obtain ⟨ca0, ca1, ca2, cb0, cb1, cb2, cr0, cr1, fr0, fr1⟩ := HS2.out.cells)
    | ((with_reducible refine gate_op (op := .load 41 (.global 1)) rfl ?_); refine gl1_event rfl rfl rfl ?hGl ?_; (case hGl => exact HS2.out.2.2.2.2))
    | ((with_reducible refine gate_op (op := .load 41 (.global 0)) rfl ?_); refine gl0_event rfl rfl rfl ?hGl ?_; (case hGl => exact HS2.out.2.2.2.2)))
  refine bodyPost_ret (results_ct rfl _ _ (w.heap.size + 1 + 1) 41 #[.int .i64 0, .int .i64 0] (0, 0) _ rfl (by (with_reducible repeat (first | refine blk_drewN ?_ _ | refine blk_drew ?_ | refine blk_alloc ?_ _)); refine blk_put (cs := #[.int .i64 0, .int .i64 0]) ?_ 1 _ rfl; (with_reducible repeat (first | refine blk_drewN ?_ _ | refine blk_drew ?_ | refine blk_alloc ?_ _)); refine blk_put (cs := #[.int .i64 0, .int .i64 0]) ?_ 0 _ rfl; (with_reducible repeat (first | refine blk_drewN ?_ _ | refine blk_drew ?_ | refine blk_alloc ?_ _)); exact HS2.out.2.2.1) Tryd.underlying41 rfl (by kernel_rfl)) rfl ?_
  have HBX := HS2.out.2.2.2.1
  exact ⟨rfl, by repeat (first | exact HBX | apply below_alloc | apply pw_below_drewN | apply below_drew1 | refine below_set ?_ (by omega))⟩
set_option maxRecDepth 100000 in
set_option maxHeartbeats 4000000 in
theorem of_2_vb (k : Nat) (tol a0 a1 : Int) (a2 : ByteArray) (b0 b1 : Int) (b2 : ByteArray) (w : World) (hG : Gl w) (hva : Q.value_Valid.f k a0 a1 a2 = some true) (hvb : Q.value_Valid.f k b0 b1 b2 = some false) :
    Calls Tryd.prog 15 #[.int .i64 2, .int .i64 tol, .agg #[.int .i64 a0, .int .i64 a1, .string a2], .agg #[.int .i64 b0, .int .i64 b1, .string b2]] w fun e w' => e = .returned (.tuple #[.agg #[.int .i64 0, .int .i64 0], .int .i64 1]) ∧ Below w.heap.size w w' := by
  have HS0 := Aside0.mk (OfS.start (a0 := a0) (a1 := a1) (a2 := a2) (b0 := b0) (b1 := b1) (b2 := b2) hG)
  clear hG
  have hu := Tryd.underlying41
  have hu2 := Tryd.underlying48
  have hnn := eq_nil_nil
  have hfn := eq_func_nil
  have hev := eq_val
  go_enter Tryd.func15, Tryd.ntmps15
  go_wp2_with (first
    | (go_at_call 23; with_reducible refine (texts_calls _).mono ?_; rintro e w1 ⟨b, rfl, hb1, hlk⟩; have hl1 := hlk 2 (by decide); rw [show ofF 2 = .func (.func 35) #[] #[] from rfl] at hl1; clear hlk; have HS1 := Aside0.mk (HS0.out.below hb1); clear hb1; obtain ⟨ca0, ca1, ca2, cb0, cb1, cb2, cr0, cr1, fr0, fr1⟩ := HS1.out.cells)
    | (go_at_call 24; with_reducible refine (Q.value_Valid.calls k a0 a1 a2 _ _ hva).mono ?_; rintro e w2 ⟨rfl, hb2⟩; have HS2 := Aside0.mk (HS1.out.below hb2); clear hb2; clear ca0 ca1 ca2 cb0 cb1 cb2 cr0 cr1 fr0 fr1; obtain ⟨ca0, ca1, ca2, cb0, cb1, cb2, cr0, cr1, fr0, fr1⟩ := HS2.out.cells)
    | (go_at_call 24; with_reducible refine (Q.value_Valid.calls k b0 b1 b2 _ _ hvb).mono ?_; rintro e w3 ⟨rfl, hb3⟩; have HS3 := Aside0.mk (HS2.out.below hb3); clear hb3; clear ca0 ca1 ca2 cb0 cb1 cb2 cr0 cr1 fr0 fr1; obtain ⟨ca0, ca1, ca2, cb0, cb1, cb2, cr0, cr1, fr0, fr1⟩ := HS3.out.cells)
    | ((with_reducible refine gate_op (op := .load 41 (.global 1)) rfl ?_); refine gl1_event rfl rfl rfl ?hGl ?_; (case hGl => exact HS3.out.2.2.2.2))
    | ((with_reducible refine gate_op (op := .load 41 (.global 0)) rfl ?_); refine gl0_event rfl rfl rfl ?hGl ?_; (case hGl => exact HS3.out.2.2.2.2)))
  refine bodyPost_ret (results_ct rfl _ _ (w.heap.size + 1 + 1) 41 #[.int .i64 0, .int .i64 0] (0, 0) _ rfl (by (with_reducible repeat (first | refine blk_drewN ?_ _ | refine blk_drew ?_ | refine blk_alloc ?_ _)); refine blk_put (cs := #[.int .i64 0, .int .i64 0]) ?_ 1 _ rfl; (with_reducible repeat (first | refine blk_drewN ?_ _ | refine blk_drew ?_ | refine blk_alloc ?_ _)); refine blk_put (cs := #[.int .i64 0, .int .i64 0]) ?_ 0 _ rfl; (with_reducible repeat (first | refine blk_drewN ?_ _ | refine blk_drew ?_ | refine blk_alloc ?_ _)); exact HS3.out.2.2.1) Tryd.underlying41 rfl (by kernel_rfl)) rfl ?_
  have HBX := HS3.out.2.2.2.1
  exact ⟨rfl, by repeat (first | exact HBX | apply below_alloc | apply pw_below_drewN | apply below_drew1 | refine below_set ?_ (by omega))⟩
set_option maxRecDepth 100000 in
set_option maxHeartbeats 4000000 in
theorem of_2_na (k : Nat) (tol a0 a1 : Int) (a2 : ByteArray) (b0 b1 : Int) (b2 : ByteArray) (w : World) (hG : Gl w) (hva : Q.value_Valid.f k a0 a1 a2 = some true) (hvb : Q.value_Valid.f k b0 b1 b2 = some true) (ha : (a0 == 0) = true) :
    Calls Tryd.prog 15 #[.int .i64 2, .int .i64 tol, .agg #[.int .i64 a0, .int .i64 a1, .string a2], .agg #[.int .i64 b0, .int .i64 b1, .string b2]] w fun e w' => e = .returned (.tuple #[.agg #[.int .i64 0, .int .i64 1], .int .i64 0]) ∧ Below w.heap.size w w' := by
  have HS0 := Aside0.mk (OfS.start (a0 := a0) (a1 := a1) (a2 := a2) (b0 := b0) (b1 := b1) (b2 := b2) hG)
  clear hG
  have hu := Tryd.underlying41
  have hu2 := Tryd.underlying48
  have hnn := eq_nil_nil
  have hfn := eq_func_nil
  have hev := eq_val
  go_enter Tryd.func15, Tryd.ntmps15
  go_wp2_with (first
    | (go_at_call 23; with_reducible refine (texts_calls _).mono ?_; rintro e w1 ⟨b, rfl, hb1, hlk⟩; have hl1 := hlk 2 (by decide); rw [show ofF 2 = .func (.func 35) #[] #[] from rfl] at hl1; clear hlk; have HS1 := Aside0.mk (HS0.out.below hb1); clear hb1; obtain ⟨ca0, ca1, ca2, cb0, cb1, cb2, cr0, cr1, fr0, fr1⟩ := HS1.out.cells)
    | (go_at_call 24; with_reducible refine (Q.value_Valid.calls k a0 a1 a2 _ _ hva).mono ?_; rintro e w2 ⟨rfl, hb2⟩; have HS2 := Aside0.mk (HS1.out.below hb2); clear hb2; clear ca0 ca1 ca2 cb0 cb1 cb2 cr0 cr1 fr0 fr1; obtain ⟨ca0, ca1, ca2, cb0, cb1, cb2, cr0, cr1, fr0, fr1⟩ := HS2.out.cells)
    | (go_at_call 24; with_reducible refine (Q.value_Valid.calls k b0 b1 b2 _ _ hvb).mono ?_; rintro e w3 ⟨rfl, hb3⟩; have HS3 := Aside0.mk (HS2.out.below hb3); clear hb3; clear ca0 ca1 ca2 cb0 cb1 cb2 cr0 cr1 fr0 fr1; obtain ⟨ca0, ca1, ca2, cb0, cb1, cb2, cr0, cr1, fr0, fr1⟩ := HS3.out.cells)
    | ((with_reducible refine gate_op (op := .load 41 (.global 1)) rfl ?_); refine gl1_event rfl rfl rfl ?hGl ?_; (case hGl => exact HS3.out.2.2.2.2))
    | ((with_reducible refine gate_op (op := .load 41 (.global 0)) rfl ?_); refine gl0_event rfl rfl rfl ?hGl ?_; (case hGl => exact HS3.out.2.2.2.2)))
  refine bodyPost_ret (results_ct rfl _ _ (w.heap.size + 1 + 1) 41 #[.int .i64 0, .int .i64 1] (0, 0) _ rfl (by (with_reducible repeat (first | refine blk_drewN ?_ _ | refine blk_drew ?_ | refine blk_alloc ?_ _)); refine blk_put (cs := #[.int .i64 0, .int .i64 0]) ?_ 1 _ rfl; (with_reducible repeat (first | refine blk_drewN ?_ _ | refine blk_drew ?_ | refine blk_alloc ?_ _)); refine blk_put (cs := #[.int .i64 0, .int .i64 0]) ?_ 0 _ rfl; (with_reducible repeat (first | refine blk_drewN ?_ _ | refine blk_drew ?_ | refine blk_alloc ?_ _)); exact HS3.out.2.2.1) Tryd.underlying41 rfl (by kernel_rfl)) rfl ?_
  have HBX := HS3.out.2.2.2.1
  exact ⟨rfl, by repeat (first | exact HBX | apply below_alloc | apply pw_below_drewN | apply below_drew1 | refine below_set ?_ (by omega))⟩
set_option maxRecDepth 100000 in
set_option maxHeartbeats 4000000 in
theorem of_2_nb (k : Nat) (tol a0 a1 : Int) (a2 : ByteArray) (b0 b1 : Int) (b2 : ByteArray) (w : World) (hG : Gl w) (hva : Q.value_Valid.f k a0 a1 a2 = some true) (hvb : Q.value_Valid.f k b0 b1 b2 = some true) (ha : (a0 == 0) = false) (hb : (b0 == 0) = true) :
    Calls Tryd.prog 15 #[.int .i64 2, .int .i64 tol, .agg #[.int .i64 a0, .int .i64 a1, .string a2], .agg #[.int .i64 b0, .int .i64 b1, .string b2]] w fun e w' => e = .returned (.tuple #[.agg #[.int .i64 0, .int .i64 1], .int .i64 0]) ∧ Below w.heap.size w w' := by
  have HS0 := Aside0.mk (OfS.start (a0 := a0) (a1 := a1) (a2 := a2) (b0 := b0) (b1 := b1) (b2 := b2) hG)
  clear hG
  have hu := Tryd.underlying41
  have hu2 := Tryd.underlying48
  have hnn := eq_nil_nil
  have hfn := eq_func_nil
  have hev := eq_val
  go_enter Tryd.func15, Tryd.ntmps15
  go_wp2_with (first
    | (go_at_call 23; with_reducible refine (texts_calls _).mono ?_; rintro e w1 ⟨b, rfl, hb1, hlk⟩; have hl1 := hlk 2 (by decide); rw [show ofF 2 = .func (.func 35) #[] #[] from rfl] at hl1; clear hlk; have HS1 := Aside0.mk (HS0.out.below hb1); clear hb1; obtain ⟨ca0, ca1, ca2, cb0, cb1, cb2, cr0, cr1, fr0, fr1⟩ := HS1.out.cells)
    | (go_at_call 24; with_reducible refine (Q.value_Valid.calls k a0 a1 a2 _ _ hva).mono ?_; rintro e w2 ⟨rfl, hb2⟩; have HS2 := Aside0.mk (HS1.out.below hb2); clear hb2; clear ca0 ca1 ca2 cb0 cb1 cb2 cr0 cr1 fr0 fr1; obtain ⟨ca0, ca1, ca2, cb0, cb1, cb2, cr0, cr1, fr0, fr1⟩ := HS2.out.cells)
    | (go_at_call 24; with_reducible refine (Q.value_Valid.calls k b0 b1 b2 _ _ hvb).mono ?_; rintro e w3 ⟨rfl, hb3⟩; have HS3 := Aside0.mk (HS2.out.below hb3); clear hb3; clear ca0 ca1 ca2 cb0 cb1 cb2 cr0 cr1 fr0 fr1; obtain ⟨ca0, ca1, ca2, cb0, cb1, cb2, cr0, cr1, fr0, fr1⟩ := HS3.out.cells)
    | ((with_reducible refine gate_op (op := .load 41 (.global 1)) rfl ?_); refine gl1_event rfl rfl rfl ?hGl ?_; (case hGl => exact HS3.out.2.2.2.2))
    | ((with_reducible refine gate_op (op := .load 41 (.global 0)) rfl ?_); refine gl0_event rfl rfl rfl ?hGl ?_; (case hGl => exact HS3.out.2.2.2.2)))
  refine bodyPost_ret (results_ct rfl _ _ (w.heap.size + 1 + 1) 41 #[.int .i64 0, .int .i64 1] (0, 0) _ rfl (by (with_reducible repeat (first | refine blk_drewN ?_ _ | refine blk_drew ?_ | refine blk_alloc ?_ _)); refine blk_put (cs := #[.int .i64 0, .int .i64 0]) ?_ 1 _ rfl; (with_reducible repeat (first | refine blk_drewN ?_ _ | refine blk_drew ?_ | refine blk_alloc ?_ _)); refine blk_put (cs := #[.int .i64 0, .int .i64 0]) ?_ 0 _ rfl; (with_reducible repeat (first | refine blk_drewN ?_ _ | refine blk_drew ?_ | refine blk_alloc ?_ _)); exact HS3.out.2.2.1) Tryd.underlying41 rfl (by kernel_rfl)) rfl ?_
  have HBX := HS3.out.2.2.2.1
  exact ⟨rfl, by repeat (first | exact HBX | apply below_alloc | apply pw_below_drewN | apply below_drew1 | refine below_set ?_ (by omega))⟩
set_option maxRecDepth 100000 in
set_option maxHeartbeats 4000000 in
theorem of_2_kd (k : Nat) (tol a0 a1 : Int) (a2 : ByteArray) (b0 b1 : Int) (b2 : ByteArray) (w : World) (hG : Gl w) (hva : Q.value_Valid.f k a0 a1 a2 = some true) (hvb : Q.value_Valid.f k b0 b1 b2 = some true) (ha : (a0 == 0) = false) (hb : (b0 == 0) = false) (e0 : (a0 != b0) = true) :
    Calls Tryd.prog 15 #[.int .i64 2, .int .i64 tol, .agg #[.int .i64 a0, .int .i64 a1, .string a2], .agg #[.int .i64 b0, .int .i64 b1, .string b2]] w fun e w' => e = .returned (.tuple #[.agg #[.int .i64 0, .int .i64 0], .int .i64 10]) ∧ Below w.heap.size w w' := by
  have HS0 := Aside0.mk (OfS.start (a0 := a0) (a1 := a1) (a2 := a2) (b0 := b0) (b1 := b1) (b2 := b2) hG)
  clear hG
  have hu := Tryd.underlying41
  have hu2 := Tryd.underlying48
  have hnn := eq_nil_nil
  have hfn := eq_func_nil
  have hev := eq_val
  go_enter Tryd.func15, Tryd.ntmps15
  go_wp2_with (first
    | (go_at_call 23; with_reducible refine (texts_calls _).mono ?_; rintro e w1 ⟨b, rfl, hb1, hlk⟩; have hl1 := hlk 2 (by decide); rw [show ofF 2 = .func (.func 35) #[] #[] from rfl] at hl1; clear hlk; have HS1 := Aside0.mk (HS0.out.below hb1); clear hb1; obtain ⟨ca0, ca1, ca2, cb0, cb1, cb2, cr0, cr1, fr0, fr1⟩ := HS1.out.cells)
    | (go_at_call 24; with_reducible refine (Q.value_Valid.calls k a0 a1 a2 _ _ hva).mono ?_; rintro e w2 ⟨rfl, hb2⟩; have HS2 := Aside0.mk (HS1.out.below hb2); clear hb2; clear ca0 ca1 ca2 cb0 cb1 cb2 cr0 cr1 fr0 fr1; obtain ⟨ca0, ca1, ca2, cb0, cb1, cb2, cr0, cr1, fr0, fr1⟩ := HS2.out.cells)
    | (go_at_call 24; with_reducible refine (Q.value_Valid.calls k b0 b1 b2 _ _ hvb).mono ?_; rintro e w3 ⟨rfl, hb3⟩; have HS3 := Aside0.mk (HS2.out.below hb3); clear hb3; clear ca0 ca1 ca2 cb0 cb1 cb2 cr0 cr1 fr0 fr1; obtain ⟨ca0, ca1, ca2, cb0, cb1, cb2, cr0, cr1, fr0, fr1⟩ := HS3.out.cells)
    | ((with_reducible refine gate_op (op := .load 41 (.global 1)) rfl ?_); refine gl1_event rfl rfl rfl ?hGl ?_; (case hGl => exact HS3.out.2.2.2.2))
    | ((with_reducible refine gate_op (op := .load 41 (.global 0)) rfl ?_); refine gl0_event rfl rfl rfl ?hGl ?_; (case hGl => exact HS3.out.2.2.2.2)))
  refine bodyPost_ret (results_ct rfl _ _ (w.heap.size + 1 + 1) 41 #[.int .i64 0, .int .i64 0] (0, 0) _ rfl (by (with_reducible repeat (first | refine blk_drewN ?_ _ | refine blk_drew ?_ | refine blk_alloc ?_ _)); refine blk_put (cs := #[.int .i64 0, .int .i64 0]) ?_ 1 _ rfl; (with_reducible repeat (first | refine blk_drewN ?_ _ | refine blk_drew ?_ | refine blk_alloc ?_ _)); refine blk_put (cs := #[.int .i64 0, .int .i64 0]) ?_ 0 _ rfl; (with_reducible repeat (first | refine blk_drewN ?_ _ | refine blk_drew ?_ | refine blk_alloc ?_ _)); exact HS3.out.2.2.1) Tryd.underlying41 rfl (by kernel_rfl)) rfl ?_
  have HBX := HS3.out.2.2.2.1
  exact ⟨rfl, by repeat (first | exact HBX | apply below_alloc | apply pw_below_drewN | apply below_drew1 | refine below_set ?_ (by omega))⟩
set_option maxRecDepth 100000 in
set_option maxHeartbeats 4000000 in
theorem of_2_ty (k : Nat) (tol a0 a1 : Int) (a2 : ByteArray) (b0 b1 : Int) (b2 : ByteArray) (w : World) (hG : Gl w) (hva : Q.value_Valid.f k a0 a1 a2 = some true) (hvb : Q.value_Valid.f k b0 b1 b2 = some true) (ha : (a0 == 0) = false) (hb : (b0 == 0) = false) (e0 : (a0 != b0) = false) (e1 : (a0 != 1) = true) :
    Calls Tryd.prog 15 #[.int .i64 2, .int .i64 tol, .agg #[.int .i64 a0, .int .i64 a1, .string a2], .agg #[.int .i64 b0, .int .i64 b1, .string b2]] w fun e w' => e = .returned (.tuple #[.agg #[.int .i64 0, .int .i64 0], .int .i64 10]) ∧ Below w.heap.size w w' := by
  have HS0 := Aside0.mk (OfS.start (a0 := a0) (a1 := a1) (a2 := a2) (b0 := b0) (b1 := b1) (b2 := b2) hG)
  clear hG
  have hu := Tryd.underlying41
  have hu2 := Tryd.underlying48
  have hnn := eq_nil_nil
  have hfn := eq_func_nil
  have hev := eq_val
  go_enter Tryd.func15, Tryd.ntmps15
  go_wp2_with (first
    | (go_at_call 23; with_reducible refine (texts_calls _).mono ?_; rintro e w1 ⟨b, rfl, hb1, hlk⟩; have hl1 := hlk 2 (by decide); rw [show ofF 2 = .func (.func 35) #[] #[] from rfl] at hl1; clear hlk; have HS1 := Aside0.mk (HS0.out.below hb1); clear hb1; obtain ⟨ca0, ca1, ca2, cb0, cb1, cb2, cr0, cr1, fr0, fr1⟩ := HS1.out.cells)
    | (go_at_call 24; with_reducible refine (Q.value_Valid.calls k a0 a1 a2 _ _ hva).mono ?_; rintro e w2 ⟨rfl, hb2⟩; have HS2 := Aside0.mk (HS1.out.below hb2); clear hb2; clear ca0 ca1 ca2 cb0 cb1 cb2 cr0 cr1 fr0 fr1; obtain ⟨ca0, ca1, ca2, cb0, cb1, cb2, cr0, cr1, fr0, fr1⟩ := HS2.out.cells)
    | (go_at_call 24; with_reducible refine (Q.value_Valid.calls k b0 b1 b2 _ _ hvb).mono ?_; rintro e w3 ⟨rfl, hb3⟩; have HS3 := Aside0.mk (HS2.out.below hb3); clear hb3; clear ca0 ca1 ca2 cb0 cb1 cb2 cr0 cr1 fr0 fr1; obtain ⟨ca0, ca1, ca2, cb0, cb1, cb2, cr0, cr1, fr0, fr1⟩ := HS3.out.cells)
    | ((with_reducible refine gate_op (op := .load 41 (.global 1)) rfl ?_); refine gl1_event rfl rfl rfl ?hGl ?_; (case hGl => exact HS3.out.2.2.2.2))
    | ((with_reducible refine gate_op (op := .load 41 (.global 0)) rfl ?_); refine gl0_event rfl rfl rfl ?hGl ?_; (case hGl => exact HS3.out.2.2.2.2)))
  refine bodyPost_ret (results_ct rfl _ _ (w.heap.size + 1 + 1) 41 #[.int .i64 0, .int .i64 0] (0, 0) _ rfl (by (with_reducible repeat (first | refine blk_drewN ?_ _ | refine blk_drew ?_ | refine blk_alloc ?_ _)); refine blk_put (cs := #[.int .i64 0, .int .i64 0]) ?_ 1 _ rfl; (with_reducible repeat (first | refine blk_drewN ?_ _ | refine blk_drew ?_ | refine blk_alloc ?_ _)); refine blk_put (cs := #[.int .i64 0, .int .i64 0]) ?_ 0 _ rfl; (with_reducible repeat (first | refine blk_drewN ?_ _ | refine blk_drew ?_ | refine blk_alloc ?_ _)); exact HS3.out.2.2.1) Tryd.underlying41 rfl (by kernel_rfl)) rfl ?_
  have HBX := HS3.out.2.2.2.1
  exact ⟨rfl, by repeat (first | exact HBX | apply below_alloc | apply pw_below_drewN | apply below_drew1 | refine below_set ?_ (by omega))⟩
set_option maxRecDepth 100000 in
set_option maxHeartbeats 4000000 in
theorem of_2_c (k : Nat) (tol a0 a1 : Int) (a2 : ByteArray) (b0 b1 : Int) (b2 : ByteArray) (w : World) (hG : Gl w) (hva : Q.value_Valid.f k a0 a1 a2 = some true) (hvb : Q.value_Valid.f k b0 b1 b2 = some true) (ha : (a0 == 0) = false) (hb : (b0 == 0) = false) (e0 : (a0 != b0) = false) (e1 : (a0 != 1) = false) (r1 r2 : Int) (hN : CL.measure_texts_1.f k a2 b2 = some (r1, r2)) :
    Calls Tryd.prog 15 #[.int .i64 2, .int .i64 tol, .agg #[.int .i64 a0, .int .i64 a1, .string a2], .agg #[.int .i64 b0, .int .i64 b1, .string b2]] w fun e w' => e = .returned (.tuple #[.agg #[.int .i64 r1, .int .i64 r2], .int .i64 0]) ∧ Below w.heap.size w w' := by
  have HS0 := Aside0.mk (OfS.start (a0 := a0) (a1 := a1) (a2 := a2) (b0 := b0) (b1 := b1) (b2 := b2) hG)
  clear hG
  have hu := Tryd.underlying41
  have hu2 := Tryd.underlying48
  have hnn := eq_nil_nil
  have hfn := eq_func_nil
  have hev := eq_val
  go_enter Tryd.func15, Tryd.ntmps15
  go_wp2_with (first
    | (go_at_call 23; with_reducible refine (texts_calls _).mono ?_; rintro e w1 ⟨b, rfl, hb1, hlk⟩; have hl1 := hlk 2 (by decide); rw [show ofF 2 = .func (.func 35) #[] #[] from rfl] at hl1; clear hlk; have HS1 := Aside0.mk (HS0.out.below hb1); clear hb1; obtain ⟨ca0, ca1, ca2, cb0, cb1, cb2, cr0, cr1, fr0, fr1⟩ := HS1.out.cells)
    | (go_at_call 24; with_reducible refine (Q.value_Valid.calls k a0 a1 a2 _ _ hva).mono ?_; rintro e w2 ⟨rfl, hb2⟩; have HS2 := Aside0.mk (HS1.out.below hb2); clear hb2; clear ca0 ca1 ca2 cb0 cb1 cb2 cr0 cr1 fr0 fr1; obtain ⟨ca0, ca1, ca2, cb0, cb1, cb2, cr0, cr1, fr0, fr1⟩ := HS2.out.cells)
    | (go_at_call 24; with_reducible refine (Q.value_Valid.calls k b0 b1 b2 _ _ hvb).mono ?_; rintro e w3 ⟨rfl, hb3⟩; have HS3 := Aside0.mk (HS2.out.below hb3); clear hb3; clear ca0 ca1 ca2 cb0 cb1 cb2 cr0 cr1 fr0 fr1; obtain ⟨ca0, ca1, ca2, cb0, cb1, cb2, cr0, cr1, fr0, fr1⟩ := HS3.out.cells)
    | ((with_reducible refine gate_op (op := .load 41 (.global 1)) rfl ?_); refine gl1_event rfl rfl rfl ?hGl ?_; (case hGl => exact HS3.out.2.2.2.2))
    | ((with_reducible refine gate_op (op := .load 41 (.global 0)) rfl ?_); refine gl0_event rfl rfl rfl ?hGl ?_; (case hGl => exact HS3.out.2.2.2.2))
    | (go_at_call 35; with_reducible refine (CL.measure_texts_1.calls k a2 b2 r1 r2 _ HS3.out.gl hN).mono ?_; rintro e w4 ⟨rfl, hb4⟩; have HS4 := Aside0.mk (HS3.out.below hb4); clear hb4; clear ca0 ca1 ca2 cb0 cb1 cb2 cr0 cr1 fr0 fr1; obtain ⟨ca0, ca1, ca2, cb0, cb1, cb2, cr0, cr1, fr0, fr1⟩ := HS4.out.cells))
  refine bodyPost_ret (results_ct rfl _ _ (w.heap.size + 1 + 1) 41 #[.int .i64 r1, .int .i64 r2] (0, 0) _ rfl (by (with_reducible repeat (first | refine blk_drewN ?_ _ | refine blk_drew ?_ | refine blk_alloc ?_ _)); refine blk_put (cs := #[.int .i64 r1, .int .i64 0]) ?_ 1 _ rfl; (with_reducible repeat (first | refine blk_drewN ?_ _ | refine blk_drew ?_ | refine blk_alloc ?_ _)); refine blk_put (cs := #[.int .i64 0, .int .i64 0]) ?_ 0 _ rfl; (with_reducible repeat (first | refine blk_drewN ?_ _ | refine blk_drew ?_ | refine blk_alloc ?_ _)); exact HS4.out.2.2.1) Tryd.underlying41 rfl (by kernel_rfl)) rfl ?_
  have HBX := HS4.out.2.2.2.1
  exact ⟨rfl, by repeat (first | exact HBX | apply below_alloc | apply pw_below_drewN | apply below_drew1 | refine below_set ?_ (by omega))⟩
set_option maxRecDepth 100000 in
set_option maxHeartbeats 4000000 in
theorem of_3_va (k : Nat) (tol a0 a1 : Int) (a2 : ByteArray) (b0 b1 : Int) (b2 : ByteArray) (w : World) (hG : Gl w) (hva : Q.value_Valid.f k a0 a1 a2 = some false) :
    Calls Tryd.prog 15 #[.int .i64 3, .int .i64 tol, .agg #[.int .i64 a0, .int .i64 a1, .string a2], .agg #[.int .i64 b0, .int .i64 b1, .string b2]] w fun e w' => e = .returned (.tuple #[.agg #[.int .i64 0, .int .i64 0], .int .i64 1]) ∧ Below w.heap.size w w' := by
  have HS0 := Aside0.mk (OfS.start (a0 := a0) (a1 := a1) (a2 := a2) (b0 := b0) (b1 := b1) (b2 := b2) hG)
  clear hG
  have hu := Tryd.underlying41
  have hu2 := Tryd.underlying48
  have hnn := eq_nil_nil
  have hfn := eq_func_nil
  have hev := eq_val
  go_enter Tryd.func15, Tryd.ntmps15
  go_wp2_with (first
    | (go_at_call 23; with_reducible refine (texts_calls _).mono ?_; rintro e w1 ⟨b, rfl, hb1, hlk⟩; have hl1 := hlk 3 (by decide); rw [show ofF 3 = .func (.func 38) #[] #[] from rfl] at hl1; clear hlk; have HS1 := Aside0.mk (HS0.out.below hb1); clear hb1; obtain ⟨ca0, ca1, ca2, cb0, cb1, cb2, cr0, cr1, fr0, fr1⟩ := HS1.out.cells)
    | (go_at_call 24; with_reducible refine (Q.value_Valid.calls k a0 a1 a2 _ _ hva).mono ?_; rintro e w2 ⟨rfl, hb2⟩; have HS2 := Aside0.mk (HS1.out.below hb2); clear hb2; clear ca0 ca1 ca2 cb0 cb1 cb2 cr0 cr1 fr0 fr1; obtain ⟨ca0, ca1, ca2, cb0, cb1, cb2, cr0, cr1, fr0, fr1⟩ := HS2.out.cells)
    | ((with_reducible refine gate_op (op := .load 41 (.global 1)) rfl ?_); refine gl1_event rfl rfl rfl ?hGl ?_; (case hGl => exact HS2.out.2.2.2.2))
    | ((with_reducible refine gate_op (op := .load 41 (.global 0)) rfl ?_); refine gl0_event rfl rfl rfl ?hGl ?_; (case hGl => exact HS2.out.2.2.2.2)))
  refine bodyPost_ret (results_ct rfl _ _ (w.heap.size + 1 + 1) 41 #[.int .i64 0, .int .i64 0] (0, 0) _ rfl (by (with_reducible repeat (first | refine blk_drewN ?_ _ | refine blk_drew ?_ | refine blk_alloc ?_ _)); refine blk_put (cs := #[.int .i64 0, .int .i64 0]) ?_ 1 _ rfl; (with_reducible repeat (first | refine blk_drewN ?_ _ | refine blk_drew ?_ | refine blk_alloc ?_ _)); refine blk_put (cs := #[.int .i64 0, .int .i64 0]) ?_ 0 _ rfl; (with_reducible repeat (first | refine blk_drewN ?_ _ | refine blk_drew ?_ | refine blk_alloc ?_ _)); exact HS2.out.2.2.1) Tryd.underlying41 rfl (by kernel_rfl)) rfl ?_
  have HBX := HS2.out.2.2.2.1
  exact ⟨rfl, by repeat (first | exact HBX | apply below_alloc | apply pw_below_drewN | apply below_drew1 | refine below_set ?_ (by omega))⟩
set_option maxRecDepth 100000 in
set_option maxHeartbeats 4000000 in
theorem of_3_vb (k : Nat) (tol a0 a1 : Int) (a2 : ByteArray) (b0 b1 : Int) (b2 : ByteArray) (w : World) (hG : Gl w) (hva : Q.value_Valid.f k a0 a1 a2 = some true) (hvb : Q.value_Valid.f k b0 b1 b2 = some false) :
    Calls Tryd.prog 15 #[.int .i64 3, .int .i64 tol, .agg #[.int .i64 a0, .int .i64 a1, .string a2], .agg #[.int .i64 b0, .int .i64 b1, .string b2]] w fun e w' => e = .returned (.tuple #[.agg #[.int .i64 0, .int .i64 0], .int .i64 1]) ∧ Below w.heap.size w w' := by
  have HS0 := Aside0.mk (OfS.start (a0 := a0) (a1 := a1) (a2 := a2) (b0 := b0) (b1 := b1) (b2 := b2) hG)
  clear hG
  have hu := Tryd.underlying41
  have hu2 := Tryd.underlying48
  have hnn := eq_nil_nil
  have hfn := eq_func_nil
  have hev := eq_val
  go_enter Tryd.func15, Tryd.ntmps15
  go_wp2_with (first
    | (go_at_call 23; with_reducible refine (texts_calls _).mono ?_; rintro e w1 ⟨b, rfl, hb1, hlk⟩; have hl1 := hlk 3 (by decide); rw [show ofF 3 = .func (.func 38) #[] #[] from rfl] at hl1; clear hlk; have HS1 := Aside0.mk (HS0.out.below hb1); clear hb1; obtain ⟨ca0, ca1, ca2, cb0, cb1, cb2, cr0, cr1, fr0, fr1⟩ := HS1.out.cells)
    | (go_at_call 24; with_reducible refine (Q.value_Valid.calls k a0 a1 a2 _ _ hva).mono ?_; rintro e w2 ⟨rfl, hb2⟩; have HS2 := Aside0.mk (HS1.out.below hb2); clear hb2; clear ca0 ca1 ca2 cb0 cb1 cb2 cr0 cr1 fr0 fr1; obtain ⟨ca0, ca1, ca2, cb0, cb1, cb2, cr0, cr1, fr0, fr1⟩ := HS2.out.cells)
    | (go_at_call 24; with_reducible refine (Q.value_Valid.calls k b0 b1 b2 _ _ hvb).mono ?_; rintro e w3 ⟨rfl, hb3⟩; have HS3 := Aside0.mk (HS2.out.below hb3); clear hb3; clear ca0 ca1 ca2 cb0 cb1 cb2 cr0 cr1 fr0 fr1; obtain ⟨ca0, ca1, ca2, cb0, cb1, cb2, cr0, cr1, fr0, fr1⟩ := HS3.out.cells)
    | ((with_reducible refine gate_op (op := .load 41 (.global 1)) rfl ?_); refine gl1_event rfl rfl rfl ?hGl ?_; (case hGl => exact HS3.out.2.2.2.2))
    | ((with_reducible refine gate_op (op := .load 41 (.global 0)) rfl ?_); refine gl0_event rfl rfl rfl ?hGl ?_; (case hGl => exact HS3.out.2.2.2.2)))
  refine bodyPost_ret (results_ct rfl _ _ (w.heap.size + 1 + 1) 41 #[.int .i64 0, .int .i64 0] (0, 0) _ rfl (by (with_reducible repeat (first | refine blk_drewN ?_ _ | refine blk_drew ?_ | refine blk_alloc ?_ _)); refine blk_put (cs := #[.int .i64 0, .int .i64 0]) ?_ 1 _ rfl; (with_reducible repeat (first | refine blk_drewN ?_ _ | refine blk_drew ?_ | refine blk_alloc ?_ _)); refine blk_put (cs := #[.int .i64 0, .int .i64 0]) ?_ 0 _ rfl; (with_reducible repeat (first | refine blk_drewN ?_ _ | refine blk_drew ?_ | refine blk_alloc ?_ _)); exact HS3.out.2.2.1) Tryd.underlying41 rfl (by kernel_rfl)) rfl ?_
  have HBX := HS3.out.2.2.2.1
  exact ⟨rfl, by repeat (first | exact HBX | apply below_alloc | apply pw_below_drewN | apply below_drew1 | refine below_set ?_ (by omega))⟩
set_option maxRecDepth 100000 in
set_option maxHeartbeats 4000000 in
theorem of_3_na (k : Nat) (tol a0 a1 : Int) (a2 : ByteArray) (b0 b1 : Int) (b2 : ByteArray) (w : World) (hG : Gl w) (hva : Q.value_Valid.f k a0 a1 a2 = some true) (hvb : Q.value_Valid.f k b0 b1 b2 = some true) (ha : (a0 == 0) = true) :
    Calls Tryd.prog 15 #[.int .i64 3, .int .i64 tol, .agg #[.int .i64 a0, .int .i64 a1, .string a2], .agg #[.int .i64 b0, .int .i64 b1, .string b2]] w fun e w' => e = .returned (.tuple #[.agg #[.int .i64 0, .int .i64 1], .int .i64 0]) ∧ Below w.heap.size w w' := by
  have HS0 := Aside0.mk (OfS.start (a0 := a0) (a1 := a1) (a2 := a2) (b0 := b0) (b1 := b1) (b2 := b2) hG)
  clear hG
  have hu := Tryd.underlying41
  have hu2 := Tryd.underlying48
  have hnn := eq_nil_nil
  have hfn := eq_func_nil
  have hev := eq_val
  go_enter Tryd.func15, Tryd.ntmps15
  go_wp2_with (first
    | (go_at_call 23; with_reducible refine (texts_calls _).mono ?_; rintro e w1 ⟨b, rfl, hb1, hlk⟩; have hl1 := hlk 3 (by decide); rw [show ofF 3 = .func (.func 38) #[] #[] from rfl] at hl1; clear hlk; have HS1 := Aside0.mk (HS0.out.below hb1); clear hb1; obtain ⟨ca0, ca1, ca2, cb0, cb1, cb2, cr0, cr1, fr0, fr1⟩ := HS1.out.cells)
    | (go_at_call 24; with_reducible refine (Q.value_Valid.calls k a0 a1 a2 _ _ hva).mono ?_; rintro e w2 ⟨rfl, hb2⟩; have HS2 := Aside0.mk (HS1.out.below hb2); clear hb2; clear ca0 ca1 ca2 cb0 cb1 cb2 cr0 cr1 fr0 fr1; obtain ⟨ca0, ca1, ca2, cb0, cb1, cb2, cr0, cr1, fr0, fr1⟩ := HS2.out.cells)
    | (go_at_call 24; with_reducible refine (Q.value_Valid.calls k b0 b1 b2 _ _ hvb).mono ?_; rintro e w3 ⟨rfl, hb3⟩; have HS3 := Aside0.mk (HS2.out.below hb3); clear hb3; clear ca0 ca1 ca2 cb0 cb1 cb2 cr0 cr1 fr0 fr1; obtain ⟨ca0, ca1, ca2, cb0, cb1, cb2, cr0, cr1, fr0, fr1⟩ := HS3.out.cells)
    | ((with_reducible refine gate_op (op := .load 41 (.global 1)) rfl ?_); refine gl1_event rfl rfl rfl ?hGl ?_; (case hGl => exact HS3.out.2.2.2.2))
    | ((with_reducible refine gate_op (op := .load 41 (.global 0)) rfl ?_); refine gl0_event rfl rfl rfl ?hGl ?_; (case hGl => exact HS3.out.2.2.2.2)))
  refine bodyPost_ret (results_ct rfl _ _ (w.heap.size + 1 + 1) 41 #[.int .i64 0, .int .i64 1] (0, 0) _ rfl (by (with_reducible repeat (first | refine blk_drewN ?_ _ | refine blk_drew ?_ | refine blk_alloc ?_ _)); refine blk_put (cs := #[.int .i64 0, .int .i64 0]) ?_ 1 _ rfl; (with_reducible repeat (first | refine blk_drewN ?_ _ | refine blk_drew ?_ | refine blk_alloc ?_ _)); refine blk_put (cs := #[.int .i64 0, .int .i64 0]) ?_ 0 _ rfl; (with_reducible repeat (first | refine blk_drewN ?_ _ | refine blk_drew ?_ | refine blk_alloc ?_ _)); exact HS3.out.2.2.1) Tryd.underlying41 rfl (by kernel_rfl)) rfl ?_
  have HBX := HS3.out.2.2.2.1
  exact ⟨rfl, by repeat (first | exact HBX | apply below_alloc | apply pw_below_drewN | apply below_drew1 | refine below_set ?_ (by omega))⟩
set_option maxRecDepth 100000 in
set_option maxHeartbeats 4000000 in
theorem of_3_nb (k : Nat) (tol a0 a1 : Int) (a2 : ByteArray) (b0 b1 : Int) (b2 : ByteArray) (w : World) (hG : Gl w) (hva : Q.value_Valid.f k a0 a1 a2 = some true) (hvb : Q.value_Valid.f k b0 b1 b2 = some true) (ha : (a0 == 0) = false) (hb : (b0 == 0) = true) :
    Calls Tryd.prog 15 #[.int .i64 3, .int .i64 tol, .agg #[.int .i64 a0, .int .i64 a1, .string a2], .agg #[.int .i64 b0, .int .i64 b1, .string b2]] w fun e w' => e = .returned (.tuple #[.agg #[.int .i64 0, .int .i64 1], .int .i64 0]) ∧ Below w.heap.size w w' := by
  have HS0 := Aside0.mk (OfS.start (a0 := a0) (a1 := a1) (a2 := a2) (b0 := b0) (b1 := b1) (b2 := b2) hG)
  clear hG
  have hu := Tryd.underlying41
  have hu2 := Tryd.underlying48
  have hnn := eq_nil_nil
  have hfn := eq_func_nil
  have hev := eq_val
  go_enter Tryd.func15, Tryd.ntmps15
  go_wp2_with (first
    | (go_at_call 23; with_reducible refine (texts_calls _).mono ?_; rintro e w1 ⟨b, rfl, hb1, hlk⟩; have hl1 := hlk 3 (by decide); rw [show ofF 3 = .func (.func 38) #[] #[] from rfl] at hl1; clear hlk; have HS1 := Aside0.mk (HS0.out.below hb1); clear hb1; obtain ⟨ca0, ca1, ca2, cb0, cb1, cb2, cr0, cr1, fr0, fr1⟩ := HS1.out.cells)
    | (go_at_call 24; with_reducible refine (Q.value_Valid.calls k a0 a1 a2 _ _ hva).mono ?_; rintro e w2 ⟨rfl, hb2⟩; have HS2 := Aside0.mk (HS1.out.below hb2); clear hb2; clear ca0 ca1 ca2 cb0 cb1 cb2 cr0 cr1 fr0 fr1; obtain ⟨ca0, ca1, ca2, cb0, cb1, cb2, cr0, cr1, fr0, fr1⟩ := HS2.out.cells)
    | (go_at_call 24; with_reducible refine (Q.value_Valid.calls k b0 b1 b2 _ _ hvb).mono ?_; rintro e w3 ⟨rfl, hb3⟩; have HS3 := Aside0.mk (HS2.out.below hb3); clear hb3; clear ca0 ca1 ca2 cb0 cb1 cb2 cr0 cr1 fr0 fr1; obtain ⟨ca0, ca1, ca2, cb0, cb1, cb2, cr0, cr1, fr0, fr1⟩ := HS3.out.cells)
    | ((with_reducible refine gate_op (op := .load 41 (.global 1)) rfl ?_); refine gl1_event rfl rfl rfl ?hGl ?_; (case hGl => exact HS3.out.2.2.2.2))
    | ((with_reducible refine gate_op (op := .load 41 (.global 0)) rfl ?_); refine gl0_event rfl rfl rfl ?hGl ?_; (case hGl => exact HS3.out.2.2.2.2)))
  refine bodyPost_ret (results_ct rfl _ _ (w.heap.size + 1 + 1) 41 #[.int .i64 0, .int .i64 1] (0, 0) _ rfl (by (with_reducible repeat (first | refine blk_drewN ?_ _ | refine blk_drew ?_ | refine blk_alloc ?_ _)); refine blk_put (cs := #[.int .i64 0, .int .i64 0]) ?_ 1 _ rfl; (with_reducible repeat (first | refine blk_drewN ?_ _ | refine blk_drew ?_ | refine blk_alloc ?_ _)); refine blk_put (cs := #[.int .i64 0, .int .i64 0]) ?_ 0 _ rfl; (with_reducible repeat (first | refine blk_drewN ?_ _ | refine blk_drew ?_ | refine blk_alloc ?_ _)); exact HS3.out.2.2.1) Tryd.underlying41 rfl (by kernel_rfl)) rfl ?_
  have HBX := HS3.out.2.2.2.1
  exact ⟨rfl, by repeat (first | exact HBX | apply below_alloc | apply pw_below_drewN | apply below_drew1 | refine below_set ?_ (by omega))⟩
set_option maxRecDepth 100000 in
set_option maxHeartbeats 4000000 in
theorem of_3_kd (k : Nat) (tol a0 a1 : Int) (a2 : ByteArray) (b0 b1 : Int) (b2 : ByteArray) (w : World) (hG : Gl w) (hva : Q.value_Valid.f k a0 a1 a2 = some true) (hvb : Q.value_Valid.f k b0 b1 b2 = some true) (ha : (a0 == 0) = false) (hb : (b0 == 0) = false) (e0 : (a0 != b0) = true) :
    Calls Tryd.prog 15 #[.int .i64 3, .int .i64 tol, .agg #[.int .i64 a0, .int .i64 a1, .string a2], .agg #[.int .i64 b0, .int .i64 b1, .string b2]] w fun e w' => e = .returned (.tuple #[.agg #[.int .i64 0, .int .i64 0], .int .i64 10]) ∧ Below w.heap.size w w' := by
  have HS0 := Aside0.mk (OfS.start (a0 := a0) (a1 := a1) (a2 := a2) (b0 := b0) (b1 := b1) (b2 := b2) hG)
  clear hG
  have hu := Tryd.underlying41
  have hu2 := Tryd.underlying48
  have hnn := eq_nil_nil
  have hfn := eq_func_nil
  have hev := eq_val
  go_enter Tryd.func15, Tryd.ntmps15
  go_wp2_with (first
    | (go_at_call 23; with_reducible refine (texts_calls _).mono ?_; rintro e w1 ⟨b, rfl, hb1, hlk⟩; have hl1 := hlk 3 (by decide); rw [show ofF 3 = .func (.func 38) #[] #[] from rfl] at hl1; clear hlk; have HS1 := Aside0.mk (HS0.out.below hb1); clear hb1; obtain ⟨ca0, ca1, ca2, cb0, cb1, cb2, cr0, cr1, fr0, fr1⟩ := HS1.out.cells)
    | (go_at_call 24; with_reducible refine (Q.value_Valid.calls k a0 a1 a2 _ _ hva).mono ?_; rintro e w2 ⟨rfl, hb2⟩; have HS2 := Aside0.mk (HS1.out.below hb2); clear hb2; clear ca0 ca1 ca2 cb0 cb1 cb2 cr0 cr1 fr0 fr1; obtain ⟨ca0, ca1, ca2, cb0, cb1, cb2, cr0, cr1, fr0, fr1⟩ := HS2.out.cells)
    | (go_at_call 24; with_reducible refine (Q.value_Valid.calls k b0 b1 b2 _ _ hvb).mono ?_; rintro e w3 ⟨rfl, hb3⟩; have HS3 := Aside0.mk (HS2.out.below hb3); clear hb3; clear ca0 ca1 ca2 cb0 cb1 cb2 cr0 cr1 fr0 fr1; obtain ⟨ca0, ca1, ca2, cb0, cb1, cb2, cr0, cr1, fr0, fr1⟩ := HS3.out.cells)
    | ((with_reducible refine gate_op (op := .load 41 (.global 1)) rfl ?_); refine gl1_event rfl rfl rfl ?hGl ?_; (case hGl => exact HS3.out.2.2.2.2))
    | ((with_reducible refine gate_op (op := .load 41 (.global 0)) rfl ?_); refine gl0_event rfl rfl rfl ?hGl ?_; (case hGl => exact HS3.out.2.2.2.2)))
  refine bodyPost_ret (results_ct rfl _ _ (w.heap.size + 1 + 1) 41 #[.int .i64 0, .int .i64 0] (0, 0) _ rfl (by (with_reducible repeat (first | refine blk_drewN ?_ _ | refine blk_drew ?_ | refine blk_alloc ?_ _)); refine blk_put (cs := #[.int .i64 0, .int .i64 0]) ?_ 1 _ rfl; (with_reducible repeat (first | refine blk_drewN ?_ _ | refine blk_drew ?_ | refine blk_alloc ?_ _)); refine blk_put (cs := #[.int .i64 0, .int .i64 0]) ?_ 0 _ rfl; (with_reducible repeat (first | refine blk_drewN ?_ _ | refine blk_drew ?_ | refine blk_alloc ?_ _)); exact HS3.out.2.2.1) Tryd.underlying41 rfl (by kernel_rfl)) rfl ?_
  have HBX := HS3.out.2.2.2.1
  exact ⟨rfl, by repeat (first | exact HBX | apply below_alloc | apply pw_below_drewN | apply below_drew1 | refine below_set ?_ (by omega))⟩
set_option maxRecDepth 100000 in
set_option maxHeartbeats 4000000 in
theorem of_3_ty (k : Nat) (tol a0 a1 : Int) (a2 : ByteArray) (b0 b1 : Int) (b2 : ByteArray) (w : World) (hG : Gl w) (hva : Q.value_Valid.f k a0 a1 a2 = some true) (hvb : Q.value_Valid.f k b0 b1 b2 = some true) (ha : (a0 == 0) = false) (hb : (b0 == 0) = false) (e0 : (a0 != b0) = false) (e1 : (a0 != 1) = true) :
    Calls Tryd.prog 15 #[.int .i64 3, .int .i64 tol, .agg #[.int .i64 a0, .int .i64 a1, .string a2], .agg #[.int .i64 b0, .int .i64 b1, .string b2]] w fun e w' => e = .returned (.tuple #[.agg #[.int .i64 0, .int .i64 0], .int .i64 10]) ∧ Below w.heap.size w w' := by
  have HS0 := Aside0.mk (OfS.start (a0 := a0) (a1 := a1) (a2 := a2) (b0 := b0) (b1 := b1) (b2 := b2) hG)
  clear hG
  have hu := Tryd.underlying41
  have hu2 := Tryd.underlying48
  have hnn := eq_nil_nil
  have hfn := eq_func_nil
  have hev := eq_val
  go_enter Tryd.func15, Tryd.ntmps15
  go_wp2_with (first
    | (go_at_call 23; with_reducible refine (texts_calls _).mono ?_; rintro e w1 ⟨b, rfl, hb1, hlk⟩; have hl1 := hlk 3 (by decide); rw [show ofF 3 = .func (.func 38) #[] #[] from rfl] at hl1; clear hlk; have HS1 := Aside0.mk (HS0.out.below hb1); clear hb1; obtain ⟨ca0, ca1, ca2, cb0, cb1, cb2, cr0, cr1, fr0, fr1⟩ := HS1.out.cells)
    | (go_at_call 24; with_reducible refine (Q.value_Valid.calls k a0 a1 a2 _ _ hva).mono ?_; rintro e w2 ⟨rfl, hb2⟩; have HS2 := Aside0.mk (HS1.out.below hb2); clear hb2; clear ca0 ca1 ca2 cb0 cb1 cb2 cr0 cr1 fr0 fr1; obtain ⟨ca0, ca1, ca2, cb0, cb1, cb2, cr0, cr1, fr0, fr1⟩ := HS2.out.cells)
    | (go_at_call 24; with_reducible refine (Q.value_Valid.calls k b0 b1 b2 _ _ hvb).mono ?_; rintro e w3 ⟨rfl, hb3⟩; have HS3 := Aside0.mk (HS2.out.below hb3); clear hb3; clear ca0 ca1 ca2 cb0 cb1 cb2 cr0 cr1 fr0 fr1; obtain ⟨ca0, ca1, ca2, cb0, cb1, cb2, cr0, cr1, fr0, fr1⟩ := HS3.out.cells)
    | ((with_reducible refine gate_op (op := .load 41 (.global 1)) rfl ?_); refine gl1_event rfl rfl rfl ?hGl ?_; (case hGl => exact HS3.out.2.2.2.2))
    | ((with_reducible refine gate_op (op := .load 41 (.global 0)) rfl ?_); refine gl0_event rfl rfl rfl ?hGl ?_; (case hGl => exact HS3.out.2.2.2.2)))
  refine bodyPost_ret (results_ct rfl _ _ (w.heap.size + 1 + 1) 41 #[.int .i64 0, .int .i64 0] (0, 0) _ rfl (by (with_reducible repeat (first | refine blk_drewN ?_ _ | refine blk_drew ?_ | refine blk_alloc ?_ _)); refine blk_put (cs := #[.int .i64 0, .int .i64 0]) ?_ 1 _ rfl; (with_reducible repeat (first | refine blk_drewN ?_ _ | refine blk_drew ?_ | refine blk_alloc ?_ _)); refine blk_put (cs := #[.int .i64 0, .int .i64 0]) ?_ 0 _ rfl; (with_reducible repeat (first | refine blk_drewN ?_ _ | refine blk_drew ?_ | refine blk_alloc ?_ _)); exact HS3.out.2.2.1) Tryd.underlying41 rfl (by kernel_rfl)) rfl ?_
  have HBX := HS3.out.2.2.2.1
  exact ⟨rfl, by repeat (first | exact HBX | apply below_alloc | apply pw_below_drewN | apply below_drew1 | refine below_set ?_ (by omega))⟩
set_option maxRecDepth 100000 in
set_option maxHeartbeats 4000000 in
theorem of_3_c (k : Nat) (tol a0 a1 : Int) (a2 : ByteArray) (b0 b1 : Int) (b2 : ByteArray) (w : World) (hG : Gl w) (hva : Q.value_Valid.f k a0 a1 a2 = some true) (hvb : Q.value_Valid.f k b0 b1 b2 = some true) (ha : (a0 == 0) = false) (hb : (b0 == 0) = false) (e0 : (a0 != b0) = false) (e1 : (a0 != 1) = false) (r1 r2 : Int) (hN : CL.measure_texts_2.f k a2 b2 = some (r1, r2)) :
    Calls Tryd.prog 15 #[.int .i64 3, .int .i64 tol, .agg #[.int .i64 a0, .int .i64 a1, .string a2], .agg #[.int .i64 b0, .int .i64 b1, .string b2]] w fun e w' => e = .returned (.tuple #[.agg #[.int .i64 r1, .int .i64 r2], .int .i64 0]) ∧ Below w.heap.size w w' := by
  have HS0 := Aside0.mk (OfS.start (a0 := a0) (a1 := a1) (a2 := a2) (b0 := b0) (b1 := b1) (b2 := b2) hG)
  clear hG
  have hu := Tryd.underlying41
  have hu2 := Tryd.underlying48
  have hnn := eq_nil_nil
  have hfn := eq_func_nil
  have hev := eq_val
  go_enter Tryd.func15, Tryd.ntmps15
  go_wp2_with (first
    | (go_at_call 23; with_reducible refine (texts_calls _).mono ?_; rintro e w1 ⟨b, rfl, hb1, hlk⟩; have hl1 := hlk 3 (by decide); rw [show ofF 3 = .func (.func 38) #[] #[] from rfl] at hl1; clear hlk; have HS1 := Aside0.mk (HS0.out.below hb1); clear hb1; obtain ⟨ca0, ca1, ca2, cb0, cb1, cb2, cr0, cr1, fr0, fr1⟩ := HS1.out.cells)
    | (go_at_call 24; with_reducible refine (Q.value_Valid.calls k a0 a1 a2 _ _ hva).mono ?_; rintro e w2 ⟨rfl, hb2⟩; have HS2 := Aside0.mk (HS1.out.below hb2); clear hb2; clear ca0 ca1 ca2 cb0 cb1 cb2 cr0 cr1 fr0 fr1; obtain ⟨ca0, ca1, ca2, cb0, cb1, cb2, cr0, cr1, fr0, fr1⟩ := HS2.out.cells)
    | (go_at_call 24; with_reducible refine (Q.value_Valid.calls k b0 b1 b2 _ _ hvb).mono ?_; rintro e w3 ⟨rfl, hb3⟩; have HS3 := Aside0.mk (HS2.out.below hb3); clear hb3; clear ca0 ca1 ca2 cb0 cb1 cb2 cr0 cr1 fr0 fr1; obtain ⟨ca0, ca1, ca2, cb0, cb1, cb2, cr0, cr1, fr0, fr1⟩ := HS3.out.cells)
    | ((with_reducible refine gate_op (op := .load 41 (.global 1)) rfl ?_); refine gl1_event rfl rfl rfl ?hGl ?_; (case hGl => exact HS3.out.2.2.2.2))
    | ((with_reducible refine gate_op (op := .load 41 (.global 0)) rfl ?_); refine gl0_event rfl rfl rfl ?hGl ?_; (case hGl => exact HS3.out.2.2.2.2))
    | (go_at_call 38; with_reducible refine (CL.measure_texts_2.calls k a2 b2 r1 r2 _ HS3.out.gl hN).mono ?_; rintro e w4 ⟨rfl, hb4⟩; have HS4 := Aside0.mk (HS3.out.below hb4); clear hb4; clear ca0 ca1 ca2 cb0 cb1 cb2 cr0 cr1 fr0 fr1; obtain ⟨ca0, ca1, ca2, cb0, cb1, cb2, cr0, cr1, fr0, fr1⟩ := HS4.out.cells))
  refine bodyPost_ret (results_ct rfl _ _ (w.heap.size + 1 + 1) 41 #[.int .i64 r1, .int .i64 r2] (0, 0) _ rfl (by (with_reducible repeat (first | refine blk_drewN ?_ _ | refine blk_drew ?_ | refine blk_alloc ?_ _)); refine blk_put (cs := #[.int .i64 r1, .int .i64 0]) ?_ 1 _ rfl; (with_reducible repeat (first | refine blk_drewN ?_ _ | refine blk_drew ?_ | refine blk_alloc ?_ _)); refine blk_put (cs := #[.int .i64 0, .int .i64 0]) ?_ 0 _ rfl; (with_reducible repeat (first | refine blk_drewN ?_ _ | refine blk_drew ?_ | refine blk_alloc ?_ _)); exact HS4.out.2.2.1) Tryd.underlying41 rfl (by kernel_rfl)) rfl ?_
  have HBX := HS4.out.2.2.2.1
  exact ⟨rfl, by repeat (first | exact HBX | apply below_alloc | apply pw_below_drewN | apply below_drew1 | refine below_set ?_ (by omega))⟩
set_option maxRecDepth 100000 in
set_option maxHeartbeats 4000000 in
theorem of_4_va (k : Nat) (tol a0 a1 : Int) (a2 : ByteArray) (b0 b1 : Int) (b2 : ByteArray) (w : World) (hG : Gl w) (hva : Q.value_Valid.f k a0 a1 a2 = some false) :
    Calls Tryd.prog 15 #[.int .i64 4, .int .i64 tol, .agg #[.int .i64 a0, .int .i64 a1, .string a2], .agg #[.int .i64 b0, .int .i64 b1, .string b2]] w fun e w' => e = .returned (.tuple #[.agg #[.int .i64 0, .int .i64 0], .int .i64 1]) ∧ Below w.heap.size w w' := by
  have HS0 := Aside0.mk (OfS.start (a0 := a0) (a1 := a1) (a2 := a2) (b0 := b0) (b1 := b1) (b2 := b2) hG)
  clear hG
  have hu := Tryd.underlying41
  have hu2 := Tryd.underlying48
  have hnn := eq_nil_nil
  have hfn := eq_func_nil
  have hev := eq_val
  go_enter Tryd.func15, Tryd.ntmps15
  go_wp2_with (first
    | (go_at_call 23; with_reducible refine (texts_calls _).mono ?_; rintro e w1 ⟨b, rfl, hb1, hlk⟩; have hl1 := hlk 4 (by decide); rw [show ofF 4 = .func (.func 41) #[] #[] from rfl] at hl1; clear hlk; have HS1 := Aside0.mk (HS0.out.below hb1); clear hb1; obtain ⟨ca0, ca1, ca2, cb0, cb1, cb2, cr0, cr1, fr0, fr1⟩ := HS1.out.cells)
    | (go_at_call 24; with_reducible refine (Q.value_Valid.calls k a0 a1 a2 _ _ hva).mono ?_; rintro e w2 ⟨rfl, hb2⟩; have HS2 := Aside0.mk (HS1.out.below hb2); clear hb2; clear ca0 ca1 ca2 cb0 cb1 cb2 cr0 cr1 fr0 fr1; obtain ⟨ca0, ca1, ca2, cb0, cb1, cb2, cr0, cr1, fr0, fr1⟩ := HS2.out.cells)
    | ((with_reducible refine gate_op (op := .load 41 (.global 1)) rfl ?_); refine gl1_event rfl rfl rfl ?hGl ?_; (case hGl => exact HS2.out.2.2.2.2))
    | ((with_reducible refine gate_op (op := .load 41 (.global 0)) rfl ?_); refine gl0_event rfl rfl rfl ?hGl ?_; (case hGl => exact HS2.out.2.2.2.2)))
  refine bodyPost_ret (results_ct rfl _ _ (w.heap.size + 1 + 1) 41 #[.int .i64 0, .int .i64 0] (0, 0) _ rfl (by (with_reducible repeat (first | refine blk_drewN ?_ _ | refine blk_drew ?_ | refine blk_alloc ?_ _)); refine blk_put (cs := #[.int .i64 0, .int .i64 0]) ?_ 1 _ rfl; (with_reducible repeat (first | refine blk_drewN ?_ _ | refine blk_drew ?_ | refine blk_alloc ?_ _)); refine blk_put (cs := #[.int .i64 0, .int .i64 0]) ?_ 0 _ rfl; (with_reducible repeat (first | refine blk_drewN ?_ _ | refine blk_drew ?_ | refine blk_alloc ?_ _)); exact HS2.out.2.2.1) Tryd.underlying41 rfl (by kernel_rfl)) rfl ?_
  have HBX := HS2.out.2.2.2.1
  exact ⟨rfl, by repeat (first | exact HBX | apply below_alloc | apply pw_below_drewN | apply below_drew1 | refine below_set ?_ (by omega))⟩
set_option maxRecDepth 100000 in
set_option maxHeartbeats 4000000 in
theorem of_4_vb (k : Nat) (tol a0 a1 : Int) (a2 : ByteArray) (b0 b1 : Int) (b2 : ByteArray) (w : World) (hG : Gl w) (hva : Q.value_Valid.f k a0 a1 a2 = some true) (hvb : Q.value_Valid.f k b0 b1 b2 = some false) :
    Calls Tryd.prog 15 #[.int .i64 4, .int .i64 tol, .agg #[.int .i64 a0, .int .i64 a1, .string a2], .agg #[.int .i64 b0, .int .i64 b1, .string b2]] w fun e w' => e = .returned (.tuple #[.agg #[.int .i64 0, .int .i64 0], .int .i64 1]) ∧ Below w.heap.size w w' := by
  have HS0 := Aside0.mk (OfS.start (a0 := a0) (a1 := a1) (a2 := a2) (b0 := b0) (b1 := b1) (b2 := b2) hG)
  clear hG
  have hu := Tryd.underlying41
  have hu2 := Tryd.underlying48
  have hnn := eq_nil_nil
  have hfn := eq_func_nil
  have hev := eq_val
  go_enter Tryd.func15, Tryd.ntmps15
  go_wp2_with (first
    | (go_at_call 23; with_reducible refine (texts_calls _).mono ?_; rintro e w1 ⟨b, rfl, hb1, hlk⟩; have hl1 := hlk 4 (by decide); rw [show ofF 4 = .func (.func 41) #[] #[] from rfl] at hl1; clear hlk; have HS1 := Aside0.mk (HS0.out.below hb1); clear hb1; obtain ⟨ca0, ca1, ca2, cb0, cb1, cb2, cr0, cr1, fr0, fr1⟩ := HS1.out.cells)
    | (go_at_call 24; with_reducible refine (Q.value_Valid.calls k a0 a1 a2 _ _ hva).mono ?_; rintro e w2 ⟨rfl, hb2⟩; have HS2 := Aside0.mk (HS1.out.below hb2); clear hb2; clear ca0 ca1 ca2 cb0 cb1 cb2 cr0 cr1 fr0 fr1; obtain ⟨ca0, ca1, ca2, cb0, cb1, cb2, cr0, cr1, fr0, fr1⟩ := HS2.out.cells)
    | (go_at_call 24; with_reducible refine (Q.value_Valid.calls k b0 b1 b2 _ _ hvb).mono ?_; rintro e w3 ⟨rfl, hb3⟩; have HS3 := Aside0.mk (HS2.out.below hb3); clear hb3; clear ca0 ca1 ca2 cb0 cb1 cb2 cr0 cr1 fr0 fr1; obtain ⟨ca0, ca1, ca2, cb0, cb1, cb2, cr0, cr1, fr0, fr1⟩ := HS3.out.cells)
    | ((with_reducible refine gate_op (op := .load 41 (.global 1)) rfl ?_); refine gl1_event rfl rfl rfl ?hGl ?_; (case hGl => exact HS3.out.2.2.2.2))
    | ((with_reducible refine gate_op (op := .load 41 (.global 0)) rfl ?_); refine gl0_event rfl rfl rfl ?hGl ?_; (case hGl => exact HS3.out.2.2.2.2)))
  refine bodyPost_ret (results_ct rfl _ _ (w.heap.size + 1 + 1) 41 #[.int .i64 0, .int .i64 0] (0, 0) _ rfl (by (with_reducible repeat (first | refine blk_drewN ?_ _ | refine blk_drew ?_ | refine blk_alloc ?_ _)); refine blk_put (cs := #[.int .i64 0, .int .i64 0]) ?_ 1 _ rfl; (with_reducible repeat (first | refine blk_drewN ?_ _ | refine blk_drew ?_ | refine blk_alloc ?_ _)); refine blk_put (cs := #[.int .i64 0, .int .i64 0]) ?_ 0 _ rfl; (with_reducible repeat (first | refine blk_drewN ?_ _ | refine blk_drew ?_ | refine blk_alloc ?_ _)); exact HS3.out.2.2.1) Tryd.underlying41 rfl (by kernel_rfl)) rfl ?_
  have HBX := HS3.out.2.2.2.1
  exact ⟨rfl, by repeat (first | exact HBX | apply below_alloc | apply pw_below_drewN | apply below_drew1 | refine below_set ?_ (by omega))⟩
set_option maxRecDepth 100000 in
set_option maxHeartbeats 4000000 in
theorem of_4_na (k : Nat) (tol a0 a1 : Int) (a2 : ByteArray) (b0 b1 : Int) (b2 : ByteArray) (w : World) (hG : Gl w) (hva : Q.value_Valid.f k a0 a1 a2 = some true) (hvb : Q.value_Valid.f k b0 b1 b2 = some true) (ha : (a0 == 0) = true) :
    Calls Tryd.prog 15 #[.int .i64 4, .int .i64 tol, .agg #[.int .i64 a0, .int .i64 a1, .string a2], .agg #[.int .i64 b0, .int .i64 b1, .string b2]] w fun e w' => e = .returned (.tuple #[.agg #[.int .i64 0, .int .i64 1], .int .i64 0]) ∧ Below w.heap.size w w' := by
  have HS0 := Aside0.mk (OfS.start (a0 := a0) (a1 := a1) (a2 := a2) (b0 := b0) (b1 := b1) (b2 := b2) hG)
  clear hG
  have hu := Tryd.underlying41
  have hu2 := Tryd.underlying48
  have hnn := eq_nil_nil
  have hfn := eq_func_nil
  have hev := eq_val
  go_enter Tryd.func15, Tryd.ntmps15
  go_wp2_with (first
    | (go_at_call 23; with_reducible refine (texts_calls _).mono ?_; rintro e w1 ⟨b, rfl, hb1, hlk⟩; have hl1 := hlk 4 (by decide); rw [show ofF 4 = .func (.func 41) #[] #[] from rfl] at hl1; clear hlk; have HS1 := Aside0.mk (HS0.out.below hb1); clear hb1; obtain ⟨ca0, ca1, ca2, cb0, cb1, cb2, cr0, cr1, fr0, fr1⟩ := HS1.out.cells)
    | (go_at_call 24; with_reducible refine (Q.value_Valid.calls k a0 a1 a2 _ _ hva).mono ?_; rintro e w2 ⟨rfl, hb2⟩; have HS2 := Aside0.mk (HS1.out.below hb2); clear hb2; clear ca0 ca1 ca2 cb0 cb1 cb2 cr0 cr1 fr0 fr1; obtain ⟨ca0, ca1, ca2, cb0, cb1, cb2, cr0, cr1, fr0, fr1⟩ := HS2.out.cells)
    | (go_at_call 24; with_reducible refine (Q.value_Valid.calls k b0 b1 b2 _ _ hvb).mono ?_; rintro e w3 ⟨rfl, hb3⟩; have HS3 := Aside0.mk (HS2.out.below hb3); clear hb3; clear ca0 ca1 ca2 cb0 cb1 cb2 cr0 cr1 fr0 fr1; obtain ⟨ca0, ca1, ca2, cb0, cb1, cb2, cr0, cr1, fr0, fr1⟩ := HS3.out.cells)
    | ((with_reducible refine gate_op (op := .load 41 (.global 1)) rfl ?_); refine gl1_event rfl rfl rfl ?hGl ?_; (case hGl => exact HS3.out.2.2.2.2))
    | ((with_reducible refine gate_op (op := .load 41 (.global 0)) rfl ?_); refine gl0_event rfl rfl rfl ?hGl ?_; (case hGl => exact HS3.out.2.2.2.2)))
  refine bodyPost_ret (results_ct rfl _ _ (w.heap.size + 1 + 1) 41 #[.int .i64 0, .int .i64 1] (0, 0) _ rfl (by (with_reducible repeat (first | refine blk_drewN ?_ _ | refine blk_drew ?_ | refine blk_alloc ?_ _)); refine blk_put (cs := #[.int .i64 0, .int .i64 0]) ?_ 1 _ rfl; (with_reducible repeat (first | refine blk_drewN ?_ _ | refine blk_drew ?_ | refine blk_alloc ?_ _)); refine blk_put (cs := #[.int .i64 0, .int .i64 0]) ?_ 0 _ rfl; (with_reducible repeat (first | refine blk_drewN ?_ _ | refine blk_drew ?_ | refine blk_alloc ?_ _)); exact HS3.out.2.2.1) Tryd.underlying41 rfl (by kernel_rfl)) rfl ?_
  have HBX := HS3.out.2.2.2.1
  exact ⟨rfl, by repeat (first | exact HBX | apply below_alloc | apply pw_below_drewN | apply below_drew1 | refine below_set ?_ (by omega))⟩
set_option maxRecDepth 100000 in
set_option maxHeartbeats 4000000 in
theorem of_4_nb (k : Nat) (tol a0 a1 : Int) (a2 : ByteArray) (b0 b1 : Int) (b2 : ByteArray) (w : World) (hG : Gl w) (hva : Q.value_Valid.f k a0 a1 a2 = some true) (hvb : Q.value_Valid.f k b0 b1 b2 = some true) (ha : (a0 == 0) = false) (hb : (b0 == 0) = true) :
    Calls Tryd.prog 15 #[.int .i64 4, .int .i64 tol, .agg #[.int .i64 a0, .int .i64 a1, .string a2], .agg #[.int .i64 b0, .int .i64 b1, .string b2]] w fun e w' => e = .returned (.tuple #[.agg #[.int .i64 0, .int .i64 1], .int .i64 0]) ∧ Below w.heap.size w w' := by
  have HS0 := Aside0.mk (OfS.start (a0 := a0) (a1 := a1) (a2 := a2) (b0 := b0) (b1 := b1) (b2 := b2) hG)
  clear hG
  have hu := Tryd.underlying41
  have hu2 := Tryd.underlying48
  have hnn := eq_nil_nil
  have hfn := eq_func_nil
  have hev := eq_val
  go_enter Tryd.func15, Tryd.ntmps15
  go_wp2_with (first
    | (go_at_call 23; with_reducible refine (texts_calls _).mono ?_; rintro e w1 ⟨b, rfl, hb1, hlk⟩; have hl1 := hlk 4 (by decide); rw [show ofF 4 = .func (.func 41) #[] #[] from rfl] at hl1; clear hlk; have HS1 := Aside0.mk (HS0.out.below hb1); clear hb1; obtain ⟨ca0, ca1, ca2, cb0, cb1, cb2, cr0, cr1, fr0, fr1⟩ := HS1.out.cells)
    | (go_at_call 24; with_reducible refine (Q.value_Valid.calls k a0 a1 a2 _ _ hva).mono ?_; rintro e w2 ⟨rfl, hb2⟩; have HS2 := Aside0.mk (HS1.out.below hb2); clear hb2; clear ca0 ca1 ca2 cb0 cb1 cb2 cr0 cr1 fr0 fr1; obtain ⟨ca0, ca1, ca2, cb0, cb1, cb2, cr0, cr1, fr0, fr1⟩ := HS2.out.cells)
    | (go_at_call 24; with_reducible refine (Q.value_Valid.calls k b0 b1 b2 _ _ hvb).mono ?_; rintro e w3 ⟨rfl, hb3⟩; have HS3 := Aside0.mk (HS2.out.below hb3); clear hb3; clear ca0 ca1 ca2 cb0 cb1 cb2 cr0 cr1 fr0 fr1; obtain ⟨ca0, ca1, ca2, cb0, cb1, cb2, cr0, cr1, fr0, fr1⟩ := HS3.out.cells)
    | ((with_reducible refine gate_op (op := .load 41 (.global 1)) rfl ?_); refine gl1_event rfl rfl rfl ?hGl ?_; (case hGl => exact HS3.out.2.2.2.2))
    | ((with_reducible refine gate_op (op := .load 41 (.global 0)) rfl ?_); refine gl0_event rfl rfl rfl ?hGl ?_; (case hGl => exact HS3.out.2.2.2.2)))
  refine bodyPost_ret (results_ct rfl _ _ (w.heap.size + 1 + 1) 41 #[.int .i64 0, .int .i64 1] (0, 0) _ rfl (by (with_reducible repeat (first | refine blk_drewN ?_ _ | refine blk_drew ?_ | refine blk_alloc ?_ _)); refine blk_put (cs := #[.int .i64 0, .int .i64 0]) ?_ 1 _ rfl; (with_reducible repeat (first | refine blk_drewN ?_ _ | refine blk_drew ?_ | refine blk_alloc ?_ _)); refine blk_put (cs := #[.int .i64 0, .int .i64 0]) ?_ 0 _ rfl; (with_reducible repeat (first | refine blk_drewN ?_ _ | refine blk_drew ?_ | refine blk_alloc ?_ _)); exact HS3.out.2.2.1) Tryd.underlying41 rfl (by kernel_rfl)) rfl ?_
  have HBX := HS3.out.2.2.2.1
  exact ⟨rfl, by repeat (first | exact HBX | apply below_alloc | apply pw_below_drewN | apply below_drew1 | refine below_set ?_ (by omega))⟩
set_option maxRecDepth 100000 in
set_option maxHeartbeats 4000000 in
theorem of_4_kd (k : Nat) (tol a0 a1 : Int) (a2 : ByteArray) (b0 b1 : Int) (b2 : ByteArray) (w : World) (hG : Gl w) (hva : Q.value_Valid.f k a0 a1 a2 = some true) (hvb : Q.value_Valid.f k b0 b1 b2 = some true) (ha : (a0 == 0) = false) (hb : (b0 == 0) = false) (e0 : (a0 != b0) = true) :
    Calls Tryd.prog 15 #[.int .i64 4, .int .i64 tol, .agg #[.int .i64 a0, .int .i64 a1, .string a2], .agg #[.int .i64 b0, .int .i64 b1, .string b2]] w fun e w' => e = .returned (.tuple #[.agg #[.int .i64 0, .int .i64 0], .int .i64 10]) ∧ Below w.heap.size w w' := by
  have HS0 := Aside0.mk (OfS.start (a0 := a0) (a1 := a1) (a2 := a2) (b0 := b0) (b1 := b1) (b2 := b2) hG)
  clear hG
  have hu := Tryd.underlying41
  have hu2 := Tryd.underlying48
  have hnn := eq_nil_nil
  have hfn := eq_func_nil
  have hev := eq_val
  go_enter Tryd.func15, Tryd.ntmps15
  go_wp2_with (first
    | (go_at_call 23; with_reducible refine (texts_calls _).mono ?_; rintro e w1 ⟨b, rfl, hb1, hlk⟩; have hl1 := hlk 4 (by decide); rw [show ofF 4 = .func (.func 41) #[] #[] from rfl] at hl1; clear hlk; have HS1 := Aside0.mk (HS0.out.below hb1); clear hb1; obtain ⟨ca0, ca1, ca2, cb0, cb1, cb2, cr0, cr1, fr0, fr1⟩ := HS1.out.cells)
    | (go_at_call 24; with_reducible refine (Q.value_Valid.calls k a0 a1 a2 _ _ hva).mono ?_; rintro e w2 ⟨rfl, hb2⟩; have HS2 := Aside0.mk (HS1.out.below hb2); clear hb2; clear ca0 ca1 ca2 cb0 cb1 cb2 cr0 cr1 fr0 fr1; obtain ⟨ca0, ca1, ca2, cb0, cb1, cb2, cr0, cr1, fr0, fr1⟩ := HS2.out.cells)
    | (go_at_call 24; with_reducible refine (Q.value_Valid.calls k b0 b1 b2 _ _ hvb).mono ?_; rintro e w3 ⟨rfl, hb3⟩; have HS3 := Aside0.mk (HS2.out.below hb3); clear hb3; clear ca0 ca1 ca2 cb0 cb1 cb2 cr0 cr1 fr0 fr1; obtain ⟨ca0, ca1, ca2, cb0, cb1, cb2, cr0, cr1, fr0, fr1⟩ := HS3.out.cells)
    | ((with_reducible refine gate_op (op := .load 41 (.global 1)) rfl ?_); refine gl1_event rfl rfl rfl ?hGl ?_; (case hGl => exact HS3.out.2.2.2.2))
    | ((with_reducible refine gate_op (op := .load 41 (.global 0)) rfl ?_); refine gl0_event rfl rfl rfl ?hGl ?_; (case hGl => exact HS3.out.2.2.2.2)))
  refine bodyPost_ret (results_ct rfl _ _ (w.heap.size + 1 + 1) 41 #[.int .i64 0, .int .i64 0] (0, 0) _ rfl (by (with_reducible repeat (first | refine blk_drewN ?_ _ | refine blk_drew ?_ | refine blk_alloc ?_ _)); refine blk_put (cs := #[.int .i64 0, .int .i64 0]) ?_ 1 _ rfl; (with_reducible repeat (first | refine blk_drewN ?_ _ | refine blk_drew ?_ | refine blk_alloc ?_ _)); refine blk_put (cs := #[.int .i64 0, .int .i64 0]) ?_ 0 _ rfl; (with_reducible repeat (first | refine blk_drewN ?_ _ | refine blk_drew ?_ | refine blk_alloc ?_ _)); exact HS3.out.2.2.1) Tryd.underlying41 rfl (by kernel_rfl)) rfl ?_
  have HBX := HS3.out.2.2.2.1
  exact ⟨rfl, by repeat (first | exact HBX | apply below_alloc | apply pw_below_drewN | apply below_drew1 | refine below_set ?_ (by omega))⟩
set_option maxRecDepth 100000 in
set_option maxHeartbeats 4000000 in
theorem of_4_ty (k : Nat) (tol a0 a1 : Int) (a2 : ByteArray) (b0 b1 : Int) (b2 : ByteArray) (w : World) (hG : Gl w) (hva : Q.value_Valid.f k a0 a1 a2 = some true) (hvb : Q.value_Valid.f k b0 b1 b2 = some true) (ha : (a0 == 0) = false) (hb : (b0 == 0) = false) (e0 : (a0 != b0) = false) (e1 : (a0 != 1) = true) :
    Calls Tryd.prog 15 #[.int .i64 4, .int .i64 tol, .agg #[.int .i64 a0, .int .i64 a1, .string a2], .agg #[.int .i64 b0, .int .i64 b1, .string b2]] w fun e w' => e = .returned (.tuple #[.agg #[.int .i64 0, .int .i64 0], .int .i64 10]) ∧ Below w.heap.size w w' := by
  have HS0 := Aside0.mk (OfS.start (a0 := a0) (a1 := a1) (a2 := a2) (b0 := b0) (b1 := b1) (b2 := b2) hG)
  clear hG
  have hu := Tryd.underlying41
  have hu2 := Tryd.underlying48
  have hnn := eq_nil_nil
  have hfn := eq_func_nil
  have hev := eq_val
  go_enter Tryd.func15, Tryd.ntmps15
  go_wp2_with (first
    | (go_at_call 23; with_reducible refine (texts_calls _).mono ?_; rintro e w1 ⟨b, rfl, hb1, hlk⟩; have hl1 := hlk 4 (by decide); rw [show ofF 4 = .func (.func 41) #[] #[] from rfl] at hl1; clear hlk; have HS1 := Aside0.mk (HS0.out.below hb1); clear hb1; obtain ⟨ca0, ca1, ca2, cb0, cb1, cb2, cr0, cr1, fr0, fr1⟩ := HS1.out.cells)
    | (go_at_call 24; with_reducible refine (Q.value_Valid.calls k a0 a1 a2 _ _ hva).mono ?_; rintro e w2 ⟨rfl, hb2⟩; have HS2 := Aside0.mk (HS1.out.below hb2); clear hb2; clear ca0 ca1 ca2 cb0 cb1 cb2 cr0 cr1 fr0 fr1; obtain ⟨ca0, ca1, ca2, cb0, cb1, cb2, cr0, cr1, fr0, fr1⟩ := HS2.out.cells)
    | (go_at_call 24; with_reducible refine (Q.value_Valid.calls k b0 b1 b2 _ _ hvb).mono ?_; rintro e w3 ⟨rfl, hb3⟩; have HS3 := Aside0.mk (HS2.out.below hb3); clear hb3; clear ca0 ca1 ca2 cb0 cb1 cb2 cr0 cr1 fr0 fr1; obtain ⟨ca0, ca1, ca2, cb0, cb1, cb2, cr0, cr1, fr0, fr1⟩ := HS3.out.cells)
    | ((with_reducible refine gate_op (op := .load 41 (.global 1)) rfl ?_); refine gl1_event rfl rfl rfl ?hGl ?_; (case hGl => exact HS3.out.2.2.2.2))
    | ((with_reducible refine gate_op (op := .load 41 (.global 0)) rfl ?_); refine gl0_event rfl rfl rfl ?hGl ?_; (case hGl => exact HS3.out.2.2.2.2)))
  refine bodyPost_ret (results_ct rfl _ _ (w.heap.size + 1 + 1) 41 #[.int .i64 0, .int .i64 0] (0, 0) _ rfl (by (with_reducible repeat (first | refine blk_drewN ?_ _ | refine blk_drew ?_ | refine blk_alloc ?_ _)); refine blk_put (cs := #[.int .i64 0, .int .i64 0]) ?_ 1 _ rfl; (with_reducible repeat (first | refine blk_drewN ?_ _ | refine blk_drew ?_ | refine blk_alloc ?_ _)); refine blk_put (cs := #[.int .i64 0, .int .i64 0]) ?_ 0 _ rfl; (with_reducible repeat (first | refine blk_drewN ?_ _ | refine blk_drew ?_ | refine blk_alloc ?_ _)); exact HS3.out.2.2.1) Tryd.underlying41 rfl (by kernel_rfl)) rfl ?_
  have HBX := HS3.out.2.2.2.1
  exact ⟨rfl, by repeat (first | exact HBX | apply below_alloc | apply pw_below_drewN | apply below_drew1 | refine below_set ?_ (by omega))⟩
set_option maxRecDepth 100000 in
set_option maxHeartbeats 4000000 in
theorem of_4_c (k : Nat) (tol a0 a1 : Int) (a2 : ByteArray) (b0 b1 : Int) (b2 : ByteArray) (w : World) (hG : Gl w) (hva : Q.value_Valid.f k a0 a1 a2 = some true) (hvb : Q.value_Valid.f k b0 b1 b2 = some true) (ha : (a0 == 0) = false) (hb : (b0 == 0) = false) (e0 : (a0 != b0) = false) (e1 : (a0 != 1) = false) (r1 r2 : Int) (hN : CL.measure_texts_3.f k a2 b2 = some (r1, r2)) :
    Calls Tryd.prog 15 #[.int .i64 4, .int .i64 tol, .agg #[.int .i64 a0, .int .i64 a1, .string a2], .agg #[.int .i64 b0, .int .i64 b1, .string b2]] w fun e w' => e = .returned (.tuple #[.agg #[.int .i64 r1, .int .i64 r2], .int .i64 0]) ∧ Below w.heap.size w w' := by
  have HS0 := Aside0.mk (OfS.start (a0 := a0) (a1 := a1) (a2 := a2) (b0 := b0) (b1 := b1) (b2 := b2) hG)
  clear hG
  have hu := Tryd.underlying41
  have hu2 := Tryd.underlying48
  have hnn := eq_nil_nil
  have hfn := eq_func_nil
  have hev := eq_val
  go_enter Tryd.func15, Tryd.ntmps15
  go_wp2_with (first
    | (go_at_call 23; with_reducible refine (texts_calls _).mono ?_; rintro e w1 ⟨b, rfl, hb1, hlk⟩; have hl1 := hlk 4 (by decide); rw [show ofF 4 = .func (.func 41) #[] #[] from rfl] at hl1; clear hlk; have HS1 := Aside0.mk (HS0.out.below hb1); clear hb1; obtain ⟨ca0, ca1, ca2, cb0, cb1, cb2, cr0, cr1, fr0, fr1⟩ := HS1.out.cells)
    | (go_at_call 24; with_reducible refine (Q.value_Valid.calls k a0 a1 a2 _ _ hva).mono ?_; rintro e w2 ⟨rfl, hb2⟩; have HS2 := Aside0.mk (HS1.out.below hb2); clear hb2; clear ca0 ca1 ca2 cb0 cb1 cb2 cr0 cr1 fr0 fr1; obtain ⟨ca0, ca1, ca2, cb0, cb1, cb2, cr0, cr1, fr0, fr1⟩ := HS2.out.cells)
    | (go_at_call 24; with_reducible refine (Q.value_Valid.calls k b0 b1 b2 _ _ hvb).mono ?_; rintro e w3 ⟨rfl, hb3⟩; have HS3 := Aside0.mk (HS2.out.below hb3); clear hb3; clear ca0 ca1 ca2 cb0 cb1 cb2 cr0 cr1 fr0 fr1; obtain ⟨ca0, ca1, ca2, cb0, cb1, cb2, cr0, cr1, fr0, fr1⟩ := HS3.out.cells)
    | ((with_reducible refine gate_op (op := .load 41 (.global 1)) rfl ?_); refine gl1_event rfl rfl rfl ?hGl ?_; (case hGl => exact HS3.out.2.2.2.2))
    | ((with_reducible refine gate_op (op := .load 41 (.global 0)) rfl ?_); refine gl0_event rfl rfl rfl ?hGl ?_; (case hGl => exact HS3.out.2.2.2.2))
    | (go_at_call 41; with_reducible refine (CL.measure_texts_3.calls k a2 b2 r1 r2 _ HS3.out.gl hN).mono ?_; rintro e w4 ⟨rfl, hb4⟩; have HS4 := Aside0.mk (HS3.out.below hb4); clear hb4; clear ca0 ca1 ca2 cb0 cb1 cb2 cr0 cr1 fr0 fr1; obtain ⟨ca0, ca1, ca2, cb0, cb1, cb2, cr0, cr1, fr0, fr1⟩ := HS4.out.cells))
  refine bodyPost_ret (results_ct rfl _ _ (w.heap.size + 1 + 1) 41 #[.int .i64 r1, .int .i64 r2] (0, 0) _ rfl (by (with_reducible repeat (first | refine blk_drewN ?_ _ | refine blk_drew ?_ | refine blk_alloc ?_ _)); refine blk_put (cs := #[.int .i64 r1, .int .i64 0]) ?_ 1 _ rfl; (with_reducible repeat (first | refine blk_drewN ?_ _ | refine blk_drew ?_ | refine blk_alloc ?_ _)); refine blk_put (cs := #[.int .i64 0, .int .i64 0]) ?_ 0 _ rfl; (with_reducible repeat (first | refine blk_drewN ?_ _ | refine blk_drew ?_ | refine blk_alloc ?_ _)); exact HS4.out.2.2.1) Tryd.underlying41 rfl (by kernel_rfl)) rfl ?_
  have HBX := HS4.out.2.2.2.1
  exact ⟨rfl, by repeat (first | exact HBX | apply below_alloc | apply pw_below_drewN | apply below_drew1 | refine below_set ?_ (by omega))⟩
set_option maxRecDepth 100000 in
set_option maxHeartbeats 4000000 in
theorem of_5_va (k : Nat) (tol a0 a1 : Int) (a2 : ByteArray) (b0 b1 : Int) (b2 : ByteArray) (w : World) (hG : Gl w) (hva : Q.value_Valid.f k a0 a1 a2 = some false) :
    Calls Tryd.prog 15 #[.int .i64 5, .int .i64 tol, .agg #[.int .i64 a0, .int .i64 a1, .string a2], .agg #[.int .i64 b0, .int .i64 b1, .string b2]] w fun e w' => e = .returned (.tuple #[.agg #[.int .i64 0, .int .i64 0], .int .i64 1]) ∧ Below w.heap.size w w' := by
  have HS0 := Aside0.mk (OfS.start (a0 := a0) (a1 := a1) (a2 := a2) (b0 := b0) (b1 := b1) (b2 := b2) hG)
  clear hG
  have hu := Tryd.underlying41
  have hu2 := Tryd.underlying48
  have hnn := eq_nil_nil
  have hfn := eq_func_nil
  have hev := eq_val
  go_enter Tryd.func15, Tryd.ntmps15
  go_wp2_with (first
    | (go_at_call 23; with_reducible refine (texts_calls _).mono ?_; rintro e w1 ⟨b, rfl, hb1, hlk⟩; have hl1 := hlk 5 (by decide); rw [show ofF 5 = .nilFunc from rfl] at hl1; clear hlk; have HS1 := Aside0.mk (HS0.out.below hb1); clear hb1; obtain ⟨ca0, ca1, ca2, cb0, cb1, cb2, cr0, cr1, fr0, fr1⟩ := HS1.out.cells)
    | (go_at_call 24; with_reducible refine (Q.value_Valid.calls k a0 a1 a2 _ _ hva).mono ?_; rintro e w2 ⟨rfl, hb2⟩; have HS2 := Aside0.mk (HS1.out.below hb2); clear hb2; clear ca0 ca1 ca2 cb0 cb1 cb2 cr0 cr1 fr0 fr1; obtain ⟨ca0, ca1, ca2, cb0, cb1, cb2, cr0, cr1, fr0, fr1⟩ := HS2.out.cells)
    | ((with_reducible refine gate_op (op := .load 41 (.global 1)) rfl ?_); refine gl1_event rfl rfl rfl ?hGl ?_; (case hGl => exact HS2.out.2.2.2.2))
    | ((with_reducible refine gate_op (op := .load 41 (.global 0)) rfl ?_); refine gl0_event rfl rfl rfl ?hGl ?_; (case hGl => exact HS2.out.2.2.2.2)))
  refine bodyPost_ret (results_ct rfl _ _ (w.heap.size + 1 + 1) 41 #[.int .i64 0, .int .i64 0] (0, 0) _ rfl (by (with_reducible repeat (first | refine blk_drewN ?_ _ | refine blk_drew ?_ | refine blk_alloc ?_ _)); refine blk_put (cs := #[.int .i64 0, .int .i64 0]) ?_ 1 _ rfl; (with_reducible repeat (first | refine blk_drewN ?_ _ | refine blk_drew ?_ | refine blk_alloc ?_ _)); refine blk_put (cs := #[.int .i64 0, .int .i64 0]) ?_ 0 _ rfl; (with_reducible repeat (first | refine blk_drewN ?_ _ | refine blk_drew ?_ | refine blk_alloc ?_ _)); exact HS2.out.2.2.1) Tryd.underlying41 rfl (by kernel_rfl)) rfl ?_
  have HBX := HS2.out.2.2.2.1
  exact ⟨rfl, by repeat (first | exact HBX | apply below_alloc | apply pw_below_drewN | apply below_drew1 | refine below_set ?_ (by omega))⟩
set_option maxRecDepth 100000 in
set_option maxHeartbeats 4000000 in
theorem of_5_vb (k : Nat) (tol a0 a1 : Int) (a2 : ByteArray) (b0 b1 : Int) (b2 : ByteArray) (w : World) (hG : Gl w) (hva : Q.value_Valid.f k a0 a1 a2 = some true) (hvb : Q.value_Valid.f k b0 b1 b2 = some false) :
    Calls Tryd.prog 15 #[.int .i64 5, .int .i64 tol, .agg #[.int .i64 a0, .int .i64 a1, .string a2], .agg #[.int .i64 b0, .int .i64 b1, .string b2]] w fun e w' => e = .returned (.tuple #[.agg #[.int .i64 0, .int .i64 0], .int .i64 1]) ∧ Below w.heap.size w w' := by
  have HS0 := Aside0.mk (OfS.start (a0 := a0) (a1 := a1) (a2 := a2) (b0 := b0) (b1 := b1) (b2 := b2) hG)
  clear hG
  have hu := Tryd.underlying41
  have hu2 := Tryd.underlying48
  have hnn := eq_nil_nil
  have hfn := eq_func_nil
  have hev := eq_val
  go_enter Tryd.func15, Tryd.ntmps15
  go_wp2_with (first
    | (go_at_call 23; with_reducible refine (texts_calls _).mono ?_; rintro e w1 ⟨b, rfl, hb1, hlk⟩; have hl1 := hlk 5 (by decide); rw [show ofF 5 = .nilFunc from rfl] at hl1; clear hlk; have HS1 := Aside0.mk (HS0.out.below hb1); clear hb1; obtain ⟨ca0, ca1, ca2, cb0, cb1, cb2, cr0, cr1, fr0, fr1⟩ := HS1.out.cells)
    | (go_at_call 24; with_reducible refine (Q.value_Valid.calls k a0 a1 a2 _ _ hva).mono ?_; rintro e w2 ⟨rfl, hb2⟩; have HS2 := Aside0.mk (HS1.out.below hb2); clear hb2; clear ca0 ca1 ca2 cb0 cb1 cb2 cr0 cr1 fr0 fr1; obtain ⟨ca0, ca1, ca2, cb0, cb1, cb2, cr0, cr1, fr0, fr1⟩ := HS2.out.cells)
    | (go_at_call 24; with_reducible refine (Q.value_Valid.calls k b0 b1 b2 _ _ hvb).mono ?_; rintro e w3 ⟨rfl, hb3⟩; have HS3 := Aside0.mk (HS2.out.below hb3); clear hb3; clear ca0 ca1 ca2 cb0 cb1 cb2 cr0 cr1 fr0 fr1; obtain ⟨ca0, ca1, ca2, cb0, cb1, cb2, cr0, cr1, fr0, fr1⟩ := HS3.out.cells)
    | ((with_reducible refine gate_op (op := .load 41 (.global 1)) rfl ?_); refine gl1_event rfl rfl rfl ?hGl ?_; (case hGl => exact HS3.out.2.2.2.2))
    | ((with_reducible refine gate_op (op := .load 41 (.global 0)) rfl ?_); refine gl0_event rfl rfl rfl ?hGl ?_; (case hGl => exact HS3.out.2.2.2.2)))
  refine bodyPost_ret (results_ct rfl _ _ (w.heap.size + 1 + 1) 41 #[.int .i64 0, .int .i64 0] (0, 0) _ rfl (by (with_reducible repeat (first | refine blk_drewN ?_ _ | refine blk_drew ?_ | refine blk_alloc ?_ _)); refine blk_put (cs := #[.int .i64 0, .int .i64 0]) ?_ 1 _ rfl; (with_reducible repeat (first | refine blk_drewN ?_ _ | refine blk_drew ?_ | refine blk_alloc ?_ _)); refine blk_put (cs := #[.int .i64 0, .int .i64 0]) ?_ 0 _ rfl; (with_reducible repeat (first | refine blk_drewN ?_ _ | refine blk_drew ?_ | refine blk_alloc ?_ _)); exact HS3.out.2.2.1) Tryd.underlying41 rfl (by kernel_rfl)) rfl ?_
  have HBX := HS3.out.2.2.2.1
  exact ⟨rfl, by repeat (first | exact HBX | apply below_alloc | apply pw_below_drewN | apply below_drew1 | refine below_set ?_ (by omega))⟩
set_option maxRecDepth 100000 in
set_option maxHeartbeats 4000000 in
theorem of_5_t0 (k : Nat) (tol a0 a1 : Int) (a2 : ByteArray) (b0 b1 : Int) (b2 : ByteArray) (w : World) (hG : Gl w) (hva : Q.value_Valid.f k a0 a1 a2 = some true) (hvb : Q.value_Valid.f k b0 b1 b2 = some true) (ht : decide (tol < 0) = true) :
    Calls Tryd.prog 15 #[.int .i64 5, .int .i64 tol, .agg #[.int .i64 a0, .int .i64 a1, .string a2], .agg #[.int .i64 b0, .int .i64 b1, .string b2]] w fun e w' => e = .returned (.tuple #[.agg #[.int .i64 0, .int .i64 0], .int .i64 1]) ∧ Below w.heap.size w w' := by
  have HS0 := Aside0.mk (OfS.start (a0 := a0) (a1 := a1) (a2 := a2) (b0 := b0) (b1 := b1) (b2 := b2) hG)
  clear hG
  have hu := Tryd.underlying41
  have hu2 := Tryd.underlying48
  have hnn := eq_nil_nil
  have hfn := eq_func_nil
  have hev := eq_val
  go_enter Tryd.func15, Tryd.ntmps15
  go_wp2_with (first
    | (go_at_call 23; with_reducible refine (texts_calls _).mono ?_; rintro e w1 ⟨b, rfl, hb1, hlk⟩; have hl1 := hlk 5 (by decide); rw [show ofF 5 = .nilFunc from rfl] at hl1; clear hlk; have HS1 := Aside0.mk (HS0.out.below hb1); clear hb1; obtain ⟨ca0, ca1, ca2, cb0, cb1, cb2, cr0, cr1, fr0, fr1⟩ := HS1.out.cells)
    | (go_at_call 24; with_reducible refine (Q.value_Valid.calls k a0 a1 a2 _ _ hva).mono ?_; rintro e w2 ⟨rfl, hb2⟩; have HS2 := Aside0.mk (HS1.out.below hb2); clear hb2; clear ca0 ca1 ca2 cb0 cb1 cb2 cr0 cr1 fr0 fr1; obtain ⟨ca0, ca1, ca2, cb0, cb1, cb2, cr0, cr1, fr0, fr1⟩ := HS2.out.cells)
    | (go_at_call 24; with_reducible refine (Q.value_Valid.calls k b0 b1 b2 _ _ hvb).mono ?_; rintro e w3 ⟨rfl, hb3⟩; have HS3 := Aside0.mk (HS2.out.below hb3); clear hb3; clear ca0 ca1 ca2 cb0 cb1 cb2 cr0 cr1 fr0 fr1; obtain ⟨ca0, ca1, ca2, cb0, cb1, cb2, cr0, cr1, fr0, fr1⟩ := HS3.out.cells)
    | ((with_reducible refine gate_op (op := .load 41 (.global 1)) rfl ?_); refine gl1_event rfl rfl rfl ?hGl ?_; (case hGl => exact HS3.out.2.2.2.2))
    | ((with_reducible refine gate_op (op := .load 41 (.global 0)) rfl ?_); refine gl0_event rfl rfl rfl ?hGl ?_; (case hGl => exact HS3.out.2.2.2.2)))
  refine bodyPost_ret (results_ct rfl _ _ (w.heap.size + 1 + 1) 41 #[.int .i64 0, .int .i64 0] (0, 0) _ rfl (by (with_reducible repeat (first | refine blk_drewN ?_ _ | refine blk_drew ?_ | refine blk_alloc ?_ _)); refine blk_put (cs := #[.int .i64 0, .int .i64 0]) ?_ 1 _ rfl; (with_reducible repeat (first | refine blk_drewN ?_ _ | refine blk_drew ?_ | refine blk_alloc ?_ _)); refine blk_put (cs := #[.int .i64 0, .int .i64 0]) ?_ 0 _ rfl; (with_reducible repeat (first | refine blk_drewN ?_ _ | refine blk_drew ?_ | refine blk_alloc ?_ _)); exact HS3.out.2.2.1) Tryd.underlying41 rfl (by kernel_rfl)) rfl ?_
  have HBX := HS3.out.2.2.2.1
  exact ⟨rfl, by repeat (first | exact HBX | apply below_alloc | apply pw_below_drewN | apply below_drew1 | refine below_set ?_ (by omega))⟩
set_option maxRecDepth 100000 in
set_option maxHeartbeats 4000000 in
theorem of_5_t1 (k : Nat) (tol a0 a1 : Int) (a2 : ByteArray) (b0 b1 : Int) (b2 : ByteArray) (w : World) (hG : Gl w) (hva : Q.value_Valid.f k a0 a1 a2 = some true) (hvb : Q.value_Valid.f k b0 b1 b2 = some true) (ht : decide (tol < 0) = false) (ht1 : decide (1000000000 ≤ tol) = true) :
    Calls Tryd.prog 15 #[.int .i64 5, .int .i64 tol, .agg #[.int .i64 a0, .int .i64 a1, .string a2], .agg #[.int .i64 b0, .int .i64 b1, .string b2]] w fun e w' => e = .returned (.tuple #[.agg #[.int .i64 0, .int .i64 0], .int .i64 1]) ∧ Below w.heap.size w w' := by
  have HS0 := Aside0.mk (OfS.start (a0 := a0) (a1 := a1) (a2 := a2) (b0 := b0) (b1 := b1) (b2 := b2) hG)
  clear hG
  have hu := Tryd.underlying41
  have hu2 := Tryd.underlying48
  have hnn := eq_nil_nil
  have hfn := eq_func_nil
  have hev := eq_val
  go_enter Tryd.func15, Tryd.ntmps15
  go_wp2_with (first
    | (go_at_call 23; with_reducible refine (texts_calls _).mono ?_; rintro e w1 ⟨b, rfl, hb1, hlk⟩; have hl1 := hlk 5 (by decide); rw [show ofF 5 = .nilFunc from rfl] at hl1; clear hlk; have HS1 := Aside0.mk (HS0.out.below hb1); clear hb1; obtain ⟨ca0, ca1, ca2, cb0, cb1, cb2, cr0, cr1, fr0, fr1⟩ := HS1.out.cells)
    | (go_at_call 24; with_reducible refine (Q.value_Valid.calls k a0 a1 a2 _ _ hva).mono ?_; rintro e w2 ⟨rfl, hb2⟩; have HS2 := Aside0.mk (HS1.out.below hb2); clear hb2; clear ca0 ca1 ca2 cb0 cb1 cb2 cr0 cr1 fr0 fr1; obtain ⟨ca0, ca1, ca2, cb0, cb1, cb2, cr0, cr1, fr0, fr1⟩ := HS2.out.cells)
    | (go_at_call 24; with_reducible refine (Q.value_Valid.calls k b0 b1 b2 _ _ hvb).mono ?_; rintro e w3 ⟨rfl, hb3⟩; have HS3 := Aside0.mk (HS2.out.below hb3); clear hb3; clear ca0 ca1 ca2 cb0 cb1 cb2 cr0 cr1 fr0 fr1; obtain ⟨ca0, ca1, ca2, cb0, cb1, cb2, cr0, cr1, fr0, fr1⟩ := HS3.out.cells)
    | ((with_reducible refine gate_op (op := .load 41 (.global 1)) rfl ?_); refine gl1_event rfl rfl rfl ?hGl ?_; (case hGl => exact HS3.out.2.2.2.2))
    | ((with_reducible refine gate_op (op := .load 41 (.global 0)) rfl ?_); refine gl0_event rfl rfl rfl ?hGl ?_; (case hGl => exact HS3.out.2.2.2.2)))
  refine bodyPost_ret (results_ct rfl _ _ (w.heap.size + 1 + 1) 41 #[.int .i64 0, .int .i64 0] (0, 0) _ rfl (by (with_reducible repeat (first | refine blk_drewN ?_ _ | refine blk_drew ?_ | refine blk_alloc ?_ _)); refine blk_put (cs := #[.int .i64 0, .int .i64 0]) ?_ 1 _ rfl; (with_reducible repeat (first | refine blk_drewN ?_ _ | refine blk_drew ?_ | refine blk_alloc ?_ _)); refine blk_put (cs := #[.int .i64 0, .int .i64 0]) ?_ 0 _ rfl; (with_reducible repeat (first | refine blk_drewN ?_ _ | refine blk_drew ?_ | refine blk_alloc ?_ _)); exact HS3.out.2.2.1) Tryd.underlying41 rfl (by kernel_rfl)) rfl ?_
  have HBX := HS3.out.2.2.2.1
  exact ⟨rfl, by repeat (first | exact HBX | apply below_alloc | apply pw_below_drewN | apply below_drew1 | refine below_set ?_ (by omega))⟩
set_option maxRecDepth 100000 in
set_option maxHeartbeats 4000000 in
theorem of_5_na (k : Nat) (tol a0 a1 : Int) (a2 : ByteArray) (b0 b1 : Int) (b2 : ByteArray) (w : World) (hG : Gl w) (hva : Q.value_Valid.f k a0 a1 a2 = some true) (hvb : Q.value_Valid.f k b0 b1 b2 = some true) (ht : decide (tol < 0) = false) (ht1 : decide (1000000000 ≤ tol) = false) (ha : (a0 == 0) = true) :
    Calls Tryd.prog 15 #[.int .i64 5, .int .i64 tol, .agg #[.int .i64 a0, .int .i64 a1, .string a2], .agg #[.int .i64 b0, .int .i64 b1, .string b2]] w fun e w' => e = .returned (.tuple #[.agg #[.int .i64 0, .int .i64 1], .int .i64 0]) ∧ Below w.heap.size w w' := by
  have HS0 := Aside0.mk (OfS.start (a0 := a0) (a1 := a1) (a2 := a2) (b0 := b0) (b1 := b1) (b2 := b2) hG)
  clear hG
  have hu := Tryd.underlying41
  have hu2 := Tryd.underlying48
  have hnn := eq_nil_nil
  have hfn := eq_func_nil
  have hev := eq_val
  go_enter Tryd.func15, Tryd.ntmps15
  go_wp2_with (first
    | (go_at_call 23; with_reducible refine (texts_calls _).mono ?_; rintro e w1 ⟨b, rfl, hb1, hlk⟩; have hl1 := hlk 5 (by decide); rw [show ofF 5 = .nilFunc from rfl] at hl1; clear hlk; have HS1 := Aside0.mk (HS0.out.below hb1); clear hb1; obtain ⟨ca0, ca1, ca2, cb0, cb1, cb2, cr0, cr1, fr0, fr1⟩ := HS1.out.cells)
    | (go_at_call 24; with_reducible refine (Q.value_Valid.calls k a0 a1 a2 _ _ hva).mono ?_; rintro e w2 ⟨rfl, hb2⟩; have HS2 := Aside0.mk (HS1.out.below hb2); clear hb2; clear ca0 ca1 ca2 cb0 cb1 cb2 cr0 cr1 fr0 fr1; obtain ⟨ca0, ca1, ca2, cb0, cb1, cb2, cr0, cr1, fr0, fr1⟩ := HS2.out.cells)
    | (go_at_call 24; with_reducible refine (Q.value_Valid.calls k b0 b1 b2 _ _ hvb).mono ?_; rintro e w3 ⟨rfl, hb3⟩; have HS3 := Aside0.mk (HS2.out.below hb3); clear hb3; clear ca0 ca1 ca2 cb0 cb1 cb2 cr0 cr1 fr0 fr1; obtain ⟨ca0, ca1, ca2, cb0, cb1, cb2, cr0, cr1, fr0, fr1⟩ := HS3.out.cells)
    | ((with_reducible refine gate_op (op := .load 41 (.global 1)) rfl ?_); refine gl1_event rfl rfl rfl ?hGl ?_; (case hGl => exact HS3.out.2.2.2.2))
    | ((with_reducible refine gate_op (op := .load 41 (.global 0)) rfl ?_); refine gl0_event rfl rfl rfl ?hGl ?_; (case hGl => exact HS3.out.2.2.2.2)))
  refine bodyPost_ret (results_ct rfl _ _ (w.heap.size + 1 + 1) 41 #[.int .i64 0, .int .i64 1] (0, 0) _ rfl (by (with_reducible repeat (first | refine blk_drewN ?_ _ | refine blk_drew ?_ | refine blk_alloc ?_ _)); refine blk_put (cs := #[.int .i64 0, .int .i64 0]) ?_ 1 _ rfl; (with_reducible repeat (first | refine blk_drewN ?_ _ | refine blk_drew ?_ | refine blk_alloc ?_ _)); refine blk_put (cs := #[.int .i64 0, .int .i64 0]) ?_ 0 _ rfl; (with_reducible repeat (first | refine blk_drewN ?_ _ | refine blk_drew ?_ | refine blk_alloc ?_ _)); exact HS3.out.2.2.1) Tryd.underlying41 rfl (by kernel_rfl)) rfl ?_
  have HBX := HS3.out.2.2.2.1
  exact ⟨rfl, by repeat (first | exact HBX | apply below_alloc | apply pw_below_drewN | apply below_drew1 | refine below_set ?_ (by omega))⟩
set_option maxRecDepth 100000 in
set_option maxHeartbeats 4000000 in
theorem of_5_nb (k : Nat) (tol a0 a1 : Int) (a2 : ByteArray) (b0 b1 : Int) (b2 : ByteArray) (w : World) (hG : Gl w) (hva : Q.value_Valid.f k a0 a1 a2 = some true) (hvb : Q.value_Valid.f k b0 b1 b2 = some true) (ht : decide (tol < 0) = false) (ht1 : decide (1000000000 ≤ tol) = false) (ha : (a0 == 0) = false) (hb : (b0 == 0) = true) :
    Calls Tryd.prog 15 #[.int .i64 5, .int .i64 tol, .agg #[.int .i64 a0, .int .i64 a1, .string a2], .agg #[.int .i64 b0, .int .i64 b1, .string b2]] w fun e w' => e = .returned (.tuple #[.agg #[.int .i64 0, .int .i64 1], .int .i64 0]) ∧ Below w.heap.size w w' := by
  have HS0 := Aside0.mk (OfS.start (a0 := a0) (a1 := a1) (a2 := a2) (b0 := b0) (b1 := b1) (b2 := b2) hG)
  clear hG
  have hu := Tryd.underlying41
  have hu2 := Tryd.underlying48
  have hnn := eq_nil_nil
  have hfn := eq_func_nil
  have hev := eq_val
  go_enter Tryd.func15, Tryd.ntmps15
  go_wp2_with (first
    | (go_at_call 23; with_reducible refine (texts_calls _).mono ?_; rintro e w1 ⟨b, rfl, hb1, hlk⟩; have hl1 := hlk 5 (by decide); rw [show ofF 5 = .nilFunc from rfl] at hl1; clear hlk; have HS1 := Aside0.mk (HS0.out.below hb1); clear hb1; obtain ⟨ca0, ca1, ca2, cb0, cb1, cb2, cr0, cr1, fr0, fr1⟩ := HS1.out.cells)
    | (go_at_call 24; with_reducible refine (Q.value_Valid.calls k a0 a1 a2 _ _ hva).mono ?_; rintro e w2 ⟨rfl, hb2⟩; have HS2 := Aside0.mk (HS1.out.below hb2); clear hb2; clear ca0 ca1 ca2 cb0 cb1 cb2 cr0 cr1 fr0 fr1; obtain ⟨ca0, ca1, ca2, cb0, cb1, cb2, cr0, cr1, fr0, fr1⟩ := HS2.out.cells)
    | (go_at_call 24; with_reducible refine (Q.value_Valid.calls k b0 b1 b2 _ _ hvb).mono ?_; rintro e w3 ⟨rfl, hb3⟩; have HS3 := Aside0.mk (HS2.out.below hb3); clear hb3; clear ca0 ca1 ca2 cb0 cb1 cb2 cr0 cr1 fr0 fr1; obtain ⟨ca0, ca1, ca2, cb0, cb1, cb2, cr0, cr1, fr0, fr1⟩ := HS3.out.cells)
    | ((with_reducible refine gate_op (op := .load 41 (.global 1)) rfl ?_); refine gl1_event rfl rfl rfl ?hGl ?_; (case hGl => exact HS3.out.2.2.2.2))
    | ((with_reducible refine gate_op (op := .load 41 (.global 0)) rfl ?_); refine gl0_event rfl rfl rfl ?hGl ?_; (case hGl => exact HS3.out.2.2.2.2)))
  refine bodyPost_ret (results_ct rfl _ _ (w.heap.size + 1 + 1) 41 #[.int .i64 0, .int .i64 1] (0, 0) _ rfl (by (with_reducible repeat (first | refine blk_drewN ?_ _ | refine blk_drew ?_ | refine blk_alloc ?_ _)); refine blk_put (cs := #[.int .i64 0, .int .i64 0]) ?_ 1 _ rfl; (with_reducible repeat (first | refine blk_drewN ?_ _ | refine blk_drew ?_ | refine blk_alloc ?_ _)); refine blk_put (cs := #[.int .i64 0, .int .i64 0]) ?_ 0 _ rfl; (with_reducible repeat (first | refine blk_drewN ?_ _ | refine blk_drew ?_ | refine blk_alloc ?_ _)); exact HS3.out.2.2.1) Tryd.underlying41 rfl (by kernel_rfl)) rfl ?_
  have HBX := HS3.out.2.2.2.1
  exact ⟨rfl, by repeat (first | exact HBX | apply below_alloc | apply pw_below_drewN | apply below_drew1 | refine below_set ?_ (by omega))⟩
set_option maxRecDepth 100000 in
set_option maxHeartbeats 4000000 in
theorem of_5_kd (k : Nat) (tol a0 a1 : Int) (a2 : ByteArray) (b0 b1 : Int) (b2 : ByteArray) (w : World) (hG : Gl w) (hva : Q.value_Valid.f k a0 a1 a2 = some true) (hvb : Q.value_Valid.f k b0 b1 b2 = some true) (ht : decide (tol < 0) = false) (ht1 : decide (1000000000 ≤ tol) = false) (ha : (a0 == 0) = false) (hb : (b0 == 0) = false) (e0 : (a0 != b0) = true) :
    Calls Tryd.prog 15 #[.int .i64 5, .int .i64 tol, .agg #[.int .i64 a0, .int .i64 a1, .string a2], .agg #[.int .i64 b0, .int .i64 b1, .string b2]] w fun e w' => e = .returned (.tuple #[.agg #[.int .i64 0, .int .i64 0], .int .i64 10]) ∧ Below w.heap.size w w' := by
  have HS0 := Aside0.mk (OfS.start (a0 := a0) (a1 := a1) (a2 := a2) (b0 := b0) (b1 := b1) (b2 := b2) hG)
  clear hG
  have hu := Tryd.underlying41
  have hu2 := Tryd.underlying48
  have hnn := eq_nil_nil
  have hfn := eq_func_nil
  have hev := eq_val
  go_enter Tryd.func15, Tryd.ntmps15
  go_wp2_with (first
    | (go_at_call 23; with_reducible refine (texts_calls _).mono ?_; rintro e w1 ⟨b, rfl, hb1, hlk⟩; have hl1 := hlk 5 (by decide); rw [show ofF 5 = .nilFunc from rfl] at hl1; clear hlk; have HS1 := Aside0.mk (HS0.out.below hb1); clear hb1; obtain ⟨ca0, ca1, ca2, cb0, cb1, cb2, cr0, cr1, fr0, fr1⟩ := HS1.out.cells)
    | (go_at_call 24; with_reducible refine (Q.value_Valid.calls k a0 a1 a2 _ _ hva).mono ?_; rintro e w2 ⟨rfl, hb2⟩; have HS2 := Aside0.mk (HS1.out.below hb2); clear hb2; clear ca0 ca1 ca2 cb0 cb1 cb2 cr0 cr1 fr0 fr1; obtain ⟨ca0, ca1, ca2, cb0, cb1, cb2, cr0, cr1, fr0, fr1⟩ := HS2.out.cells)
    | (go_at_call 24; with_reducible refine (Q.value_Valid.calls k b0 b1 b2 _ _ hvb).mono ?_; rintro e w3 ⟨rfl, hb3⟩; have HS3 := Aside0.mk (HS2.out.below hb3); clear hb3; clear ca0 ca1 ca2 cb0 cb1 cb2 cr0 cr1 fr0 fr1; obtain ⟨ca0, ca1, ca2, cb0, cb1, cb2, cr0, cr1, fr0, fr1⟩ := HS3.out.cells)
    | ((with_reducible refine gate_op (op := .load 41 (.global 1)) rfl ?_); refine gl1_event rfl rfl rfl ?hGl ?_; (case hGl => exact HS3.out.2.2.2.2))
    | ((with_reducible refine gate_op (op := .load 41 (.global 0)) rfl ?_); refine gl0_event rfl rfl rfl ?hGl ?_; (case hGl => exact HS3.out.2.2.2.2)))
  refine bodyPost_ret (results_ct rfl _ _ (w.heap.size + 1 + 1) 41 #[.int .i64 0, .int .i64 0] (0, 0) _ rfl (by (with_reducible repeat (first | refine blk_drewN ?_ _ | refine blk_drew ?_ | refine blk_alloc ?_ _)); refine blk_put (cs := #[.int .i64 0, .int .i64 0]) ?_ 1 _ rfl; (with_reducible repeat (first | refine blk_drewN ?_ _ | refine blk_drew ?_ | refine blk_alloc ?_ _)); refine blk_put (cs := #[.int .i64 0, .int .i64 0]) ?_ 0 _ rfl; (with_reducible repeat (first | refine blk_drewN ?_ _ | refine blk_drew ?_ | refine blk_alloc ?_ _)); exact HS3.out.2.2.1) Tryd.underlying41 rfl (by kernel_rfl)) rfl ?_
  have HBX := HS3.out.2.2.2.1
  exact ⟨rfl, by repeat (first | exact HBX | apply below_alloc | apply pw_below_drewN | apply below_drew1 | refine below_set ?_ (by omega))⟩
set_option maxRecDepth 100000 in
set_option maxHeartbeats 4000000 in
theorem of_5_ty (k : Nat) (tol a0 a1 : Int) (a2 : ByteArray) (b0 b1 : Int) (b2 : ByteArray) (w : World) (hG : Gl w) (hva : Q.value_Valid.f k a0 a1 a2 = some true) (hvb : Q.value_Valid.f k b0 b1 b2 = some true) (ht : decide (tol < 0) = false) (ht1 : decide (1000000000 ≤ tol) = false) (ha : (a0 == 0) = false) (hb : (b0 == 0) = false) (e0 : (a0 != b0) = false) (e2 : (a0 != 2) = true) (e3 : (a0 != 3) = true) :
    Calls Tryd.prog 15 #[.int .i64 5, .int .i64 tol, .agg #[.int .i64 a0, .int .i64 a1, .string a2], .agg #[.int .i64 b0, .int .i64 b1, .string b2]] w fun e w' => e = .returned (.tuple #[.agg #[.int .i64 0, .int .i64 0], .int .i64 10]) ∧ Below w.heap.size w w' := by
  have HS0 := Aside0.mk (OfS.start (a0 := a0) (a1 := a1) (a2 := a2) (b0 := b0) (b1 := b1) (b2 := b2) hG)
  clear hG
  have hu := Tryd.underlying41
  have hu2 := Tryd.underlying48
  have hnn := eq_nil_nil
  have hfn := eq_func_nil
  have hev := eq_val
  go_enter Tryd.func15, Tryd.ntmps15
  go_wp2_with (first
    | (go_at_call 23; with_reducible refine (texts_calls _).mono ?_; rintro e w1 ⟨b, rfl, hb1, hlk⟩; have hl1 := hlk 5 (by decide); rw [show ofF 5 = .nilFunc from rfl] at hl1; clear hlk; have HS1 := Aside0.mk (HS0.out.below hb1); clear hb1; obtain ⟨ca0, ca1, ca2, cb0, cb1, cb2, cr0, cr1, fr0, fr1⟩ := HS1.out.cells)
    | (go_at_call 24; with_reducible refine (Q.value_Valid.calls k a0 a1 a2 _ _ hva).mono ?_; rintro e w2 ⟨rfl, hb2⟩; have HS2 := Aside0.mk (HS1.out.below hb2); clear hb2; clear ca0 ca1 ca2 cb0 cb1 cb2 cr0 cr1 fr0 fr1; obtain ⟨ca0, ca1, ca2, cb0, cb1, cb2, cr0, cr1, fr0, fr1⟩ := HS2.out.cells)
    | (go_at_call 24; with_reducible refine (Q.value_Valid.calls k b0 b1 b2 _ _ hvb).mono ?_; rintro e w3 ⟨rfl, hb3⟩; have HS3 := Aside0.mk (HS2.out.below hb3); clear hb3; clear ca0 ca1 ca2 cb0 cb1 cb2 cr0 cr1 fr0 fr1; obtain ⟨ca0, ca1, ca2, cb0, cb1, cb2, cr0, cr1, fr0, fr1⟩ := HS3.out.cells)
    | ((with_reducible refine gate_op (op := .load 41 (.global 1)) rfl ?_); refine gl1_event rfl rfl rfl ?hGl ?_; (case hGl => exact HS3.out.2.2.2.2))
    | ((with_reducible refine gate_op (op := .load 41 (.global 0)) rfl ?_); refine gl0_event rfl rfl rfl ?hGl ?_; (case hGl => exact HS3.out.2.2.2.2)))
  refine bodyPost_ret (results_ct rfl _ _ (w.heap.size + 1 + 1) 41 #[.int .i64 0, .int .i64 0] (0, 0) _ rfl (by (with_reducible repeat (first | refine blk_drewN ?_ _ | refine blk_drew ?_ | refine blk_alloc ?_ _)); refine blk_put (cs := #[.int .i64 0, .int .i64 0]) ?_ 1 _ rfl; (with_reducible repeat (first | refine blk_drewN ?_ _ | refine blk_drew ?_ | refine blk_alloc ?_ _)); refine blk_put (cs := #[.int .i64 0, .int .i64 0]) ?_ 0 _ rfl; (with_reducible repeat (first | refine blk_drewN ?_ _ | refine blk_drew ?_ | refine blk_alloc ?_ _)); exact HS3.out.2.2.1) Tryd.underlying41 rfl (by kernel_rfl)) rfl ?_
  have HBX := HS3.out.2.2.2.1
  exact ⟨rfl, by repeat (first | exact HBX | apply below_alloc | apply pw_below_drewN | apply below_drew1 | refine below_set ?_ (by omega))⟩
set_option maxRecDepth 100000 in
set_option maxHeartbeats 4000000 in
theorem of_5_c2 (k : Nat) (tol a0 a1 : Int) (a2 : ByteArray) (b0 b1 : Int) (b2 : ByteArray) (w : World) (hG : Gl w) (hva : Q.value_Valid.f k a0 a1 a2 = some true) (hvb : Q.value_Valid.f k b0 b1 b2 = some true) (ht : decide (tol < 0) = false) (ht1 : decide (1000000000 ≤ tol) = false) (ha : (a0 == 0) = false) (hb : (b0 == 0) = false) (e0 : (a0 != b0) = false) (e2 : (a0 != 2) = false) (r1 r2 : Int) (hN : Q.measure_Near.f k a1 b1 tol = some (r1, r2)) :
    Calls Tryd.prog 15 #[.int .i64 5, .int .i64 tol, .agg #[.int .i64 a0, .int .i64 a1, .string a2], .agg #[.int .i64 b0, .int .i64 b1, .string b2]] w fun e w' => e = .returned (.tuple #[.agg #[.int .i64 r1, .int .i64 r2], .int .i64 0]) ∧ Below w.heap.size w w' := by
  have HS0 := Aside0.mk (OfS.start (a0 := a0) (a1 := a1) (a2 := a2) (b0 := b0) (b1 := b1) (b2 := b2) hG)
  clear hG
  have hu := Tryd.underlying41
  have hu2 := Tryd.underlying48
  have hnn := eq_nil_nil
  have hfn := eq_func_nil
  have hev := eq_val
  go_enter Tryd.func15, Tryd.ntmps15
  go_wp2_with (first
    | (go_at_call 23; with_reducible refine (texts_calls _).mono ?_; rintro e w1 ⟨b, rfl, hb1, hlk⟩; have hl1 := hlk 5 (by decide); rw [show ofF 5 = .nilFunc from rfl] at hl1; clear hlk; have HS1 := Aside0.mk (HS0.out.below hb1); clear hb1; obtain ⟨ca0, ca1, ca2, cb0, cb1, cb2, cr0, cr1, fr0, fr1⟩ := HS1.out.cells)
    | (go_at_call 24; with_reducible refine (Q.value_Valid.calls k a0 a1 a2 _ _ hva).mono ?_; rintro e w2 ⟨rfl, hb2⟩; have HS2 := Aside0.mk (HS1.out.below hb2); clear hb2; clear ca0 ca1 ca2 cb0 cb1 cb2 cr0 cr1 fr0 fr1; obtain ⟨ca0, ca1, ca2, cb0, cb1, cb2, cr0, cr1, fr0, fr1⟩ := HS2.out.cells)
    | (go_at_call 24; with_reducible refine (Q.value_Valid.calls k b0 b1 b2 _ _ hvb).mono ?_; rintro e w3 ⟨rfl, hb3⟩; have HS3 := Aside0.mk (HS2.out.below hb3); clear hb3; clear ca0 ca1 ca2 cb0 cb1 cb2 cr0 cr1 fr0 fr1; obtain ⟨ca0, ca1, ca2, cb0, cb1, cb2, cr0, cr1, fr0, fr1⟩ := HS3.out.cells)
    | ((with_reducible refine gate_op (op := .load 41 (.global 1)) rfl ?_); refine gl1_event rfl rfl rfl ?hGl ?_; (case hGl => exact HS3.out.2.2.2.2))
    | ((with_reducible refine gate_op (op := .load 41 (.global 0)) rfl ?_); refine gl0_event rfl rfl rfl ?hGl ?_; (case hGl => exact HS3.out.2.2.2.2))
    | (go_at_call 25; with_reducible refine (Q.measure_Near.calls k a1 b1 tol r1 r2 _ HS3.out.gl hN).mono ?_; rintro e w4 ⟨rfl, hb4⟩; have HS4 := Aside0.mk (HS3.out.below hb4); clear hb4; clear ca0 ca1 ca2 cb0 cb1 cb2 cr0 cr1 fr0 fr1; obtain ⟨ca0, ca1, ca2, cb0, cb1, cb2, cr0, cr1, fr0, fr1⟩ := HS4.out.cells))
  refine bodyPost_ret (results_ct rfl _ _ (w.heap.size + 1 + 1) 41 #[.int .i64 r1, .int .i64 r2] (0, 0) _ rfl (by (with_reducible repeat (first | refine blk_drewN ?_ _ | refine blk_drew ?_ | refine blk_alloc ?_ _)); refine blk_put (cs := #[.int .i64 r1, .int .i64 0]) ?_ 1 _ rfl; (with_reducible repeat (first | refine blk_drewN ?_ _ | refine blk_drew ?_ | refine blk_alloc ?_ _)); refine blk_put (cs := #[.int .i64 0, .int .i64 0]) ?_ 0 _ rfl; (with_reducible repeat (first | refine blk_drewN ?_ _ | refine blk_drew ?_ | refine blk_alloc ?_ _)); exact HS4.out.2.2.1) Tryd.underlying41 rfl (by kernel_rfl)) rfl ?_
  have HBX := HS4.out.2.2.2.1
  exact ⟨rfl, by repeat (first | exact HBX | apply below_alloc | apply pw_below_drewN | apply below_drew1 | refine below_set ?_ (by omega))⟩
set_option maxRecDepth 100000 in
set_option maxHeartbeats 4000000 in
theorem of_5_c3 (k : Nat) (tol a0 a1 : Int) (a2 : ByteArray) (b0 b1 : Int) (b2 : ByteArray) (w : World) (hG : Gl w) (hva : Q.value_Valid.f k a0 a1 a2 = some true) (hvb : Q.value_Valid.f k b0 b1 b2 = some true) (ht : decide (tol < 0) = false) (ht1 : decide (1000000000 ≤ tol) = false) (ha : (a0 == 0) = false) (hb : (b0 == 0) = false) (e0 : (a0 != b0) = false) (e2 : (a0 != 2) = true) (e3 : (a0 != 3) = false) (r1 r2 : Int) (hN : Q.measure_Near.f k a1 b1 tol = some (r1, r2)) :
    Calls Tryd.prog 15 #[.int .i64 5, .int .i64 tol, .agg #[.int .i64 a0, .int .i64 a1, .string a2], .agg #[.int .i64 b0, .int .i64 b1, .string b2]] w fun e w' => e = .returned (.tuple #[.agg #[.int .i64 r1, .int .i64 r2], .int .i64 0]) ∧ Below w.heap.size w w' := by
  have HS0 := Aside0.mk (OfS.start (a0 := a0) (a1 := a1) (a2 := a2) (b0 := b0) (b1 := b1) (b2 := b2) hG)
  clear hG
  have hu := Tryd.underlying41
  have hu2 := Tryd.underlying48
  have hnn := eq_nil_nil
  have hfn := eq_func_nil
  have hev := eq_val
  go_enter Tryd.func15, Tryd.ntmps15
  go_wp2_with (first
    | (go_at_call 23; with_reducible refine (texts_calls _).mono ?_; rintro e w1 ⟨b, rfl, hb1, hlk⟩; have hl1 := hlk 5 (by decide); rw [show ofF 5 = .nilFunc from rfl] at hl1; clear hlk; have HS1 := Aside0.mk (HS0.out.below hb1); clear hb1; obtain ⟨ca0, ca1, ca2, cb0, cb1, cb2, cr0, cr1, fr0, fr1⟩ := HS1.out.cells)
    | (go_at_call 24; with_reducible refine (Q.value_Valid.calls k a0 a1 a2 _ _ hva).mono ?_; rintro e w2 ⟨rfl, hb2⟩; have HS2 := Aside0.mk (HS1.out.below hb2); clear hb2; clear ca0 ca1 ca2 cb0 cb1 cb2 cr0 cr1 fr0 fr1; obtain ⟨ca0, ca1, ca2, cb0, cb1, cb2, cr0, cr1, fr0, fr1⟩ := HS2.out.cells)
    | (go_at_call 24; with_reducible refine (Q.value_Valid.calls k b0 b1 b2 _ _ hvb).mono ?_; rintro e w3 ⟨rfl, hb3⟩; have HS3 := Aside0.mk (HS2.out.below hb3); clear hb3; clear ca0 ca1 ca2 cb0 cb1 cb2 cr0 cr1 fr0 fr1; obtain ⟨ca0, ca1, ca2, cb0, cb1, cb2, cr0, cr1, fr0, fr1⟩ := HS3.out.cells)
    | ((with_reducible refine gate_op (op := .load 41 (.global 1)) rfl ?_); refine gl1_event rfl rfl rfl ?hGl ?_; (case hGl => exact HS3.out.2.2.2.2))
    | ((with_reducible refine gate_op (op := .load 41 (.global 0)) rfl ?_); refine gl0_event rfl rfl rfl ?hGl ?_; (case hGl => exact HS3.out.2.2.2.2))
    | (go_at_call 25; with_reducible refine (Q.measure_Near.calls k a1 b1 tol r1 r2 _ HS3.out.gl hN).mono ?_; rintro e w4 ⟨rfl, hb4⟩; have HS4 := Aside0.mk (HS3.out.below hb4); clear hb4; clear ca0 ca1 ca2 cb0 cb1 cb2 cr0 cr1 fr0 fr1; obtain ⟨ca0, ca1, ca2, cb0, cb1, cb2, cr0, cr1, fr0, fr1⟩ := HS4.out.cells))
  refine bodyPost_ret (results_ct rfl _ _ (w.heap.size + 1 + 1) 41 #[.int .i64 r1, .int .i64 r2] (0, 0) _ rfl (by (with_reducible repeat (first | refine blk_drewN ?_ _ | refine blk_drew ?_ | refine blk_alloc ?_ _)); refine blk_put (cs := #[.int .i64 r1, .int .i64 0]) ?_ 1 _ rfl; (with_reducible repeat (first | refine blk_drewN ?_ _ | refine blk_drew ?_ | refine blk_alloc ?_ _)); refine blk_put (cs := #[.int .i64 0, .int .i64 0]) ?_ 0 _ rfl; (with_reducible repeat (first | refine blk_drewN ?_ _ | refine blk_drew ?_ | refine blk_alloc ?_ _)); exact HS4.out.2.2.1) Tryd.underlying41 rfl (by kernel_rfl)) rfl ?_
  have HBX := HS4.out.2.2.2.1
  exact ⟨rfl, by repeat (first | exact HBX | apply below_alloc | apply pw_below_drewN | apply below_drew1 | refine below_set ?_ (by omega))⟩
theorem fin3 {x y z r1 r2 r3 : Int} (h : some (x, y, z) = some (r1, r2, r3)) : x = r1 ∧ y = r2 ∧ z = r3 := by
  injection h with h
  exact ⟨congrArg (fun p => p.1) h, congrArg (fun p => p.2.1) h, congrArg (fun p => p.2.2) h⟩
theorem of_bt {p : Prop} [Decidable p] (h : p) : decide p = true := decide_eq_true h
theorem of_bf {p : Prop} [Decidable p] (h : ¬ p) : decide p = false := decide_eq_false h
theorem of_eqt {x y : Int} (h : x = y) : (x == y) = true := beq_iff_eq.2 h
theorem of_eqf {x y : Int} (h : ¬ x = y) : (x == y) = false := beq_eq_false_iff_ne.2 h
theorem of_net {x y : Int} (h : ¬ x = y) : (x != y) = true := bne_iff_ne.2 h
theorem of_nef {x y : Int} (h : x = y) : (x != y) = false := bne_eq_false_iff_eq.2 h
theorem of_lqt {x y : List UInt8} (h : x = y) : (x == y) = true := beq_iff_eq.2 h
theorem of_lqf {x y : List UInt8} (h : ¬ x = y) : (x == y) = false := beq_eq_false_iff_ne.2 h
theorem measure_Of.calls (k : Nat) (m tol a0 a1 : Int) (a2 : ByteArray) (b0 b1 : Int) (b2 : ByteArray) (r1 r2 r3 : Int) (w : World) (hG : Gl w) (h : measure_Of.f k m tol a0 a1 a2 b0 b1 b2 = some (r1, r2, r3)) :
    Calls Tryd.prog 15 #[.int .i64 m, .int .i64 tol, .agg #[.int .i64 a0, .int .i64 a1, .string a2], .agg #[.int .i64 b0, .int .i64 b1, .string b2]] w fun e w' => e = .returned (.tuple #[.agg #[.int .i64 r1, .int .i64 r2], .int .i64 r3]) ∧ Below w.heap.size w w' := by
  unfold measure_Of.f at h
  by_cases hwf : (Lit.int .i64 m).wf = true
  · rw [if_pos hwf] at h
    by_cases hm : m < 1 ∨ 5 < m
    · rw [if_pos hm] at h
      obtain ⟨rfl, rfl, rfl⟩ := fin3 h
      exact of_other k m tol a0 a1 a2 b0 b1 b2 w hG hwf (by unfold ofF; rw [if_neg (by omega), if_neg (by omega), if_neg (by omega)]) (of_eqf (by omega)) (of_net (by omega))
    · rw [if_neg hm] at h
      obtain rfl | rfl | rfl | rfl | rfl : m = 1 ∨ m = 2 ∨ m = 3 ∨ m = 4 ∨ m = 5 := by omega
      · cases hva : Q.value_Valid.f k a0 a1 a2 with
        | none => rw [hva] at h; cases h
        | some va =>
          rw [hva] at h
          simp only [Option.bind_some] at h
          cases va with
          | false =>
            rw [if_neg (by decide)] at h
            obtain ⟨rfl, rfl, rfl⟩ := fin3 h
            exact of_1_va k tol a0 a1 a2 b0 b1 b2 w hG hva
          | true =>
            rw [if_pos rfl] at h
            cases hvb : Q.value_Valid.f k b0 b1 b2 with
            | none => rw [hvb] at h; cases h
            | some vb =>
              rw [hvb] at h
              simp only [Option.bind_some] at h
              cases vb with
              | false =>
                rw [if_neg (by decide)] at h
                obtain ⟨rfl, rfl, rfl⟩ := fin3 h
                exact of_1_vb k tol a0 a1 a2 b0 b1 b2 w hG hva hvb
              | true =>
                rw [if_pos rfl] at h
                unfold ofTail at h
                rw [if_neg (fun h => absurd h.1 (by decide))] at h
                by_cases na : a0 = 0
                · rw [if_pos (.inl na)] at h
                  obtain ⟨rfl, rfl, rfl⟩ := fin3 h
                  exact of_1_na k tol a0 a1 a2 b0 b1 b2 w hG hva hvb (of_eqt na)
                by_cases nb : b0 = 0
                · rw [if_pos (.inr nb)] at h
                  obtain ⟨rfl, rfl, rfl⟩ := fin3 h
                  exact of_1_nb k tol a0 a1 a2 b0 b1 b2 w hG hva hvb (of_eqf na) (of_eqt nb)
                rw [if_neg (fun h => h.elim na nb)] at h
                rw [if_pos rfl] at h
                by_cases e0 : a0 = b0
                · by_cases e1 : a1 = b1
                  · by_cases e2 : a2.toList = b2.toList
                    · rw [if_pos ⟨e0, e1, e2⟩] at h
                      obtain ⟨rfl, rfl, rfl⟩ := fin3 h
                      exact of_1_eq k tol a0 a1 a2 b0 b1 b2 w hG hva hvb (of_eqf na) (of_eqf nb) (of_eqt e0) (of_eqt e1) (of_lqt e2)
                    · rw [if_neg (fun h => e2 h.2.2)] at h
                      obtain ⟨rfl, rfl, rfl⟩ := fin3 h
                      exact of_1_n2 k tol a0 a1 a2 b0 b1 b2 w hG hva hvb (of_eqf na) (of_eqf nb) (of_eqt e0) (of_eqt e1) (of_lqf e2)
                  · rw [if_neg (fun h => e1 h.2.1)] at h
                    obtain ⟨rfl, rfl, rfl⟩ := fin3 h
                    exact of_1_n1 k tol a0 a1 a2 b0 b1 b2 w hG hva hvb (of_eqf na) (of_eqf nb) (of_eqt e0) (of_eqf e1)
                · rw [if_neg (fun h => e0 h.1)] at h
                  obtain ⟨rfl, rfl, rfl⟩ := fin3 h
                  exact of_1_n0 k tol a0 a1 a2 b0 b1 b2 w hG hva hvb (of_eqf na) (of_eqf nb) (of_eqf e0)
      · cases hva : Q.value_Valid.f k a0 a1 a2 with
        | none => rw [hva] at h; cases h
        | some va =>
          rw [hva] at h
          simp only [Option.bind_some] at h
          cases va with
          | false =>
            rw [if_neg (by decide)] at h
            obtain ⟨rfl, rfl, rfl⟩ := fin3 h
            exact of_2_va k tol a0 a1 a2 b0 b1 b2 w hG hva
          | true =>
            rw [if_pos rfl] at h
            cases hvb : Q.value_Valid.f k b0 b1 b2 with
            | none => rw [hvb] at h; cases h
            | some vb =>
              rw [hvb] at h
              simp only [Option.bind_some] at h
              cases vb with
              | false =>
                rw [if_neg (by decide)] at h
                obtain ⟨rfl, rfl, rfl⟩ := fin3 h
                exact of_2_vb k tol a0 a1 a2 b0 b1 b2 w hG hva hvb
              | true =>
                rw [if_pos rfl] at h
                unfold ofTail at h
                rw [if_neg (fun h => absurd h.1 (by decide))] at h
                by_cases na : a0 = 0
                · rw [if_pos (.inl na)] at h
                  obtain ⟨rfl, rfl, rfl⟩ := fin3 h
                  exact of_2_na k tol a0 a1 a2 b0 b1 b2 w hG hva hvb (of_eqt na)
                by_cases nb : b0 = 0
                · rw [if_pos (.inr nb)] at h
                  obtain ⟨rfl, rfl, rfl⟩ := fin3 h
                  exact of_2_nb k tol a0 a1 a2 b0 b1 b2 w hG hva hvb (of_eqf na) (of_eqt nb)
                rw [if_neg (fun h => h.elim na nb)] at h
                rw [if_neg (by decide)] at h
                by_cases kd : a0 = b0
                · skip
                  by_cases e1 : a0 = 1
                  · rw [if_neg (fun h => h.elim (fun h => h kd) (fun h => h.elim (fun h => absurd h.1 (by decide)) (fun h => h.2 e1))), if_neg (by decide)] at h
                    rw [if_pos rfl] at h
                    obtain ⟨⟨q1, q2⟩, hN, h⟩ := Option.bind_eq_some_iff.1 h
                    obtain ⟨rfl, rfl, rfl⟩ := fin3 h
                    exact of_2_c k tol a0 a1 a2 b0 b1 b2 w hG hva hvb (of_eqf na) (of_eqf nb) (of_nef kd) (of_nef e1) q1 q2 hN
                  · rw [if_pos (.inr (.inr ⟨by decide, e1⟩))] at h
                    obtain ⟨rfl, rfl, rfl⟩ := fin3 h
                    exact of_2_ty k tol a0 a1 a2 b0 b1 b2 w hG hva hvb (of_eqf na) (of_eqf nb) (of_nef kd) (of_net e1)
                · rw [if_pos (.inl kd)] at h
                  obtain ⟨rfl, rfl, rfl⟩ := fin3 h
                  exact of_2_kd k tol a0 a1 a2 b0 b1 b2 w hG hva hvb (of_eqf na) (of_eqf nb) (of_net kd)
      · cases hva : Q.value_Valid.f k a0 a1 a2 with
        | none => rw [hva] at h; cases h
        | some va =>
          rw [hva] at h
          simp only [Option.bind_some] at h
          cases va with
          | false =>
            rw [if_neg (by decide)] at h
            obtain ⟨rfl, rfl, rfl⟩ := fin3 h
            exact of_3_va k tol a0 a1 a2 b0 b1 b2 w hG hva
          | true =>
            rw [if_pos rfl] at h
            cases hvb : Q.value_Valid.f k b0 b1 b2 with
            | none => rw [hvb] at h; cases h
            | some vb =>
              rw [hvb] at h
              simp only [Option.bind_some] at h
              cases vb with
              | false =>
                rw [if_neg (by decide)] at h
                obtain ⟨rfl, rfl, rfl⟩ := fin3 h
                exact of_3_vb k tol a0 a1 a2 b0 b1 b2 w hG hva hvb
              | true =>
                rw [if_pos rfl] at h
                unfold ofTail at h
                rw [if_neg (fun h => absurd h.1 (by decide))] at h
                by_cases na : a0 = 0
                · rw [if_pos (.inl na)] at h
                  obtain ⟨rfl, rfl, rfl⟩ := fin3 h
                  exact of_3_na k tol a0 a1 a2 b0 b1 b2 w hG hva hvb (of_eqt na)
                by_cases nb : b0 = 0
                · rw [if_pos (.inr nb)] at h
                  obtain ⟨rfl, rfl, rfl⟩ := fin3 h
                  exact of_3_nb k tol a0 a1 a2 b0 b1 b2 w hG hva hvb (of_eqf na) (of_eqt nb)
                rw [if_neg (fun h => h.elim na nb)] at h
                rw [if_neg (by decide)] at h
                by_cases kd : a0 = b0
                · skip
                  by_cases e1 : a0 = 1
                  · rw [if_neg (fun h => h.elim (fun h => h kd) (fun h => h.elim (fun h => absurd h.1 (by decide)) (fun h => h.2 e1))), if_neg (by decide)] at h
                    rw [if_neg (by decide), if_pos rfl] at h
                    obtain ⟨⟨q1, q2⟩, hN, h⟩ := Option.bind_eq_some_iff.1 h
                    obtain ⟨rfl, rfl, rfl⟩ := fin3 h
                    exact of_3_c k tol a0 a1 a2 b0 b1 b2 w hG hva hvb (of_eqf na) (of_eqf nb) (of_nef kd) (of_nef e1) q1 q2 hN
                  · rw [if_pos (.inr (.inr ⟨by decide, e1⟩))] at h
                    obtain ⟨rfl, rfl, rfl⟩ := fin3 h
                    exact of_3_ty k tol a0 a1 a2 b0 b1 b2 w hG hva hvb (of_eqf na) (of_eqf nb) (of_nef kd) (of_net e1)
                · rw [if_pos (.inl kd)] at h
                  obtain ⟨rfl, rfl, rfl⟩ := fin3 h
                  exact of_3_kd k tol a0 a1 a2 b0 b1 b2 w hG hva hvb (of_eqf na) (of_eqf nb) (of_net kd)
      · cases hva : Q.value_Valid.f k a0 a1 a2 with
        | none => rw [hva] at h; cases h
        | some va =>
          rw [hva] at h
          simp only [Option.bind_some] at h
          cases va with
          | false =>
            rw [if_neg (by decide)] at h
            obtain ⟨rfl, rfl, rfl⟩ := fin3 h
            exact of_4_va k tol a0 a1 a2 b0 b1 b2 w hG hva
          | true =>
            rw [if_pos rfl] at h
            cases hvb : Q.value_Valid.f k b0 b1 b2 with
            | none => rw [hvb] at h; cases h
            | some vb =>
              rw [hvb] at h
              simp only [Option.bind_some] at h
              cases vb with
              | false =>
                rw [if_neg (by decide)] at h
                obtain ⟨rfl, rfl, rfl⟩ := fin3 h
                exact of_4_vb k tol a0 a1 a2 b0 b1 b2 w hG hva hvb
              | true =>
                rw [if_pos rfl] at h
                unfold ofTail at h
                rw [if_neg (fun h => absurd h.1 (by decide))] at h
                by_cases na : a0 = 0
                · rw [if_pos (.inl na)] at h
                  obtain ⟨rfl, rfl, rfl⟩ := fin3 h
                  exact of_4_na k tol a0 a1 a2 b0 b1 b2 w hG hva hvb (of_eqt na)
                by_cases nb : b0 = 0
                · rw [if_pos (.inr nb)] at h
                  obtain ⟨rfl, rfl, rfl⟩ := fin3 h
                  exact of_4_nb k tol a0 a1 a2 b0 b1 b2 w hG hva hvb (of_eqf na) (of_eqt nb)
                rw [if_neg (fun h => h.elim na nb)] at h
                rw [if_neg (by decide)] at h
                by_cases kd : a0 = b0
                · skip
                  by_cases e1 : a0 = 1
                  · rw [if_neg (fun h => h.elim (fun h => h kd) (fun h => h.elim (fun h => absurd h.1 (by decide)) (fun h => h.2 e1))), if_neg (by decide)] at h
                    rw [if_neg (by decide), if_neg (by decide)] at h
                    obtain ⟨⟨q1, q2⟩, hN, h⟩ := Option.bind_eq_some_iff.1 h
                    obtain ⟨rfl, rfl, rfl⟩ := fin3 h
                    exact of_4_c k tol a0 a1 a2 b0 b1 b2 w hG hva hvb (of_eqf na) (of_eqf nb) (of_nef kd) (of_nef e1) q1 q2 hN
                  · rw [if_pos (.inr (.inr ⟨by decide, e1⟩))] at h
                    obtain ⟨rfl, rfl, rfl⟩ := fin3 h
                    exact of_4_ty k tol a0 a1 a2 b0 b1 b2 w hG hva hvb (of_eqf na) (of_eqf nb) (of_nef kd) (of_net e1)
                · rw [if_pos (.inl kd)] at h
                  obtain ⟨rfl, rfl, rfl⟩ := fin3 h
                  exact of_4_kd k tol a0 a1 a2 b0 b1 b2 w hG hva hvb (of_eqf na) (of_eqf nb) (of_net kd)
      · cases hva : Q.value_Valid.f k a0 a1 a2 with
        | none => rw [hva] at h; cases h
        | some va =>
          rw [hva] at h
          simp only [Option.bind_some] at h
          cases va with
          | false =>
            rw [if_neg (by decide)] at h
            obtain ⟨rfl, rfl, rfl⟩ := fin3 h
            exact of_5_va k tol a0 a1 a2 b0 b1 b2 w hG hva
          | true =>
            rw [if_pos rfl] at h
            cases hvb : Q.value_Valid.f k b0 b1 b2 with
            | none => rw [hvb] at h; cases h
            | some vb =>
              rw [hvb] at h
              simp only [Option.bind_some] at h
              cases vb with
              | false =>
                rw [if_neg (by decide)] at h
                obtain ⟨rfl, rfl, rfl⟩ := fin3 h
                exact of_5_vb k tol a0 a1 a2 b0 b1 b2 w hG hva hvb
              | true =>
                rw [if_pos rfl] at h
                unfold ofTail at h
                by_cases t0 : tol < 0
                · rw [if_pos ⟨rfl, .inl t0⟩] at h
                  obtain ⟨rfl, rfl, rfl⟩ := fin3 h
                  exact of_5_t0 k tol a0 a1 a2 b0 b1 b2 w hG hva hvb (of_bt t0)
                by_cases t1 : 1000000000 ≤ tol
                · rw [if_pos ⟨rfl, .inr t1⟩] at h
                  obtain ⟨rfl, rfl, rfl⟩ := fin3 h
                  exact of_5_t1 k tol a0 a1 a2 b0 b1 b2 w hG hva hvb (of_bf t0) (of_bt t1)
                rw [if_neg (fun h => h.2.elim t0 t1)] at h
                by_cases na : a0 = 0
                · rw [if_pos (.inl na)] at h
                  obtain ⟨rfl, rfl, rfl⟩ := fin3 h
                  exact of_5_na k tol a0 a1 a2 b0 b1 b2 w hG hva hvb (of_bf t0) (of_bf t1) (of_eqt na)
                by_cases nb : b0 = 0
                · rw [if_pos (.inr nb)] at h
                  obtain ⟨rfl, rfl, rfl⟩ := fin3 h
                  exact of_5_nb k tol a0 a1 a2 b0 b1 b2 w hG hva hvb (of_bf t0) (of_bf t1) (of_eqf na) (of_eqt nb)
                rw [if_neg (fun h => h.elim na nb)] at h
                rw [if_neg (by decide)] at h
                by_cases kd : a0 = b0
                · skip
                  by_cases e2 : a0 = 2
                  · rw [if_neg (fun h => h.elim (fun h => h kd) (fun h => h.elim (fun h => h.2.1 e2) (fun h => h.1 rfl))), if_pos rfl] at h
                    obtain ⟨⟨q1, q2⟩, hN, h⟩ := Option.bind_eq_some_iff.1 h
                    obtain ⟨rfl, rfl, rfl⟩ := fin3 h
                    exact of_5_c2 k tol a0 a1 a2 b0 b1 b2 w hG hva hvb (of_bf t0) (of_bf t1) (of_eqf na) (of_eqf nb) (of_nef kd) (of_nef e2) q1 q2 hN
                  · by_cases e3 : a0 = 3
                    · rw [if_neg (fun h => h.elim (fun h => h kd) (fun h => h.elim (fun h => h.2.2 e3) (fun h => h.1 rfl))), if_pos rfl] at h
                      obtain ⟨⟨q1, q2⟩, hN, h⟩ := Option.bind_eq_some_iff.1 h
                      obtain ⟨rfl, rfl, rfl⟩ := fin3 h
                      exact of_5_c3 k tol a0 a1 a2 b0 b1 b2 w hG hva hvb (of_bf t0) (of_bf t1) (of_eqf na) (of_eqf nb) (of_nef kd) (of_net e2) (of_nef e3) q1 q2 hN
                    · rw [if_pos (.inr (.inl ⟨rfl, e2, e3⟩))] at h
                      obtain ⟨rfl, rfl, rfl⟩ := fin3 h
                      exact of_5_ty k tol a0 a1 a2 b0 b1 b2 w hG hva hvb (of_bf t0) (of_bf t1) (of_eqf na) (of_eqf nb) (of_nef kd) (of_net e2) (of_net e3)
                · rw [if_pos (.inl kd)] at h
                  obtain ⟨rfl, rfl, rfl⟩ := fin3 h
                  exact of_5_kd k tol a0 a1 a2 b0 b1 b2 w hG hva hvb (of_bf t0) (of_bf t1) (of_eqf na) (of_eqf nb) (of_net kd)
  · rw [if_neg hwf] at h
    cases h
end Go.Proofs.YtiffkknhnmpgbaaDoor
end

/- Parts of the proof of Lists: words, contracts and plain laws. -/
import Derived.Test.YtiffkknhnmpgbaaDoorLists16
import Derived.Test.YtiffkknhnmpgbaaDoorLists17
import Derived.Test.YtiffkknhnmpgbaaDoorLists18
import Derived.Test.YtiffkknhnmpgbaaDoorLists22
import Derived.Test.YtiffkknhnmpgbaaDoorLists25
import Derived.Test.YtiffkknhnmpgbaaDoorLists26
namespace Go.Proofs.YtiffkknhnmpgbaaDoor.CL
end Go.Proofs.YtiffkknhnmpgbaaDoor.CL
namespace Go.Proofs.YtiffkknhnmpgbaaDoor.Q
end Go.Proofs.YtiffkknhnmpgbaaDoor.Q
section
namespace Go.Proofs.YtiffkknhnmpgbaaDoor.CL
open Go.RowKit Go.Proofs.YtiffkknhnmpgbaaDoor.Q Go.Proofs.YtiffkknhnmpgbaaDoorW.PrintWords Go.Proofs.YtiffkknhnmpgbaaDoorW.PrintLast Go.Proofs.YtiffkknhnmpgbaaDoorW.PrintMore
attribute [local go_sem] max2_int min2_int max_two min_two max_three min_three max_four min_four   -- for this text's walks alone
set_option linter.unusedVariables false
set_option linter.unusedSimpArgs false

-- by hand: function 36 (measure_Alike)

-- by hand: function 37 (words_Fold)

/-! ### measure_texts_1: function 35 -/
def measure_texts_1.f (k : Nat) (a0 : ByteArray) (a1 : ByteArray) : Option (Int × Int) := (words_Fold.f a0).bind fun t102 => ((words_Fold.f a1).bind fun t103 => ((measure_Alike.f k t102 t103).bind fun bt104 => (some (bt104.1, bt104.2))))
set_option maxHeartbeats 8000000 in
set_option maxRecDepth 100000 in
theorem measure_texts_1.calls (k : Nat) (a0 : ByteArray) (a1 : ByteArray) (r1 : Int) (r2 : Int) (w : World) (hG : Gl w) (h : measure_texts_1.f k a0 a1 = some (r1, r2)) :
    Calls Tryd.prog 35 #[.string a0, .string a1] w fun e w' => e = .returned (.agg #[.int .i64 r1, .int .i64 r2]) ∧ Below w.heap.size w w' := by
  have HGl := Aside0.mk hG
  clear hG
  have hu41 := Tryd.underlying41
  have HB := Aside0.mk (Below.refl w.heap.size w)
  have H : ((words_Fold.f a0).bind fun t102 => ((words_Fold.f a1).bind fun t103 => ((measure_Alike.f k t102 t103).bind fun bt104 => (some (bt104.1, bt104.2))))) = some (r1, r2) := h
  clear h
  replace H := Option.bind_eq_some_iff.mp H
  obtain ⟨t102, A30, H⟩ := H
  replace H : ((words_Fold.f a1).bind fun t103 => ((measure_Alike.f k t102 t103).bind fun bt104 => (some (bt104.1, bt104.2)))) = some (r1, r2) := H
  have A3 := Aside0.mk A30
  clear A30
  replace H := Option.bind_eq_some_iff.mp H
  obtain ⟨t103, A40, H⟩ := H
  replace H : ((measure_Alike.f k t102 t103).bind fun bt104 => (some (bt104.1, bt104.2))) = some (r1, r2) := H
  have A4 := Aside0.mk A40
  clear A40
  replace H := Option.bind_eq_some_iff.mp H
  obtain ⟨⟨t104, t105⟩, A50, H⟩ := H
  replace H : (some (t104, t105)) = some (r1, r2) := H
  have A5 := Aside0.mk A50
  clear A50
  simp only [Option.some.injEq, Prod.mk.injEq] at H
  obtain ⟨rfl, rfl⟩ := H
  go_enter Tryd.func35, Tryd.ntmps35
  go_wp2_with (first | ((with_reducible refine gate_dst (N := 4) rfl ?_); refine box_event ?hg (N := 4) ?hd (cs := #[.int .i64 0, .int .i64 0]) (t := 41) ?hr ?_; (case hd => rfl); (case hg => rfl); (case hr => first | (go_simp; done) | (go_simp; rfl)); intro gb101 hg w6 hbox hb; have n0_ := Aside0.mk (below_step (by repeat (first | (with_reducible first | exact HB.out | apply below_alloc | apply pw_below_drewN | apply below_drew1) | exact HB.out)) hb); have n1_ := Aside0.mk (hbox); have n3_ := Aside0.mk ((by rw [hg]; exact (below_size (by repeat (first | (with_reducible first | exact HB.out | apply below_alloc | apply pw_below_drewN | apply below_drew1) | exact HB.out))) : w.heap.size ≤ gb101)); clear HB; have HB := n0_; have BK101 := n1_; have GE101 := n3_; clear n0_ n1_ n3_; clear hb hbox hg) | ((with_reducible refine gate_callee (f := 37) rfl ?_); refine goesL_ (some 6) rfl rfl Tryd.func37 (by kernel_rfl) rfl #[.string a0] rfl (by (try simp only [List.map_toArray, List.map_cons, List.map_nil]); first | done | rfl | (simp only [List.length_drop, List.length_take]; rfl) | (simp only [Int.add_zero]; rfl) | (simp; done)) ?_; (with_reducible refine (words_Fold.calls a0 t102 _ A3.out).mono ?_); rintro e w7 ⟨rfl, hb⟩; refine ⟨_, rfl, ?_⟩; have n0_ := Aside0.mk (blk_below (by (with_reducible repeat (first | refine blk_drewN ?_ _ | refine blk_drew ?_ | refine blk_alloc ?_ _)); exact BK101.out) hb); have n1_ := Aside0.mk (below_step (by repeat (first | (with_reducible first | exact HB.out | apply below_alloc | apply pw_below_drewN | apply below_drew1 | refine below_set ?_ GE101.out) | exact HB.out)) hb); clear BK101; clear HB; have BK101 := n0_; have HB := n1_; clear n0_ n1_; (try clear hb); (try clear hb2); (try clear hk); (try clear hi)) | ((with_reducible refine gate_callee (f := 37) rfl ?_); refine goesL_ (some 8) rfl rfl Tryd.func37 (by kernel_rfl) rfl #[.string a1] rfl (by (try simp only [List.map_toArray, List.map_cons, List.map_nil]); first | done | rfl | (simp only [List.length_drop, List.length_take]; rfl) | (simp only [Int.add_zero]; rfl) | (simp; done)) ?_; (with_reducible refine (words_Fold.calls a1 t103 _ A4.out).mono ?_); rintro e w8 ⟨rfl, hb⟩; refine ⟨_, rfl, ?_⟩; have n0_ := Aside0.mk (blk_below (by (with_reducible repeat (first | refine blk_drewN ?_ _ | refine blk_drew ?_ | refine blk_alloc ?_ _)); exact BK101.out) hb); have n1_ := Aside0.mk (below_step (by repeat (first | (with_reducible first | exact HB.out | apply below_alloc | apply pw_below_drewN | apply below_drew1 | refine below_set ?_ GE101.out) | exact HB.out)) hb); clear BK101; clear HB; have BK101 := n0_; have HB := n1_; clear n0_ n1_; (try clear hb); (try clear hb2); (try clear hk); (try clear hi)) | ((with_reducible refine gate_callee (f := 36) rfl ?_); refine goesL_ (some 9) rfl rfl Tryd.func36 (by kernel_rfl) rfl #[.string t102, .string t103] rfl (by (try simp only [List.map_toArray, List.map_cons, List.map_nil]); first | done | rfl | (simp only [List.length_drop, List.length_take]; rfl) | (simp only [Int.add_zero]; rfl) | (simp; done)) ?_; (with_reducible refine (measure_Alike.calls k t102 t103 t104 t105 _ ?sGl A5.out).mono ?_); (case sGl => exact Gl.below HGl.out (by repeat (first | (with_reducible first | exact HB.out | apply below_alloc | apply pw_below_drewN | apply below_drew1 | refine below_set ?_ (Aside0.out (by assumption))) | exact HB.out))); rintro e w9 ⟨rfl, hb⟩; refine ⟨_, rfl, ?_⟩; have n0_ := Aside0.mk (blk_below (by (with_reducible repeat (first | refine blk_drewN ?_ _ | refine blk_drew ?_ | refine blk_alloc ?_ _)); exact BK101.out) hb); have n1_ := Aside0.mk (below_step (by repeat (first | (with_reducible first | exact HB.out | apply below_alloc | apply pw_below_drewN | apply below_drew1 | refine below_set ?_ GE101.out) | exact HB.out)) hb); clear BK101; clear HB; have BK101 := n0_; have HB := n1_; clear n0_ n1_; (try clear hb); (try clear hb2); (try clear hk); (try clear hi); have hcz10_0 := cel_ BK101.out 0 rfl; have hcz10_1 := cel_ BK101.out 1 rfl; have hfz10_0 := blk_frozen BK101.out 0; have hfz10_1 := blk_frozen BK101.out 1))
  refine bodyPost_ret (results_cell_row rfl _ _ gb101 41 #[.int .i64 t104, .int .i64 t105] (0, 0) _ rfl (by (with_reducible repeat (first | refine blk_drewN ?_ _ | refine blk_drew ?_ | refine blk_alloc ?_ _)); refine blk_put (cs := #[.int .i64 t104, .int .i64 0]) ?_ 1 _ rfl; (with_reducible repeat (first | refine blk_drewN ?_ _ | refine blk_drew ?_ | refine blk_alloc ?_ _)); refine blk_put (cs := #[.int .i64 0, .int .i64 0]) ?_ 0 _ rfl; (with_reducible repeat (first | refine blk_drewN ?_ _ | refine blk_drew ?_ | refine blk_alloc ?_ _)); exact BK101.out) Tryd.underlying41 rfl (by kernel_rfl)) rfl ?_
  exact ⟨by first | rfl | (simp [errW_none, errW_some] <;> rfl) | (simp [*, errW_none, errW_some] <;> rfl), by repeat (first | (with_reducible first | exact HB.out | apply below_alloc | apply pw_below_drewN | apply below_drew1 | refine below_set ?_ GE101.out) | exact HB.out)⟩

-- by hand: function 39 (measure_Jaccard)

-- by hand: function 40 (words_Tokens)

/-! ### measure_texts_2: function 38 -/
def measure_texts_2.f (k : Nat) (a0 : ByteArray) (a1 : ByteArray) : Option (Int × Int) := (words_Tokens.f a0).bind fun t107 => ((words_Tokens.f a1).bind fun t110 => ((measure_Jaccard.f k t107 t110).bind fun bt113 => (some (bt113.1, bt113.2))))
set_option maxHeartbeats 8000000 in
set_option maxRecDepth 100000 in
theorem measure_texts_2.calls (k : Nat) (a0 : ByteArray) (a1 : ByteArray) (r1 : Int) (r2 : Int) (w : World) (hG : Gl w) (h : measure_texts_2.f k a0 a1 = some (r1, r2)) :
    Calls Tryd.prog 38 #[.string a0, .string a1] w fun e w' => e = .returned (.agg #[.int .i64 r1, .int .i64 r2]) ∧ Below w.heap.size w w' := by
  have HGl := Aside0.mk hG
  clear hG
  have hu41 := Tryd.underlying41
  have HB := Aside0.mk (Below.refl w.heap.size w)
  have H : ((words_Tokens.f a0).bind fun t107 => ((words_Tokens.f a1).bind fun t110 => ((measure_Jaccard.f k t107 t110).bind fun bt113 => (some (bt113.1, bt113.2))))) = some (r1, r2) := h
  clear h
  replace H := Option.bind_eq_some_iff.mp H
  obtain ⟨t107, A30, H⟩ := H
  replace H : ((words_Tokens.f a1).bind fun t110 => ((measure_Jaccard.f k t107 t110).bind fun bt113 => (some (bt113.1, bt113.2)))) = some (r1, r2) := H
  have A3 := Aside0.mk A30
  clear A30
  replace H := Option.bind_eq_some_iff.mp H
  obtain ⟨t110, A40, H⟩ := H
  replace H : ((measure_Jaccard.f k t107 t110).bind fun bt113 => (some (bt113.1, bt113.2))) = some (r1, r2) := H
  have A4 := Aside0.mk A40
  clear A40
  replace H := Option.bind_eq_some_iff.mp H
  obtain ⟨⟨t113, t114⟩, A50, H⟩ := H
  replace H : (some (t113, t114)) = some (r1, r2) := H
  have A5 := Aside0.mk A50
  clear A50
  simp only [Option.some.injEq, Prod.mk.injEq] at H
  obtain ⟨rfl, rfl⟩ := H
  go_enter Tryd.func38, Tryd.ntmps38
  go_wp2_with (first | ((with_reducible refine gate_dst (N := 4) rfl ?_); refine box_event ?hg (N := 4) ?hd (cs := #[.int .i64 0, .int .i64 0]) (t := 41) ?hr ?_; (case hd => rfl); (case hg => rfl); (case hr => first | (go_simp; done) | (go_simp; rfl)); intro gb106 hg w6 hbox hb; have n0_ := Aside0.mk (below_step (by repeat (first | (with_reducible first | exact HB.out | apply below_alloc | apply pw_below_drewN | apply below_drew1) | exact HB.out)) hb); have n1_ := Aside0.mk (hbox); have n3_ := Aside0.mk ((by rw [hg]; exact (below_size (by repeat (first | (with_reducible first | exact HB.out | apply below_alloc | apply pw_below_drewN | apply below_drew1) | exact HB.out))) : w.heap.size ≤ gb106)); clear HB; have HB := n0_; have BK106 := n1_; have GE106 := n3_; clear n0_ n1_ n3_; clear hb hbox hg) | ((with_reducible refine gate_callee (f := 40) rfl ?_); refine goesL_ (some 6) rfl rfl Tryd.func40 (by kernel_rfl) rfl #[.string a0] rfl (by (try simp only [List.map_toArray, List.map_cons, List.map_nil]); first | done | rfl | (simp only [List.length_drop, List.length_take]; rfl) | (simp only [Int.add_zero]; rfl) | (simp; done)) ?_; (with_reducible refine (words_Tokens.calls a0 t107 _ A3.out).mono ?_); rintro e w7 ⟨v108, rfl, ho0, hb⟩; refine ⟨_, rfl, ?_⟩; have n0_ := Aside0.mk (Kd.R_lower ho0 (below_size (by repeat (first | (with_reducible first | exact HB.out | apply below_alloc | apply pw_below_drewN | apply below_drew1 | refine below_set ?_ GE106.out) | exact HB.out)))); have n1_ := Aside0.mk (blk_below (by (with_reducible repeat (first | refine blk_drewN ?_ _ | refine blk_drew ?_ | refine blk_alloc ?_ _)); exact BK106.out) hb); have n2_ := Aside0.mk (below_step (by repeat (first | (with_reducible first | exact HB.out | apply below_alloc | apply pw_below_drewN | apply below_drew1 | refine below_set ?_ GE106.out) | exact HB.out)) hb); clear BK106; clear HB; have HO109 := n0_; have BK106 := n1_; have HB := n2_; clear n0_ n1_ n2_; (try clear hb); (try clear hb2); (try clear hk); (try clear hi); (try clear ho0)) | ((with_reducible refine gate_callee (f := 40) rfl ?_); refine goesL_ (some 8) rfl rfl Tryd.func40 (by kernel_rfl) rfl #[.string a1] rfl (by (try simp only [List.map_toArray, List.map_cons, List.map_nil]); first | done | rfl | (simp only [List.length_drop, List.length_take]; rfl) | (simp only [Int.add_zero]; rfl) | (simp; done)) ?_; (with_reducible refine (words_Tokens.calls a1 t110 _ A4.out).mono ?_); rintro e w8 ⟨v111, rfl, ho0, hb⟩; refine ⟨_, rfl, ?_⟩; have n0_ := Aside0.mk (Kd.R_elder' (by (with_reducible repeat (first | apply Kd.R_alloc | apply Kd.R_drewN | apply Kd.R_drew)); exact HO109.out) (Kd.R_base ho0) hb); have n1_ := Aside0.mk (Kd.R_lower (Kd.R_new' ho0 (Kd.R_lt (by (with_reducible repeat (first | apply Kd.R_alloc | apply Kd.R_drewN | apply Kd.R_drew)); exact HO109.out))) (below_size (by repeat (first | (with_reducible first | exact HB.out | apply below_alloc | apply pw_below_drewN | apply below_drew1 | refine below_set ?_ GE106.out) | exact HB.out)))); have n2_ := Aside0.mk (blk_below (by (with_reducible repeat (first | refine blk_drewN ?_ _ | refine blk_drew ?_ | refine blk_alloc ?_ _)); exact BK106.out) hb); have n3_ := Aside0.mk (below_step (by repeat (first | (with_reducible first | exact HB.out | apply below_alloc | apply pw_below_drewN | apply below_drew1 | refine below_set ?_ GE106.out) | exact HB.out)) hb); clear HO109; clear BK106; clear HB; have HO109 := n0_; have HO112 := n1_; have BK106 := n2_; have HB := n3_; clear n0_ n1_ n2_ n3_; (try clear hb); (try clear hb2); (try clear hk); (try clear hi); (try clear ho0); obtain ⟨Ao9, co9, eo9⟩ := Kd.R_slice HO109.out; subst eo9; obtain ⟨Ao10, co10, eo10⟩ := Kd.R_slice HO112.out; subst eo10) | ((with_reducible refine gate_callee (f := 39) rfl ?_); refine goesL_ (some 9) rfl rfl Tryd.func39 (by kernel_rfl) rfl #[.slice Ao9 t107.length co9, .slice Ao10 t110.length co10] rfl (by (try simp only [List.map_toArray, List.map_cons, List.map_nil]); first | done | rfl | (simp only [List.length_drop, List.length_take]; rfl) | (simp only [Int.add_zero]; rfl) | (simp; done)) ?_; (with_reducible refine (measure_Jaccard.calls k _ _ t107 _ _ t110 t113 t114 _ ?side1 ?side2 ?side3 ?side4 ?sGl A5.out).mono ?_); (case sGl => exact Gl.below HGl.out (by repeat (first | (with_reducible first | exact HB.out | apply below_alloc | apply pw_below_drewN | apply below_drew1 | refine below_set ?_ (Aside0.out (by assumption))) | exact HB.out))); (case side1 => repeat (first | exact (Kd.R_reads' HO109.out).2.2 | (with_reducible refine Kd.C_alloc ?_ _) | (with_reducible refine Kd.C_drewN ?_ _) | (with_reducible refine Kd.C_drew ?_))); (case side2 => exact (Kd.R_reads' HO109.out).2.1); (case side3 => repeat (first | exact (Kd.R_reads' HO112.out).2.2 | (with_reducible refine Kd.C_alloc ?_ _) | (with_reducible refine Kd.C_drewN ?_ _) | (with_reducible refine Kd.C_drew ?_))); (case side4 => exact (Kd.R_reads' HO112.out).2.1); rintro e w11 ⟨rfl, hb⟩; refine ⟨_, rfl, ?_⟩; have n0_ := Aside0.mk (Kd.R_below (by (with_reducible repeat (first | apply Kd.R_alloc | apply Kd.R_drewN | apply Kd.R_drew)); exact HO109.out) hb); have n1_ := Aside0.mk (Kd.R_below (by (with_reducible repeat (first | apply Kd.R_alloc | apply Kd.R_drewN | apply Kd.R_drew)); exact HO112.out) hb); have n2_ := Aside0.mk (blk_below (by (with_reducible repeat (first | refine blk_drewN ?_ _ | refine blk_drew ?_ | refine blk_alloc ?_ _)); exact BK106.out) hb); have n3_ := Aside0.mk (below_step (by repeat (first | (with_reducible first | exact HB.out | apply below_alloc | apply pw_below_drewN | apply below_drew1 | refine below_set ?_ GE106.out) | exact HB.out)) hb); clear HO109; clear HO112; clear BK106; clear HB; have HO109 := n0_; have HO112 := n1_; have BK106 := n2_; have HB := n3_; clear n0_ n1_ n2_ n3_; (try clear hb); (try clear hb2); (try clear hk); (try clear hi); have hcz12_0 := cel_ BK106.out 0 rfl; have hcz12_1 := cel_ BK106.out 1 rfl; have hfz12_0 := blk_frozen BK106.out 0; have hfz12_1 := blk_frozen BK106.out 1))
  refine bodyPost_ret (results_cell_row rfl _ _ gb106 41 #[.int .i64 t113, .int .i64 t114] (0, 0) _ rfl (by (with_reducible repeat (first | refine blk_drewN ?_ _ | refine blk_drew ?_ | refine blk_alloc ?_ _)); refine blk_put (cs := #[.int .i64 t113, .int .i64 0]) ?_ 1 _ rfl; (with_reducible repeat (first | refine blk_drewN ?_ _ | refine blk_drew ?_ | refine blk_alloc ?_ _)); refine blk_put (cs := #[.int .i64 0, .int .i64 0]) ?_ 0 _ rfl; (with_reducible repeat (first | refine blk_drewN ?_ _ | refine blk_drew ?_ | refine blk_alloc ?_ _)); exact BK106.out) Tryd.underlying41 rfl (by kernel_rfl)) rfl ?_
  exact ⟨by first | rfl | (simp [errW_none, errW_some] <;> rfl) | (simp [*, errW_none, errW_some] <;> rfl), by repeat (first | (with_reducible first | exact HB.out | apply below_alloc | apply pw_below_drewN | apply below_drew1 | refine below_set ?_ GE106.out) | exact HB.out)⟩

-- by hand: function 42 (measure_Jaro)

/-! ### measure_texts_3: function 41 -/
def measure_texts_3.f (k : Nat) (a0 : ByteArray) (a1 : ByteArray) : Option (Int × Int) := (words_Fold.f a0).bind fun t116 => ((words_Fold.f a1).bind fun t117 => ((measure_Jaro.f k t116 t117).bind fun bt118 => (some (bt118.1, bt118.2))))
set_option maxHeartbeats 8000000 in
set_option maxRecDepth 100000 in
theorem measure_texts_3.calls (k : Nat) (a0 : ByteArray) (a1 : ByteArray) (r1 : Int) (r2 : Int) (w : World) (hG : Gl w) (h : measure_texts_3.f k a0 a1 = some (r1, r2)) :
    Calls Tryd.prog 41 #[.string a0, .string a1] w fun e w' => e = .returned (.agg #[.int .i64 r1, .int .i64 r2]) ∧ Below w.heap.size w w' := by
  have HGl := Aside0.mk hG
  clear hG
  have hu41 := Tryd.underlying41
  have HB := Aside0.mk (Below.refl w.heap.size w)
  have H : ((words_Fold.f a0).bind fun t116 => ((words_Fold.f a1).bind fun t117 => ((measure_Jaro.f k t116 t117).bind fun bt118 => (some (bt118.1, bt118.2))))) = some (r1, r2) := h
  clear h
  replace H := Option.bind_eq_some_iff.mp H
  obtain ⟨t116, A30, H⟩ := H
  replace H : ((words_Fold.f a1).bind fun t117 => ((measure_Jaro.f k t116 t117).bind fun bt118 => (some (bt118.1, bt118.2)))) = some (r1, r2) := H
  have A3 := Aside0.mk A30
  clear A30
  replace H := Option.bind_eq_some_iff.mp H
  obtain ⟨t117, A40, H⟩ := H
  replace H : ((measure_Jaro.f k t116 t117).bind fun bt118 => (some (bt118.1, bt118.2))) = some (r1, r2) := H
  have A4 := Aside0.mk A40
  clear A40
  replace H := Option.bind_eq_some_iff.mp H
  obtain ⟨⟨t118, t119⟩, A50, H⟩ := H
  replace H : (some (t118, t119)) = some (r1, r2) := H
  have A5 := Aside0.mk A50
  clear A50
  simp only [Option.some.injEq, Prod.mk.injEq] at H
  obtain ⟨rfl, rfl⟩ := H
  go_enter Tryd.func41, Tryd.ntmps41
  go_wp2_with (first | ((with_reducible refine gate_dst (N := 4) rfl ?_); refine box_event ?hg (N := 4) ?hd (cs := #[.int .i64 0, .int .i64 0]) (t := 41) ?hr ?_; (case hd => rfl); (case hg => rfl); (case hr => first | (go_simp; done) | (go_simp; rfl)); intro gb115 hg w6 hbox hb; have n0_ := Aside0.mk (below_step (by repeat (first | (with_reducible first | exact HB.out | apply below_alloc | apply pw_below_drewN | apply below_drew1) | exact HB.out)) hb); have n1_ := Aside0.mk (hbox); have n3_ := Aside0.mk ((by rw [hg]; exact (below_size (by repeat (first | (with_reducible first | exact HB.out | apply below_alloc | apply pw_below_drewN | apply below_drew1) | exact HB.out))) : w.heap.size ≤ gb115)); clear HB; have HB := n0_; have BK115 := n1_; have GE115 := n3_; clear n0_ n1_ n3_; clear hb hbox hg) | ((with_reducible refine gate_callee (f := 37) rfl ?_); refine goesL_ (some 6) rfl rfl Tryd.func37 (by kernel_rfl) rfl #[.string a0] rfl (by (try simp only [List.map_toArray, List.map_cons, List.map_nil]); first | done | rfl | (simp only [List.length_drop, List.length_take]; rfl) | (simp only [Int.add_zero]; rfl) | (simp; done)) ?_; (with_reducible refine (words_Fold.calls a0 t116 _ A3.out).mono ?_); rintro e w7 ⟨rfl, hb⟩; refine ⟨_, rfl, ?_⟩; have n0_ := Aside0.mk (blk_below (by (with_reducible repeat (first | refine blk_drewN ?_ _ | refine blk_drew ?_ | refine blk_alloc ?_ _)); exact BK115.out) hb); have n1_ := Aside0.mk (below_step (by repeat (first | (with_reducible first | exact HB.out | apply below_alloc | apply pw_below_drewN | apply below_drew1 | refine below_set ?_ GE115.out) | exact HB.out)) hb); clear BK115; clear HB; have BK115 := n0_; have HB := n1_; clear n0_ n1_; (try clear hb); (try clear hb2); (try clear hk); (try clear hi)) | ((with_reducible refine gate_callee (f := 37) rfl ?_); refine goesL_ (some 8) rfl rfl Tryd.func37 (by kernel_rfl) rfl #[.string a1] rfl (by (try simp only [List.map_toArray, List.map_cons, List.map_nil]); first | done | rfl | (simp only [List.length_drop, List.length_take]; rfl) | (simp only [Int.add_zero]; rfl) | (simp; done)) ?_; (with_reducible refine (words_Fold.calls a1 t117 _ A4.out).mono ?_); rintro e w8 ⟨rfl, hb⟩; refine ⟨_, rfl, ?_⟩; have n0_ := Aside0.mk (blk_below (by (with_reducible repeat (first | refine blk_drewN ?_ _ | refine blk_drew ?_ | refine blk_alloc ?_ _)); exact BK115.out) hb); have n1_ := Aside0.mk (below_step (by repeat (first | (with_reducible first | exact HB.out | apply below_alloc | apply pw_below_drewN | apply below_drew1 | refine below_set ?_ GE115.out) | exact HB.out)) hb); clear BK115; clear HB; have BK115 := n0_; have HB := n1_; clear n0_ n1_; (try clear hb); (try clear hb2); (try clear hk); (try clear hi)) | ((with_reducible refine gate_callee (f := 42) rfl ?_); refine goesL_ (some 9) rfl rfl Tryd.func42 (by kernel_rfl) rfl #[.string t116, .string t117] rfl (by (try simp only [List.map_toArray, List.map_cons, List.map_nil]); first | done | rfl | (simp only [List.length_drop, List.length_take]; rfl) | (simp only [Int.add_zero]; rfl) | (simp; done)) ?_; (with_reducible refine (measure_Jaro.calls k t116 t117 t118 t119 _ ?sGl A5.out).mono ?_); (case sGl => exact Gl.below HGl.out (by repeat (first | (with_reducible first | exact HB.out | apply below_alloc | apply pw_below_drewN | apply below_drew1 | refine below_set ?_ (Aside0.out (by assumption))) | exact HB.out))); rintro e w9 ⟨rfl, hb⟩; refine ⟨_, rfl, ?_⟩; have n0_ := Aside0.mk (blk_below (by (with_reducible repeat (first | refine blk_drewN ?_ _ | refine blk_drew ?_ | refine blk_alloc ?_ _)); exact BK115.out) hb); have n1_ := Aside0.mk (below_step (by repeat (first | (with_reducible first | exact HB.out | apply below_alloc | apply pw_below_drewN | apply below_drew1 | refine below_set ?_ GE115.out) | exact HB.out)) hb); clear BK115; clear HB; have BK115 := n0_; have HB := n1_; clear n0_ n1_; (try clear hb); (try clear hb2); (try clear hk); (try clear hi); have hcz10_0 := cel_ BK115.out 0 rfl; have hcz10_1 := cel_ BK115.out 1 rfl; have hfz10_0 := blk_frozen BK115.out 0; have hfz10_1 := blk_frozen BK115.out 1))
  refine bodyPost_ret (results_cell_row rfl _ _ gb115 41 #[.int .i64 t118, .int .i64 t119] (0, 0) _ rfl (by (with_reducible repeat (first | refine blk_drewN ?_ _ | refine blk_drew ?_ | refine blk_alloc ?_ _)); refine blk_put (cs := #[.int .i64 t118, .int .i64 0]) ?_ 1 _ rfl; (with_reducible repeat (first | refine blk_drewN ?_ _ | refine blk_drew ?_ | refine blk_alloc ?_ _)); refine blk_put (cs := #[.int .i64 0, .int .i64 0]) ?_ 0 _ rfl; (with_reducible repeat (first | refine blk_drewN ?_ _ | refine blk_drew ?_ | refine blk_alloc ?_ _)); exact BK115.out) Tryd.underlying41 rfl (by kernel_rfl)) rfl ?_
  exact ⟨by first | rfl | (simp [errW_none, errW_some] <;> rfl) | (simp [*, errW_none, errW_some] <;> rfl), by repeat (first | (with_reducible first | exact HB.out | apply below_alloc | apply pw_below_drewN | apply below_drew1 | refine below_set ?_ GE115.out) | exact HB.out)⟩

end Go.Proofs.YtiffkknhnmpgbaaDoor.CL
end

section
/- measure.Of: for every measure, tolerance and two values: what it answers, by the printed contracts of value.Valid, measure.Near and the three functions of texts. -/
namespace Go.Proofs.YtiffkknhnmpgbaaDoor
open Go Go.RowKit Go.Shelf Go.Proofs.YtiffkknhnmpgbaaDoorW.PrintWords Go.Proofs.YtiffkknhnmpgbaaDoorW.PrintLast
attribute [local go_sem] Oper.semAt_some
set_option linter.unusedVariables false
set_option linter.unusedSimpArgs false

def ofTail (k : Nat) (m tol a0 a1 : Int) (a2 : ByteArray) (b0 b1 : Int) (b2 : ByteArray) : Option (Int × Int × Int) :=
 if m = 5 ∧ (tol < 0 ∨ 1000000000 ≤ tol) then some (0, 0, 1)
 else if a0 = 0 ∨ b0 = 0 then some (0, 1, 0)
 else if m = 1 then (if a0 = b0 ∧ a1 = b1 ∧ a2.toList = b2.toList then some (1, 1, 0) else some (0, 1, 0))
 else if a0 ≠ b0 ∨ (m = 5 ∧ a0 ≠ 2 ∧ a0 ≠ 3) ∨ (m ≠ 5 ∧ a0 ≠ 1) then some (0, 0, 10)
 else if m = 5 then (Q.measure_Near.f k a1 b1 tol).bind fun r => some (r.1, r.2, 0)
 else if m = 2 then (CL.measure_texts_1.f k a2 b2).bind fun r => some (r.1, r.2, 0)
 else if m = 3 then (CL.measure_texts_2.f k a2 b2).bind fun r => some (r.1, r.2, 0)
 else (CL.measure_texts_3.f k a2 b2).bind fun r => some (r.1, r.2, 0)
def measure_Of.f (k : Nat) (m tol a0 a1 : Int) (a2 : ByteArray) (b0 b1 : Int) (b2 : ByteArray) : Option (Int × Int × Int) :=
 if (Lit.int .i64 m).wf = true then (if m < 1 ∨ 5 < m then some (0, 0, 1) else
  (Q.value_Valid.f k a0 a1 a2).bind fun va => if va = true then ((Q.value_Valid.f k b0 b1 b2).bind fun vb => if vb = true then ofTail k m tol a0 a1 a2 b0 b1 b2 else some (0, 0, 1)) else some (0, 0, 1)) else none
theorem eqF_nn (d : Nat) (w : World) : (Op.equalIn (d + 1) 69 .nilFunc .nilFunc).run Tryd.prog w = .ok true w := by
 have hu := Tryd.underlying69
 unfold Op.equalIn
 go_simp
theorem eqF_fn (d : Nat) (f : FuncId) (w : World) : (Op.equalIn (d + 1) 69 (.func (.func f) #[] #[]) .nilFunc).run Tryd.prog w = .ok false w := by
 have hu := Tryd.underlying69
 unfold Op.equalIn
 go_simp
theorem eq_nil_nil (w : World) : (binOp .eql 69 .nilFunc .nilFunc).run Tryd.prog w = .ok (.bool true) w := by
 have h := eqF_nn 9999 w
 simp only [binOp, Op.equal, Op.maxDepth, Sem.run_bind]
 rw [h]
 rfl
theorem eq_func_nil (f : FuncId) (w : World) : (binOp .eql 69 (.func (.func f) #[] #[]) .nilFunc).run Tryd.prog w = .ok (.bool false) w := by
 have h := eqF_fn 9999 f w
 simp only [binOp, Op.equal, Op.maxDepth, Sem.run_bind]
 rw [h]
 rfl
theorem eqValIn (d : Nat) (w : World) (x0 y0 : Int) (x1 y1 : Int) (x2 y2 : ByteArray) :
  (Op.equalIn (d + 2) 48 (.agg #[.int .i64 x0, .int .i64 x1, .string x2]) (.agg #[.int .i64 y0, .int .i64 y1, .string y2])).run Tryd.prog w = .ok (x0 == y0 && (x1 == y1 && (x2.toList == y2.toList))) w := by
 refine eqA_of Tryd.underlying48 (by kernel_rfl) ?_
 refine eqf_cons (by rfl) (by go_simp; rfl) (by go_simp; rfl) (by go_simp) ?_
 refine eqf_cons (by rfl) (by go_simp; rfl) (by go_simp; rfl) (by go_simp) ?_
 exact eqf_last (by rfl) (by go_simp; rfl) (by go_simp; rfl) (by go_simp)
theorem eq_val (x0 x1 : Int) (x2 : ByteArray) (y0 y1 : Int) (y2 : ByteArray) (w : World) : (binOp .eql 48 (.agg #[.int .i64 x0, .int .i64 x1, .string x2]) (.agg #[.int .i64 y0, .int .i64 y1, .string y2])).run Tryd.prog w = .ok (.bool (x0 == y0 && (x1 == y1 && (x2.toList == y2.toList)))) w := by
 have h := eqValIn 9998 w x0 y0 x1 y1 x2 y2
 simp only [binOp, Op.equal, Op.maxDepth, Sem.run_bind]
 rw [h]
 rfl
section
variable (a0 a1 : Int) (a2 : ByteArray) (b0 b1 : Int) (b2 : ByteArray) (w : World)
/-- What the walk keeps: the two values and the result in their blocks, the package's variables. -/
def OfS (W : World) : Prop := W.heap[w.heap.size]? = some (.cells #[.int .i64 a0, .int .i64 a1, .string a2] 48 (0, 0)) ∧ W.heap[w.heap.size + 1]? = some (.cells #[.int .i64 b0, .int .i64 b1, .string b2] 48 (0, 0)) ∧
 W.heap[w.heap.size + 1 + 1]? = some (.cells #[.int .i64 0, .int .i64 0] 41 (0, 0)) ∧ Below w.heap.size w W ∧ Gl W
variable {a0 a1 a2 b0 b1 b2 w}
theorem OfS.below {W W' : World} (h : OfS a0 a1 a2 b0 b1 b2 w W) (hb : Below W.heap.size W W') : OfS a0 a1 a2 b0 b1 b2 w W' :=
 ⟨blk_below h.1 hb, blk_below h.2.1 hb, blk_below h.2.2.1 hb, h.2.2.2.1.trans (hb.mono h.2.2.2.1.size), h.2.2.2.2.below hb⟩
theorem OfS.gl {W : World} (h : OfS a0 a1 a2 b0 b1 b2 w W) : Gl W := h.2.2.2.2
theorem OfS.start (hG : Gl w) : OfS a0 a1 a2 b0 b1 b2 w (((w.alloc (.cells #[.int .i64 a0, .int .i64 a1, .string a2] 48)).alloc (.cells #[.int .i64 b0, .int .i64 b1, .string b2] 48)).alloc (.cells #[.int .i64 0, .int .i64 0] 41)) := by
 have hb : Below w.heap.size w (((w.alloc (.cells #[.int .i64 a0, .int .i64 a1, .string a2] 48)).alloc (.cells #[.int .i64 b0, .int .i64 b1, .string b2] 48)).alloc (.cells #[.int .i64 0, .int .i64 0] 41)) :=
  (((Below.refl _ w).alloc (Nat.le_refl _) _).alloc (by simp) _).alloc (by simp; omega) _
 refine ⟨blk_alloc (blk_alloc (blk_new w _) _) _, blk_alloc ?_ _, ?_, hb, hG.below hb⟩
 ·have := blk_new (w.alloc (.cells #[.int .i64 a0, .int .i64 a1, .string a2] 48)) (.cells #[.int .i64 b0, .int .i64 b1, .string b2] 48)
  rwa [World.size_alloc] at this
 have := blk_new ((w.alloc (.cells #[.int .i64 a0, .int .i64 a1, .string a2] 48)).alloc (.cells #[.int .i64 b0, .int .i64 b1, .string b2] 48)) (.cells #[.int .i64 0, .int .i64 0] 41)
 rwa [World.size_alloc, World.size_alloc] at this
theorem OfS.cells {W : World} (h : OfS a0 a1 a2 b0 b1 b2 w W) :
  W.cell? ⟨w.heap.size, 0, none⟩ = some (.int .i64 a0) ∧ W.cell? ⟨w.heap.size, 1, none⟩ = some (.int .i64 a1) ∧ W.cell? ⟨w.heap.size, 2, none⟩ = some (.string a2) ∧
  W.cell? ⟨w.heap.size + 1, 0, none⟩ = some (.int .i64 b0) ∧ W.cell? ⟨w.heap.size + 1, 1, none⟩ = some (.int .i64 b1) ∧ W.cell? ⟨w.heap.size + 1, 2, none⟩ = some (.string b2) ∧
  W.cell? ⟨w.heap.size + 1 + 1, 0, none⟩ = some (.int .i64 0) ∧ W.cell? ⟨w.heap.size + 1 + 1, 1, none⟩ = some (.int .i64 0) ∧ W.frozen? ⟨w.heap.size + 1 + 1, 0, none⟩ = false ∧ W.frozen? ⟨w.heap.size + 1 + 1, 1, none⟩ = false :=
 ⟨(blk_cell h.1 0).trans rfl, (blk_cell h.1 1).trans rfl, (blk_cell h.1 2).trans rfl, (blk_cell h.2.1 0).trans rfl, (blk_cell h.2.1 1).trans rfl, (blk_cell h.2.1 2).trans rfl,
   (blk_cell h.2.2.1 0).trans rfl, (blk_cell h.2.2.1 1).trans rfl, blk_frozen h.2.2.1 0, blk_frozen h.2.2.1 1⟩
end

set_option maxRecDepth 100000 in
set_option maxHeartbeats 4000000 in
theorem of_other (k : Nat) (m : Int) (tol a0 a1 : Int) (a2 : ByteArray) (b0 b1 : Int) (b2 : ByteArray) (w : World) (hG : Gl w) (hwf : (Lit.int .i64 m).wf = true) (hnil : ofF m = .nilFunc) (h5 : (m == 5) = false) (h1 : (m != 1) = true) :
  Calls Tryd.prog 15 #[.int .i64 m, .int .i64 tol, .agg #[.int .i64 a0, .int .i64 a1, .string a2], .agg #[.int .i64 b0, .int .i64 b1, .string b2]] w fun e w' => e = .returned (.tuple #[.agg #[.int .i64 0, .int .i64 0], .int .i64 1]) ∧ Below w.heap.size w w' := by
 have HS0 := Aside0.mk (OfS.start (a0 := a0) (a1 := a1) (a2 := a2) (b0 := b0) (b1 := b1) (b2 := b2) hG)
 clear hG
 have hu := Tryd.underlying41
 have hu2 := Tryd.underlying48
 have hnn := eq_nil_nil
 have hfn := eq_func_nil
 have hev := eq_val
 go_enter Tryd.func15, Tryd.ntmps15
 go_wp2_with ((go_at_call 23; with_reducible refine (texts_calls _).mono ?_; rintro e w1 ⟨b, rfl, hb1, hlk⟩; have hl1 := hlk m hwf; rw [show ofF m = .nilFunc from hnil] at hl1; clear hlk; have HS1 := Aside0.mk (HS0.out.below hb1); clear hb1; obtain ⟨ca0, ca1, ca2, cb0, cb1, cb2, cr0, cr1, fr0, fr1⟩ := HS1.out.cells))
 refine bodyPost_ret (results_ct rfl _ _ (w.heap.size + 1 + 1) 41 #[.int .i64 0, .int .i64 0] (0, 0) _ rfl (by refine blk_put (cs := #[.int .i64 0, .int .i64 0]) ?_ 1 _ rfl; refine blk_put (cs := #[.int .i64 0, .int .i64 0]) ?_ 0 _ rfl; exact HS1.out.2.2.1) Tryd.underlying41 rfl (by kernel_rfl)) rfl ?_
 have HBX := HS1.out.2.2.2.1
 exact ⟨rfl, by repeat (first | exact HBX | refine below_set ?_ (by omega))⟩
set_option maxRecDepth 100000 in
set_option maxHeartbeats 4000000 in
theorem of_1_va (k : Nat) (tol a0 a1 : Int) (a2 : ByteArray) (b0 b1 : Int) (b2 : ByteArray) (w : World) (hG : Gl w) (hva : Q.value_Valid.f k a0 a1 a2 = some false) :
  Calls Tryd.prog 15 #[.int .i64 1, .int .i64 tol, .agg #[.int .i64 a0, .int .i64 a1, .string a2], .agg #[.int .i64 b0, .int .i64 b1, .string b2]] w fun e w' => e = .returned (.tuple #[.agg #[.int .i64 0, .int .i64 0], .int .i64 1]) ∧ Below w.heap.size w w' := by
 have HS0 := Aside0.mk (OfS.start (a0 := a0) (a1 := a1) (a2 := a2) (b0 := b0) (b1 := b1) (b2 := b2) hG)
 clear hG
 have hu := Tryd.underlying41
 have hu2 := Tryd.underlying48
 have hnn := eq_nil_nil
 have hfn := eq_func_nil
 have hev := eq_val
 go_enter Tryd.func15, Tryd.ntmps15
 go_wp2_with (first | (go_at_call 23; with_reducible refine (texts_calls _).mono ?_; rintro e w1 ⟨b, rfl, hb1, hlk⟩; have hl1 := hlk 1 (by decide); rw [show ofF 1 = .nilFunc from rfl] at hl1; clear hlk; have HS1 := Aside0.mk (HS0.out.below hb1); clear hb1; obtain ⟨ca0, ca1, ca2, cb0, cb1, cb2, cr0, cr1, fr0, fr1⟩ := HS1.out.cells) | (go_at_call 24; with_reducible refine (Q.value_Valid.calls k a0 a1 a2 _ _ hva).mono ?_; rintro e w2 ⟨rfl, hb2⟩; have HS2 := Aside0.mk (HS1.out.below hb2); clear hb2; clear ca0 ca1 ca2 cb0 cb1 cb2 cr0 cr1 fr0 fr1; obtain ⟨ca0, ca1, ca2, cb0, cb1, cb2, cr0, cr1, fr0, fr1⟩ := HS2.out.cells))
 refine bodyPost_ret (results_ct rfl _ _ (w.heap.size + 1 + 1) 41 #[.int .i64 0, .int .i64 0] (0, 0) _ rfl (by refine blk_put (cs := #[.int .i64 0, .int .i64 0]) ?_ 1 _ rfl; refine blk_put (cs := #[.int .i64 0, .int .i64 0]) ?_ 0 _ rfl; exact HS2.out.2.2.1) Tryd.underlying41 rfl (by kernel_rfl)) rfl ?_
 have HBX := HS2.out.2.2.2.1
 exact ⟨rfl, by repeat (first | exact HBX | refine below_set ?_ (by omega))⟩
set_option maxRecDepth 100000 in
set_option maxHeartbeats 4000000 in
theorem of_1_vb (k : Nat) (tol a0 a1 : Int) (a2 : ByteArray) (b0 b1 : Int) (b2 : ByteArray) (w : World) (hG : Gl w) (hva : Q.value_Valid.f k a0 a1 a2 = some true) (hvb : Q.value_Valid.f k b0 b1 b2 = some false) :
  Calls Tryd.prog 15 #[.int .i64 1, .int .i64 tol, .agg #[.int .i64 a0, .int .i64 a1, .string a2], .agg #[.int .i64 b0, .int .i64 b1, .string b2]] w fun e w' => e = .returned (.tuple #[.agg #[.int .i64 0, .int .i64 0], .int .i64 1]) ∧ Below w.heap.size w w' := by
 have HS0 := Aside0.mk (OfS.start (a0 := a0) (a1 := a1) (a2 := a2) (b0 := b0) (b1 := b1) (b2 := b2) hG)
 clear hG
 have hu := Tryd.underlying41
 have hu2 := Tryd.underlying48
 have hnn := eq_nil_nil
 have hfn := eq_func_nil
 have hev := eq_val
 go_enter Tryd.func15, Tryd.ntmps15
 go_wp2_with (first | (go_at_call 23; with_reducible refine (texts_calls _).mono ?_; rintro e w1 ⟨b, rfl, hb1, hlk⟩; have hl1 := hlk 1 (by decide); rw [show ofF 1 = .nilFunc from rfl] at hl1; clear hlk; have HS1 := Aside0.mk (HS0.out.below hb1); clear hb1; obtain ⟨ca0, ca1, ca2, cb0, cb1, cb2, cr0, cr1, fr0, fr1⟩ := HS1.out.cells) | (go_at_call 24; with_reducible refine (Q.value_Valid.calls k a0 a1 a2 _ _ hva).mono ?_; rintro e w2 ⟨rfl, hb2⟩; have HS2 := Aside0.mk (HS1.out.below hb2); clear hb2; clear ca0 ca1 ca2 cb0 cb1 cb2 cr0 cr1 fr0 fr1; obtain ⟨ca0, ca1, ca2, cb0, cb1, cb2, cr0, cr1, fr0, fr1⟩ := HS2.out.cells) | (go_at_call 24; with_reducible refine (Q.value_Valid.calls k b0 b1 b2 _ _ hvb).mono ?_; rintro e w3 ⟨rfl, hb3⟩; have HS3 := Aside0.mk (HS2.out.below hb3); clear hb3; clear ca0 ca1 ca2 cb0 cb1 cb2 cr0 cr1 fr0 fr1; obtain ⟨ca0, ca1, ca2, cb0, cb1, cb2, cr0, cr1, fr0, fr1⟩ := HS3.out.cells))
 refine bodyPost_ret (results_ct rfl _ _ (w.heap.size + 1 + 1) 41 #[.int .i64 0, .int .i64 0] (0, 0) _ rfl (by refine blk_put (cs := #[.int .i64 0, .int .i64 0]) ?_ 1 _ rfl; refine blk_put (cs := #[.int .i64 0, .int .i64 0]) ?_ 0 _ rfl; exact HS3.out.2.2.1) Tryd.underlying41 rfl (by kernel_rfl)) rfl ?_
 have HBX := HS3.out.2.2.2.1
 exact ⟨rfl, by repeat (first | exact HBX | refine below_set ?_ (by omega))⟩
set_option maxRecDepth 100000 in
set_option maxHeartbeats 4000000 in
theorem of_1_na (k : Nat) (tol a0 a1 : Int) (a2 : ByteArray) (b0 b1 : Int) (b2 : ByteArray) (w : World) (hG : Gl w) (hva : Q.value_Valid.f k a0 a1 a2 = some true) (hvb : Q.value_Valid.f k b0 b1 b2 = some true) (ha : (a0 == 0) = true) :
  Calls Tryd.prog 15 #[.int .i64 1, .int .i64 tol, .agg #[.int .i64 a0, .int .i64 a1, .string a2], .agg #[.int .i64 b0, .int .i64 b1, .string b2]] w fun e w' => e = .returned (.tuple #[.agg #[.int .i64 0, .int .i64 1], .int .i64 0]) ∧ Below w.heap.size w w' := by
 have HS0 := Aside0.mk (OfS.start (a0 := a0) (a1 := a1) (a2 := a2) (b0 := b0) (b1 := b1) (b2 := b2) hG)
 clear hG
 have hu := Tryd.underlying41
 have hu2 := Tryd.underlying48
 have hnn := eq_nil_nil
 have hfn := eq_func_nil
 have hev := eq_val
 go_enter Tryd.func15, Tryd.ntmps15
 go_wp2_with (first | (go_at_call 23; with_reducible refine (texts_calls _).mono ?_; rintro e w1 ⟨b, rfl, hb1, hlk⟩; have hl1 := hlk 1 (by decide); rw [show ofF 1 = .nilFunc from rfl] at hl1; clear hlk; have HS1 := Aside0.mk (HS0.out.below hb1); clear hb1; obtain ⟨ca0, ca1, ca2, cb0, cb1, cb2, cr0, cr1, fr0, fr1⟩ := HS1.out.cells) | (go_at_call 24; with_reducible refine (Q.value_Valid.calls k a0 a1 a2 _ _ hva).mono ?_; rintro e w2 ⟨rfl, hb2⟩; have HS2 := Aside0.mk (HS1.out.below hb2); clear hb2; clear ca0 ca1 ca2 cb0 cb1 cb2 cr0 cr1 fr0 fr1; obtain ⟨ca0, ca1, ca2, cb0, cb1, cb2, cr0, cr1, fr0, fr1⟩ := HS2.out.cells) | (go_at_call 24; with_reducible refine (Q.value_Valid.calls k b0 b1 b2 _ _ hvb).mono ?_; rintro e w3 ⟨rfl, hb3⟩; have HS3 := Aside0.mk (HS2.out.below hb3); clear hb3; clear ca0 ca1 ca2 cb0 cb1 cb2 cr0 cr1 fr0 fr1; obtain ⟨ca0, ca1, ca2, cb0, cb1, cb2, cr0, cr1, fr0, fr1⟩ := HS3.out.cells) | ((with_reducible refine gate_op (op := .load 41 (.global 0)) rfl ?_); refine gl0_event rfl rfl rfl ?hGl ?_; (case hGl => exact HS3.out.2.2.2.2)))
 refine bodyPost_ret (results_ct rfl _ _ (w.heap.size + 1 + 1) 41 #[.int .i64 0, .int .i64 1] (0, 0) _ rfl (by refine blk_put (cs := #[.int .i64 0, .int .i64 0]) ?_ 1 _ rfl; refine blk_put (cs := #[.int .i64 0, .int .i64 0]) ?_ 0 _ rfl; exact HS3.out.2.2.1) Tryd.underlying41 rfl (by kernel_rfl)) rfl ?_
 have HBX := HS3.out.2.2.2.1
 exact ⟨rfl, by repeat (first | exact HBX | refine below_set ?_ (by omega))⟩
set_option maxRecDepth 100000 in
set_option maxHeartbeats 4000000 in
theorem of_1_nb (k : Nat) (tol a0 a1 : Int) (a2 : ByteArray) (b0 b1 : Int) (b2 : ByteArray) (w : World) (hG : Gl w) (hva : Q.value_Valid.f k a0 a1 a2 = some true) (hvb : Q.value_Valid.f k b0 b1 b2 = some true) (ha : (a0 == 0) = false) (hb : (b0 == 0) = true) :
  Calls Tryd.prog 15 #[.int .i64 1, .int .i64 tol, .agg #[.int .i64 a0, .int .i64 a1, .string a2], .agg #[.int .i64 b0, .int .i64 b1, .string b2]] w fun e w' => e = .returned (.tuple #[.agg #[.int .i64 0, .int .i64 1], .int .i64 0]) ∧ Below w.heap.size w w' := by
 have HS0 := Aside0.mk (OfS.start (a0 := a0) (a1 := a1) (a2 := a2) (b0 := b0) (b1 := b1) (b2 := b2) hG)
 clear hG
 have hu := Tryd.underlying41
 have hu2 := Tryd.underlying48
 have hnn := eq_nil_nil
 have hfn := eq_func_nil
 have hev := eq_val
 go_enter Tryd.func15, Tryd.ntmps15
 go_wp2_with (first | (go_at_call 23; with_reducible refine (texts_calls _).mono ?_; rintro e w1 ⟨b, rfl, hb1, hlk⟩; have hl1 := hlk 1 (by decide); rw [show ofF 1 = .nilFunc from rfl] at hl1; clear hlk; have HS1 := Aside0.mk (HS0.out.below hb1); clear hb1; obtain ⟨ca0, ca1, ca2, cb0, cb1, cb2, cr0, cr1, fr0, fr1⟩ := HS1.out.cells) | (go_at_call 24; with_reducible refine (Q.value_Valid.calls k a0 a1 a2 _ _ hva).mono ?_; rintro e w2 ⟨rfl, hb2⟩; have HS2 := Aside0.mk (HS1.out.below hb2); clear hb2; clear ca0 ca1 ca2 cb0 cb1 cb2 cr0 cr1 fr0 fr1; obtain ⟨ca0, ca1, ca2, cb0, cb1, cb2, cr0, cr1, fr0, fr1⟩ := HS2.out.cells) | (go_at_call 24; with_reducible refine (Q.value_Valid.calls k b0 b1 b2 _ _ hvb).mono ?_; rintro e w3 ⟨rfl, hb3⟩; have HS3 := Aside0.mk (HS2.out.below hb3); clear hb3; clear ca0 ca1 ca2 cb0 cb1 cb2 cr0 cr1 fr0 fr1; obtain ⟨ca0, ca1, ca2, cb0, cb1, cb2, cr0, cr1, fr0, fr1⟩ := HS3.out.cells) | ((with_reducible refine gate_op (op := .load 41 (.global 0)) rfl ?_); refine gl0_event rfl rfl rfl ?hGl ?_; (case hGl => exact HS3.out.2.2.2.2)))
 refine bodyPost_ret (results_ct rfl _ _ (w.heap.size + 1 + 1) 41 #[.int .i64 0, .int .i64 1] (0, 0) _ rfl (by refine blk_put (cs := #[.int .i64 0, .int .i64 0]) ?_ 1 _ rfl; refine blk_put (cs := #[.int .i64 0, .int .i64 0]) ?_ 0 _ rfl; exact HS3.out.2.2.1) Tryd.underlying41 rfl (by kernel_rfl)) rfl ?_
 have HBX := HS3.out.2.2.2.1
 exact ⟨rfl, by repeat (first | exact HBX | refine below_set ?_ (by omega))⟩
set_option maxRecDepth 100000 in
set_option maxHeartbeats 4000000 in
theorem of_1_eq (k : Nat) (tol a0 a1 : Int) (a2 : ByteArray) (b0 b1 : Int) (b2 : ByteArray) (w : World) (hG : Gl w) (hva : Q.value_Valid.f k a0 a1 a2 = some true) (hvb : Q.value_Valid.f k b0 b1 b2 = some true) (ha : (a0 == 0) = false) (hb : (b0 == 0) = false) (e0 : (a0 == b0) = true) (e1 : (a1 == b1) = true) (e2 : (a2.toList == b2.toList) = true) :
  Calls Tryd.prog 15 #[.int .i64 1, .int .i64 tol, .agg #[.int .i64 a0, .int .i64 a1, .string a2], .agg #[.int .i64 b0, .int .i64 b1, .string b2]] w fun e w' => e = .returned (.tuple #[.agg #[.int .i64 1, .int .i64 1], .int .i64 0]) ∧ Below w.heap.size w w' := by
 have HS0 := Aside0.mk (OfS.start (a0 := a0) (a1 := a1) (a2 := a2) (b0 := b0) (b1 := b1) (b2 := b2) hG)
 clear hG
 have hu := Tryd.underlying41
 have hu2 := Tryd.underlying48
 have hnn := eq_nil_nil
 have hfn := eq_func_nil
 have hev := eq_val
 go_enter Tryd.func15, Tryd.ntmps15
 go_wp2_with (first | (go_at_call 23; with_reducible refine (texts_calls _).mono ?_; rintro e w1 ⟨b, rfl, hb1, hlk⟩; have hl1 := hlk 1 (by decide); rw [show ofF 1 = .nilFunc from rfl] at hl1; clear hlk; have HS1 := Aside0.mk (HS0.out.below hb1); clear hb1; obtain ⟨ca0, ca1, ca2, cb0, cb1, cb2, cr0, cr1, fr0, fr1⟩ := HS1.out.cells) | (go_at_call 24; with_reducible refine (Q.value_Valid.calls k a0 a1 a2 _ _ hva).mono ?_; rintro e w2 ⟨rfl, hb2⟩; have HS2 := Aside0.mk (HS1.out.below hb2); clear hb2; clear ca0 ca1 ca2 cb0 cb1 cb2 cr0 cr1 fr0 fr1; obtain ⟨ca0, ca1, ca2, cb0, cb1, cb2, cr0, cr1, fr0, fr1⟩ := HS2.out.cells) | (go_at_call 24; with_reducible refine (Q.value_Valid.calls k b0 b1 b2 _ _ hvb).mono ?_; rintro e w3 ⟨rfl, hb3⟩; have HS3 := Aside0.mk (HS2.out.below hb3); clear hb3; clear ca0 ca1 ca2 cb0 cb1 cb2 cr0 cr1 fr0 fr1; obtain ⟨ca0, ca1, ca2, cb0, cb1, cb2, cr0, cr1, fr0, fr1⟩ := HS3.out.cells) | ((with_reducible refine gate_op (op := .load 41 (.global 1)) rfl ?_); refine gl1_event rfl rfl rfl ?hGl ?_; (case hGl => exact HS3.out.2.2.2.2)))
 refine bodyPost_ret (results_ct rfl _ _ (w.heap.size + 1 + 1) 41 #[.int .i64 1, .int .i64 1] (0, 0) _ rfl (by refine blk_put (cs := #[.int .i64 1, .int .i64 0]) ?_ 1 _ rfl; refine blk_put (cs := #[.int .i64 0, .int .i64 0]) ?_ 0 _ rfl; exact HS3.out.2.2.1) Tryd.underlying41 rfl (by kernel_rfl)) rfl ?_
 have HBX := HS3.out.2.2.2.1
 exact ⟨rfl, by repeat (first | exact HBX | refine below_set ?_ (by omega))⟩
set_option maxRecDepth 100000 in
set_option maxHeartbeats 4000000 in
theorem of_1_n0 (k : Nat) (tol a0 a1 : Int) (a2 : ByteArray) (b0 b1 : Int) (b2 : ByteArray) (w : World) (hG : Gl w) (hva : Q.value_Valid.f k a0 a1 a2 = some true) (hvb : Q.value_Valid.f k b0 b1 b2 = some true) (ha : (a0 == 0) = false) (hb : (b0 == 0) = false) (e0 : (a0 == b0) = false) :
  Calls Tryd.prog 15 #[.int .i64 1, .int .i64 tol, .agg #[.int .i64 a0, .int .i64 a1, .string a2], .agg #[.int .i64 b0, .int .i64 b1, .string b2]] w fun e w' => e = .returned (.tuple #[.agg #[.int .i64 0, .int .i64 1], .int .i64 0]) ∧ Below w.heap.size w w' := by
 have HS0 := Aside0.mk (OfS.start (a0 := a0) (a1 := a1) (a2 := a2) (b0 := b0) (b1 := b1) (b2 := b2) hG)
 clear hG
 have hu := Tryd.underlying41
 have hu2 := Tryd.underlying48
 have hnn := eq_nil_nil
 have hfn := eq_func_nil
 have hev := eq_val
 go_enter Tryd.func15, Tryd.ntmps15
 go_wp2_with (first | (go_at_call 23; with_reducible refine (texts_calls _).mono ?_; rintro e w1 ⟨b, rfl, hb1, hlk⟩; have hl1 := hlk 1 (by decide); rw [show ofF 1 = .nilFunc from rfl] at hl1; clear hlk; have HS1 := Aside0.mk (HS0.out.below hb1); clear hb1; obtain ⟨ca0, ca1, ca2, cb0, cb1, cb2, cr0, cr1, fr0, fr1⟩ := HS1.out.cells) | (go_at_call 24; with_reducible refine (Q.value_Valid.calls k a0 a1 a2 _ _ hva).mono ?_; rintro e w2 ⟨rfl, hb2⟩; have HS2 := Aside0.mk (HS1.out.below hb2); clear hb2; clear ca0 ca1 ca2 cb0 cb1 cb2 cr0 cr1 fr0 fr1; obtain ⟨ca0, ca1, ca2, cb0, cb1, cb2, cr0, cr1, fr0, fr1⟩ := HS2.out.cells) | (go_at_call 24; with_reducible refine (Q.value_Valid.calls k b0 b1 b2 _ _ hvb).mono ?_; rintro e w3 ⟨rfl, hb3⟩; have HS3 := Aside0.mk (HS2.out.below hb3); clear hb3; clear ca0 ca1 ca2 cb0 cb1 cb2 cr0 cr1 fr0 fr1; obtain ⟨ca0, ca1, ca2, cb0, cb1, cb2, cr0, cr1, fr0, fr1⟩ := HS3.out.cells) | ((with_reducible refine gate_op (op := .load 41 (.global 0)) rfl ?_); refine gl0_event rfl rfl rfl ?hGl ?_; (case hGl => exact HS3.out.2.2.2.2)))
 refine bodyPost_ret (results_ct rfl _ _ (w.heap.size + 1 + 1) 41 #[.int .i64 0, .int .i64 1] (0, 0) _ rfl (by refine blk_put (cs := #[.int .i64 0, .int .i64 0]) ?_ 1 _ rfl; refine blk_put (cs := #[.int .i64 0, .int .i64 0]) ?_ 0 _ rfl; exact HS3.out.2.2.1) Tryd.underlying41 rfl (by kernel_rfl)) rfl ?_
 have HBX := HS3.out.2.2.2.1
 exact ⟨rfl, by repeat (first | exact HBX | refine below_set ?_ (by omega))⟩
set_option maxRecDepth 100000 in
set_option maxHeartbeats 4000000 in
theorem of_1_n1 (k : Nat) (tol a0 a1 : Int) (a2 : ByteArray) (b0 b1 : Int) (b2 : ByteArray) (w : World) (hG : Gl w) (hva : Q.value_Valid.f k a0 a1 a2 = some true) (hvb : Q.value_Valid.f k b0 b1 b2 = some true) (ha : (a0 == 0) = false) (hb : (b0 == 0) = false) (e0 : (a0 == b0) = true) (e1 : (a1 == b1) = false) :
  Calls Tryd.prog 15 #[.int .i64 1, .int .i64 tol, .agg #[.int .i64 a0, .int .i64 a1, .string a2], .agg #[.int .i64 b0, .int .i64 b1, .string b2]] w fun e w' => e = .returned (.tuple #[.agg #[.int .i64 0, .int .i64 1], .int .i64 0]) ∧ Below w.heap.size w w' := by
 have HS0 := Aside0.mk (OfS.start (a0 := a0) (a1 := a1) (a2 := a2) (b0 := b0) (b1 := b1) (b2 := b2) hG)
 clear hG
 have hu := Tryd.underlying41
 have hu2 := Tryd.underlying48
 have hnn := eq_nil_nil
 have hfn := eq_func_nil
 have hev := eq_val
 go_enter Tryd.func15, Tryd.ntmps15
 go_wp2_with (first | (go_at_call 23; with_reducible refine (texts_calls _).mono ?_; rintro e w1 ⟨b, rfl, hb1, hlk⟩; have hl1 := hlk 1 (by decide); rw [show ofF 1 = .nilFunc from rfl] at hl1; clear hlk; have HS1 := Aside0.mk (HS0.out.below hb1); clear hb1; obtain ⟨ca0, ca1, ca2, cb0, cb1, cb2, cr0, cr1, fr0, fr1⟩ := HS1.out.cells) | (go_at_call 24; with_reducible refine (Q.value_Valid.calls k a0 a1 a2 _ _ hva).mono ?_; rintro e w2 ⟨rfl, hb2⟩; have HS2 := Aside0.mk (HS1.out.below hb2); clear hb2; clear ca0 ca1 ca2 cb0 cb1 cb2 cr0 cr1 fr0 fr1; obtain ⟨ca0, ca1, ca2, cb0, cb1, cb2, cr0, cr1, fr0, fr1⟩ := HS2.out.cells) | (go_at_call 24; with_reducible refine (Q.value_Valid.calls k b0 b1 b2 _ _ hvb).mono ?_; rintro e w3 ⟨rfl, hb3⟩; have HS3 := Aside0.mk (HS2.out.below hb3); clear hb3; clear ca0 ca1 ca2 cb0 cb1 cb2 cr0 cr1 fr0 fr1; obtain ⟨ca0, ca1, ca2, cb0, cb1, cb2, cr0, cr1, fr0, fr1⟩ := HS3.out.cells) | ((with_reducible refine gate_op (op := .load 41 (.global 0)) rfl ?_); refine gl0_event rfl rfl rfl ?hGl ?_; (case hGl => exact HS3.out.2.2.2.2)))
 refine bodyPost_ret (results_ct rfl _ _ (w.heap.size + 1 + 1) 41 #[.int .i64 0, .int .i64 1] (0, 0) _ rfl (by refine blk_put (cs := #[.int .i64 0, .int .i64 0]) ?_ 1 _ rfl; refine blk_put (cs := #[.int .i64 0, .int .i64 0]) ?_ 0 _ rfl; exact HS3.out.2.2.1) Tryd.underlying41 rfl (by kernel_rfl)) rfl ?_
 have HBX := HS3.out.2.2.2.1
 exact ⟨rfl, by repeat (first | exact HBX | refine below_set ?_ (by omega))⟩
set_option maxRecDepth 100000 in
set_option maxHeartbeats 4000000 in
theorem of_1_n2 (k : Nat) (tol a0 a1 : Int) (a2 : ByteArray) (b0 b1 : Int) (b2 : ByteArray) (w : World) (hG : Gl w) (hva : Q.value_Valid.f k a0 a1 a2 = some true) (hvb : Q.value_Valid.f k b0 b1 b2 = some true) (ha : (a0 == 0) = false) (hb : (b0 == 0) = false) (e0 : (a0 == b0) = true) (e1 : (a1 == b1) = true) (e2 : (a2.toList == b2.toList) = false) :
  Calls Tryd.prog 15 #[.int .i64 1, .int .i64 tol, .agg #[.int .i64 a0, .int .i64 a1, .string a2], .agg #[.int .i64 b0, .int .i64 b1, .string b2]] w fun e w' => e = .returned (.tuple #[.agg #[.int .i64 0, .int .i64 1], .int .i64 0]) ∧ Below w.heap.size w w' := by
 have HS0 := Aside0.mk (OfS.start (a0 := a0) (a1 := a1) (a2 := a2) (b0 := b0) (b1 := b1) (b2 := b2) hG)
 clear hG
 have hu := Tryd.underlying41
 have hu2 := Tryd.underlying48
 have hnn := eq_nil_nil
 have hfn := eq_func_nil
 have hev := eq_val
 go_enter Tryd.func15, Tryd.ntmps15
 go_wp2_with (first | (go_at_call 23; with_reducible refine (texts_calls _).mono ?_; rintro e w1 ⟨b, rfl, hb1, hlk⟩; have hl1 := hlk 1 (by decide); rw [show ofF 1 = .nilFunc from rfl] at hl1; clear hlk; have HS1 := Aside0.mk (HS0.out.below hb1); clear hb1; obtain ⟨ca0, ca1, ca2, cb0, cb1, cb2, cr0, cr1, fr0, fr1⟩ := HS1.out.cells) | (go_at_call 24; with_reducible refine (Q.value_Valid.calls k a0 a1 a2 _ _ hva).mono ?_; rintro e w2 ⟨rfl, hb2⟩; have HS2 := Aside0.mk (HS1.out.below hb2); clear hb2; clear ca0 ca1 ca2 cb0 cb1 cb2 cr0 cr1 fr0 fr1; obtain ⟨ca0, ca1, ca2, cb0, cb1, cb2, cr0, cr1, fr0, fr1⟩ := HS2.out.cells) | (go_at_call 24; with_reducible refine (Q.value_Valid.calls k b0 b1 b2 _ _ hvb).mono ?_; rintro e w3 ⟨rfl, hb3⟩; have HS3 := Aside0.mk (HS2.out.below hb3); clear hb3; clear ca0 ca1 ca2 cb0 cb1 cb2 cr0 cr1 fr0 fr1; obtain ⟨ca0, ca1, ca2, cb0, cb1, cb2, cr0, cr1, fr0, fr1⟩ := HS3.out.cells) | ((with_reducible refine gate_op (op := .load 41 (.global 0)) rfl ?_); refine gl0_event rfl rfl rfl ?hGl ?_; (case hGl => exact HS3.out.2.2.2.2)))
 refine bodyPost_ret (results_ct rfl _ _ (w.heap.size + 1 + 1) 41 #[.int .i64 0, .int .i64 1] (0, 0) _ rfl (by refine blk_put (cs := #[.int .i64 0, .int .i64 0]) ?_ 1 _ rfl; refine blk_put (cs := #[.int .i64 0, .int .i64 0]) ?_ 0 _ rfl; exact HS3.out.2.2.1) Tryd.underlying41 rfl (by kernel_rfl)) rfl ?_
 have HBX := HS3.out.2.2.2.1
 exact ⟨rfl, by repeat (first | exact HBX | refine below_set ?_ (by omega))⟩
set_option maxRecDepth 100000 in
set_option maxHeartbeats 4000000 in
theorem of_2_va (k : Nat) (tol a0 a1 : Int) (a2 : ByteArray) (b0 b1 : Int) (b2 : ByteArray) (w : World) (hG : Gl w) (hva : Q.value_Valid.f k a0 a1 a2 = some false) :
  Calls Tryd.prog 15 #[.int .i64 2, .int .i64 tol, .agg #[.int .i64 a0, .int .i64 a1, .string a2], .agg #[.int .i64 b0, .int .i64 b1, .string b2]] w fun e w' => e = .returned (.tuple #[.agg #[.int .i64 0, .int .i64 0], .int .i64 1]) ∧ Below w.heap.size w w' := by
 have HS0 := Aside0.mk (OfS.start (a0 := a0) (a1 := a1) (a2 := a2) (b0 := b0) (b1 := b1) (b2 := b2) hG)
 clear hG
 have hu := Tryd.underlying41
 have hu2 := Tryd.underlying48
 have hnn := eq_nil_nil
 have hfn := eq_func_nil
 have hev := eq_val
 go_enter Tryd.func15, Tryd.ntmps15
 go_wp2_with (first | (go_at_call 23; with_reducible refine (texts_calls _).mono ?_; rintro e w1 ⟨b, rfl, hb1, hlk⟩; have hl1 := hlk 2 (by decide); rw [show ofF 2 = .func (.func 35) #[] #[] from rfl] at hl1; clear hlk; have HS1 := Aside0.mk (HS0.out.below hb1); clear hb1; obtain ⟨ca0, ca1, ca2, cb0, cb1, cb2, cr0, cr1, fr0, fr1⟩ := HS1.out.cells) | (go_at_call 24; with_reducible refine (Q.value_Valid.calls k a0 a1 a2 _ _ hva).mono ?_; rintro e w2 ⟨rfl, hb2⟩; have HS2 := Aside0.mk (HS1.out.below hb2); clear hb2; clear ca0 ca1 ca2 cb0 cb1 cb2 cr0 cr1 fr0 fr1; obtain ⟨ca0, ca1, ca2, cb0, cb1, cb2, cr0, cr1, fr0, fr1⟩ := HS2.out.cells))
 refine bodyPost_ret (results_ct rfl _ _ (w.heap.size + 1 + 1) 41 #[.int .i64 0, .int .i64 0] (0, 0) _ rfl (by refine blk_put (cs := #[.int .i64 0, .int .i64 0]) ?_ 1 _ rfl; refine blk_put (cs := #[.int .i64 0, .int .i64 0]) ?_ 0 _ rfl; exact HS2.out.2.2.1) Tryd.underlying41 rfl (by kernel_rfl)) rfl ?_
 have HBX := HS2.out.2.2.2.1
 exact ⟨rfl, by repeat (first | exact HBX | refine below_set ?_ (by omega))⟩
set_option maxRecDepth 100000 in
set_option maxHeartbeats 4000000 in
theorem of_2_vb (k : Nat) (tol a0 a1 : Int) (a2 : ByteArray) (b0 b1 : Int) (b2 : ByteArray) (w : World) (hG : Gl w) (hva : Q.value_Valid.f k a0 a1 a2 = some true) (hvb : Q.value_Valid.f k b0 b1 b2 = some false) :
  Calls Tryd.prog 15 #[.int .i64 2, .int .i64 tol, .agg #[.int .i64 a0, .int .i64 a1, .string a2], .agg #[.int .i64 b0, .int .i64 b1, .string b2]] w fun e w' => e = .returned (.tuple #[.agg #[.int .i64 0, .int .i64 0], .int .i64 1]) ∧ Below w.heap.size w w' := by
 have HS0 := Aside0.mk (OfS.start (a0 := a0) (a1 := a1) (a2 := a2) (b0 := b0) (b1 := b1) (b2 := b2) hG)
 clear hG
 have hu := Tryd.underlying41
 have hu2 := Tryd.underlying48
 have hnn := eq_nil_nil
 have hfn := eq_func_nil
 have hev := eq_val
 go_enter Tryd.func15, Tryd.ntmps15
 go_wp2_with (first | (go_at_call 23; with_reducible refine (texts_calls _).mono ?_; rintro e w1 ⟨b, rfl, hb1, hlk⟩; have hl1 := hlk 2 (by decide); rw [show ofF 2 = .func (.func 35) #[] #[] from rfl] at hl1; clear hlk; have HS1 := Aside0.mk (HS0.out.below hb1); clear hb1; obtain ⟨ca0, ca1, ca2, cb0, cb1, cb2, cr0, cr1, fr0, fr1⟩ := HS1.out.cells) | (go_at_call 24; with_reducible refine (Q.value_Valid.calls k a0 a1 a2 _ _ hva).mono ?_; rintro e w2 ⟨rfl, hb2⟩; have HS2 := Aside0.mk (HS1.out.below hb2); clear hb2; clear ca0 ca1 ca2 cb0 cb1 cb2 cr0 cr1 fr0 fr1; obtain ⟨ca0, ca1, ca2, cb0, cb1, cb2, cr0, cr1, fr0, fr1⟩ := HS2.out.cells) | (go_at_call 24; with_reducible refine (Q.value_Valid.calls k b0 b1 b2 _ _ hvb).mono ?_; rintro e w3 ⟨rfl, hb3⟩; have HS3 := Aside0.mk (HS2.out.below hb3); clear hb3; clear ca0 ca1 ca2 cb0 cb1 cb2 cr0 cr1 fr0 fr1; obtain ⟨ca0, ca1, ca2, cb0, cb1, cb2, cr0, cr1, fr0, fr1⟩ := HS3.out.cells))
 refine bodyPost_ret (results_ct rfl _ _ (w.heap.size + 1 + 1) 41 #[.int .i64 0, .int .i64 0] (0, 0) _ rfl (by refine blk_put (cs := #[.int .i64 0, .int .i64 0]) ?_ 1 _ rfl; refine blk_put (cs := #[.int .i64 0, .int .i64 0]) ?_ 0 _ rfl; exact HS3.out.2.2.1) Tryd.underlying41 rfl (by kernel_rfl)) rfl ?_
 have HBX := HS3.out.2.2.2.1
 exact ⟨rfl, by repeat (first | exact HBX | refine below_set ?_ (by omega))⟩
set_option maxRecDepth 100000 in
set_option maxHeartbeats 4000000 in
theorem of_2_na (k : Nat) (tol a0 a1 : Int) (a2 : ByteArray) (b0 b1 : Int) (b2 : ByteArray) (w : World) (hG : Gl w) (hva : Q.value_Valid.f k a0 a1 a2 = some true) (hvb : Q.value_Valid.f k b0 b1 b2 = some true) (ha : (a0 == 0) = true) :
  Calls Tryd.prog 15 #[.int .i64 2, .int .i64 tol, .agg #[.int .i64 a0, .int .i64 a1, .string a2], .agg #[.int .i64 b0, .int .i64 b1, .string b2]] w fun e w' => e = .returned (.tuple #[.agg #[.int .i64 0, .int .i64 1], .int .i64 0]) ∧ Below w.heap.size w w' := by
 have HS0 := Aside0.mk (OfS.start (a0 := a0) (a1 := a1) (a2 := a2) (b0 := b0) (b1 := b1) (b2 := b2) hG)
 clear hG
 have hu := Tryd.underlying41
 have hu2 := Tryd.underlying48
 have hnn := eq_nil_nil
 have hfn := eq_func_nil
 have hev := eq_val
 go_enter Tryd.func15, Tryd.ntmps15
 go_wp2_with (first | (go_at_call 23; with_reducible refine (texts_calls _).mono ?_; rintro e w1 ⟨b, rfl, hb1, hlk⟩; have hl1 := hlk 2 (by decide); rw [show ofF 2 = .func (.func 35) #[] #[] from rfl] at hl1; clear hlk; have HS1 := Aside0.mk (HS0.out.below hb1); clear hb1; obtain ⟨ca0, ca1, ca2, cb0, cb1, cb2, cr0, cr1, fr0, fr1⟩ := HS1.out.cells) | (go_at_call 24; with_reducible refine (Q.value_Valid.calls k a0 a1 a2 _ _ hva).mono ?_; rintro e w2 ⟨rfl, hb2⟩; have HS2 := Aside0.mk (HS1.out.below hb2); clear hb2; clear ca0 ca1 ca2 cb0 cb1 cb2 cr0 cr1 fr0 fr1; obtain ⟨ca0, ca1, ca2, cb0, cb1, cb2, cr0, cr1, fr0, fr1⟩ := HS2.out.cells) | (go_at_call 24; with_reducible refine (Q.value_Valid.calls k b0 b1 b2 _ _ hvb).mono ?_; rintro e w3 ⟨rfl, hb3⟩; have HS3 := Aside0.mk (HS2.out.below hb3); clear hb3; clear ca0 ca1 ca2 cb0 cb1 cb2 cr0 cr1 fr0 fr1; obtain ⟨ca0, ca1, ca2, cb0, cb1, cb2, cr0, cr1, fr0, fr1⟩ := HS3.out.cells) | ((with_reducible refine gate_op (op := .load 41 (.global 0)) rfl ?_); refine gl0_event rfl rfl rfl ?hGl ?_; (case hGl => exact HS3.out.2.2.2.2)))
 refine bodyPost_ret (results_ct rfl _ _ (w.heap.size + 1 + 1) 41 #[.int .i64 0, .int .i64 1] (0, 0) _ rfl (by refine blk_put (cs := #[.int .i64 0, .int .i64 0]) ?_ 1 _ rfl; refine blk_put (cs := #[.int .i64 0, .int .i64 0]) ?_ 0 _ rfl; exact HS3.out.2.2.1) Tryd.underlying41 rfl (by kernel_rfl)) rfl ?_
 have HBX := HS3.out.2.2.2.1
 exact ⟨rfl, by repeat (first | exact HBX | refine below_set ?_ (by omega))⟩
set_option maxRecDepth 100000 in
set_option maxHeartbeats 4000000 in
theorem of_2_nb (k : Nat) (tol a0 a1 : Int) (a2 : ByteArray) (b0 b1 : Int) (b2 : ByteArray) (w : World) (hG : Gl w) (hva : Q.value_Valid.f k a0 a1 a2 = some true) (hvb : Q.value_Valid.f k b0 b1 b2 = some true) (ha : (a0 == 0) = false) (hb : (b0 == 0) = true) :
  Calls Tryd.prog 15 #[.int .i64 2, .int .i64 tol, .agg #[.int .i64 a0, .int .i64 a1, .string a2], .agg #[.int .i64 b0, .int .i64 b1, .string b2]] w fun e w' => e = .returned (.tuple #[.agg #[.int .i64 0, .int .i64 1], .int .i64 0]) ∧ Below w.heap.size w w' := by
 have HS0 := Aside0.mk (OfS.start (a0 := a0) (a1 := a1) (a2 := a2) (b0 := b0) (b1 := b1) (b2 := b2) hG)
 clear hG
 have hu := Tryd.underlying41
 have hu2 := Tryd.underlying48
 have hnn := eq_nil_nil
 have hfn := eq_func_nil
 have hev := eq_val
 go_enter Tryd.func15, Tryd.ntmps15
 go_wp2_with (first | (go_at_call 23; with_reducible refine (texts_calls _).mono ?_; rintro e w1 ⟨b, rfl, hb1, hlk⟩; have hl1 := hlk 2 (by decide); rw [show ofF 2 = .func (.func 35) #[] #[] from rfl] at hl1; clear hlk; have HS1 := Aside0.mk (HS0.out.below hb1); clear hb1; obtain ⟨ca0, ca1, ca2, cb0, cb1, cb2, cr0, cr1, fr0, fr1⟩ := HS1.out.cells) | (go_at_call 24; with_reducible refine (Q.value_Valid.calls k a0 a1 a2 _ _ hva).mono ?_; rintro e w2 ⟨rfl, hb2⟩; have HS2 := Aside0.mk (HS1.out.below hb2); clear hb2; clear ca0 ca1 ca2 cb0 cb1 cb2 cr0 cr1 fr0 fr1; obtain ⟨ca0, ca1, ca2, cb0, cb1, cb2, cr0, cr1, fr0, fr1⟩ := HS2.out.cells) | (go_at_call 24; with_reducible refine (Q.value_Valid.calls k b0 b1 b2 _ _ hvb).mono ?_; rintro e w3 ⟨rfl, hb3⟩; have HS3 := Aside0.mk (HS2.out.below hb3); clear hb3; clear ca0 ca1 ca2 cb0 cb1 cb2 cr0 cr1 fr0 fr1; obtain ⟨ca0, ca1, ca2, cb0, cb1, cb2, cr0, cr1, fr0, fr1⟩ := HS3.out.cells) | ((with_reducible refine gate_op (op := .load 41 (.global 0)) rfl ?_); refine gl0_event rfl rfl rfl ?hGl ?_; (case hGl => exact HS3.out.2.2.2.2)))
 refine bodyPost_ret (results_ct rfl _ _ (w.heap.size + 1 + 1) 41 #[.int .i64 0, .int .i64 1] (0, 0) _ rfl (by refine blk_put (cs := #[.int .i64 0, .int .i64 0]) ?_ 1 _ rfl; refine blk_put (cs := #[.int .i64 0, .int .i64 0]) ?_ 0 _ rfl; exact HS3.out.2.2.1) Tryd.underlying41 rfl (by kernel_rfl)) rfl ?_
 have HBX := HS3.out.2.2.2.1
 exact ⟨rfl, by repeat (first | exact HBX | refine below_set ?_ (by omega))⟩
set_option maxRecDepth 100000 in
set_option maxHeartbeats 4000000 in
theorem of_2_kd (k : Nat) (tol a0 a1 : Int) (a2 : ByteArray) (b0 b1 : Int) (b2 : ByteArray) (w : World) (hG : Gl w) (hva : Q.value_Valid.f k a0 a1 a2 = some true) (hvb : Q.value_Valid.f k b0 b1 b2 = some true) (ha : (a0 == 0) = false) (hb : (b0 == 0) = false) (e0 : (a0 != b0) = true) :
  Calls Tryd.prog 15 #[.int .i64 2, .int .i64 tol, .agg #[.int .i64 a0, .int .i64 a1, .string a2], .agg #[.int .i64 b0, .int .i64 b1, .string b2]] w fun e w' => e = .returned (.tuple #[.agg #[.int .i64 0, .int .i64 0], .int .i64 10]) ∧ Below w.heap.size w w' := by
 have HS0 := Aside0.mk (OfS.start (a0 := a0) (a1 := a1) (a2 := a2) (b0 := b0) (b1 := b1) (b2 := b2) hG)
 clear hG
 have hu := Tryd.underlying41
 have hu2 := Tryd.underlying48
 have hnn := eq_nil_nil
 have hfn := eq_func_nil
 have hev := eq_val
 go_enter Tryd.func15, Tryd.ntmps15
 go_wp2_with (first | (go_at_call 23; with_reducible refine (texts_calls _).mono ?_; rintro e w1 ⟨b, rfl, hb1, hlk⟩; have hl1 := hlk 2 (by decide); rw [show ofF 2 = .func (.func 35) #[] #[] from rfl] at hl1; clear hlk; have HS1 := Aside0.mk (HS0.out.below hb1); clear hb1; obtain ⟨ca0, ca1, ca2, cb0, cb1, cb2, cr0, cr1, fr0, fr1⟩ := HS1.out.cells) | (go_at_call 24; with_reducible refine (Q.value_Valid.calls k a0 a1 a2 _ _ hva).mono ?_; rintro e w2 ⟨rfl, hb2⟩; have HS2 := Aside0.mk (HS1.out.below hb2); clear hb2; clear ca0 ca1 ca2 cb0 cb1 cb2 cr0 cr1 fr0 fr1; obtain ⟨ca0, ca1, ca2, cb0, cb1, cb2, cr0, cr1, fr0, fr1⟩ := HS2.out.cells) | (go_at_call 24; with_reducible refine (Q.value_Valid.calls k b0 b1 b2 _ _ hvb).mono ?_; rintro e w3 ⟨rfl, hb3⟩; have HS3 := Aside0.mk (HS2.out.below hb3); clear hb3; clear ca0 ca1 ca2 cb0 cb1 cb2 cr0 cr1 fr0 fr1; obtain ⟨ca0, ca1, ca2, cb0, cb1, cb2, cr0, cr1, fr0, fr1⟩ := HS3.out.cells))
 refine bodyPost_ret (results_ct rfl _ _ (w.heap.size + 1 + 1) 41 #[.int .i64 0, .int .i64 0] (0, 0) _ rfl (by refine blk_put (cs := #[.int .i64 0, .int .i64 0]) ?_ 1 _ rfl; refine blk_put (cs := #[.int .i64 0, .int .i64 0]) ?_ 0 _ rfl; exact HS3.out.2.2.1) Tryd.underlying41 rfl (by kernel_rfl)) rfl ?_
 have HBX := HS3.out.2.2.2.1
 exact ⟨rfl, by repeat (first | exact HBX | refine below_set ?_ (by omega))⟩
set_option maxRecDepth 100000 in
set_option maxHeartbeats 4000000 in
theorem of_2_ty (k : Nat) (tol a0 a1 : Int) (a2 : ByteArray) (b0 b1 : Int) (b2 : ByteArray) (w : World) (hG : Gl w) (hva : Q.value_Valid.f k a0 a1 a2 = some true) (hvb : Q.value_Valid.f k b0 b1 b2 = some true) (ha : (a0 == 0) = false) (hb : (b0 == 0) = false) (e0 : (a0 != b0) = false) (e1 : (a0 != 1) = true) :
  Calls Tryd.prog 15 #[.int .i64 2, .int .i64 tol, .agg #[.int .i64 a0, .int .i64 a1, .string a2], .agg #[.int .i64 b0, .int .i64 b1, .string b2]] w fun e w' => e = .returned (.tuple #[.agg #[.int .i64 0, .int .i64 0], .int .i64 10]) ∧ Below w.heap.size w w' := by
 have HS0 := Aside0.mk (OfS.start (a0 := a0) (a1 := a1) (a2 := a2) (b0 := b0) (b1 := b1) (b2 := b2) hG)
 clear hG
 have hu := Tryd.underlying41
 have hu2 := Tryd.underlying48
 have hnn := eq_nil_nil
 have hfn := eq_func_nil
 have hev := eq_val
 go_enter Tryd.func15, Tryd.ntmps15
 go_wp2_with (first | (go_at_call 23; with_reducible refine (texts_calls _).mono ?_; rintro e w1 ⟨b, rfl, hb1, hlk⟩; have hl1 := hlk 2 (by decide); rw [show ofF 2 = .func (.func 35) #[] #[] from rfl] at hl1; clear hlk; have HS1 := Aside0.mk (HS0.out.below hb1); clear hb1; obtain ⟨ca0, ca1, ca2, cb0, cb1, cb2, cr0, cr1, fr0, fr1⟩ := HS1.out.cells) | (go_at_call 24; with_reducible refine (Q.value_Valid.calls k a0 a1 a2 _ _ hva).mono ?_; rintro e w2 ⟨rfl, hb2⟩; have HS2 := Aside0.mk (HS1.out.below hb2); clear hb2; clear ca0 ca1 ca2 cb0 cb1 cb2 cr0 cr1 fr0 fr1; obtain ⟨ca0, ca1, ca2, cb0, cb1, cb2, cr0, cr1, fr0, fr1⟩ := HS2.out.cells) | (go_at_call 24; with_reducible refine (Q.value_Valid.calls k b0 b1 b2 _ _ hvb).mono ?_; rintro e w3 ⟨rfl, hb3⟩; have HS3 := Aside0.mk (HS2.out.below hb3); clear hb3; clear ca0 ca1 ca2 cb0 cb1 cb2 cr0 cr1 fr0 fr1; obtain ⟨ca0, ca1, ca2, cb0, cb1, cb2, cr0, cr1, fr0, fr1⟩ := HS3.out.cells))
 refine bodyPost_ret (results_ct rfl _ _ (w.heap.size + 1 + 1) 41 #[.int .i64 0, .int .i64 0] (0, 0) _ rfl (by refine blk_put (cs := #[.int .i64 0, .int .i64 0]) ?_ 1 _ rfl; refine blk_put (cs := #[.int .i64 0, .int .i64 0]) ?_ 0 _ rfl; exact HS3.out.2.2.1) Tryd.underlying41 rfl (by kernel_rfl)) rfl ?_
 have HBX := HS3.out.2.2.2.1
 exact ⟨rfl, by repeat (first | exact HBX | refine below_set ?_ (by omega))⟩
set_option maxRecDepth 100000 in
set_option maxHeartbeats 4000000 in
theorem of_2_c (k : Nat) (tol a0 a1 : Int) (a2 : ByteArray) (b0 b1 : Int) (b2 : ByteArray) (w : World) (hG : Gl w) (hva : Q.value_Valid.f k a0 a1 a2 = some true) (hvb : Q.value_Valid.f k b0 b1 b2 = some true) (ha : (a0 == 0) = false) (hb : (b0 == 0) = false) (e0 : (a0 != b0) = false) (e1 : (a0 != 1) = false) (r1 r2 : Int) (hN : CL.measure_texts_1.f k a2 b2 = some (r1, r2)) :
  Calls Tryd.prog 15 #[.int .i64 2, .int .i64 tol, .agg #[.int .i64 a0, .int .i64 a1, .string a2], .agg #[.int .i64 b0, .int .i64 b1, .string b2]] w fun e w' => e = .returned (.tuple #[.agg #[.int .i64 r1, .int .i64 r2], .int .i64 0]) ∧ Below w.heap.size w w' := by
 have HS0 := Aside0.mk (OfS.start (a0 := a0) (a1 := a1) (a2 := a2) (b0 := b0) (b1 := b1) (b2 := b2) hG)
 clear hG
 have hu := Tryd.underlying41
 have hu2 := Tryd.underlying48
 have hnn := eq_nil_nil
 have hfn := eq_func_nil
 have hev := eq_val
 go_enter Tryd.func15, Tryd.ntmps15
 go_wp2_with (first | (go_at_call 23; with_reducible refine (texts_calls _).mono ?_; rintro e w1 ⟨b, rfl, hb1, hlk⟩; have hl1 := hlk 2 (by decide); rw [show ofF 2 = .func (.func 35) #[] #[] from rfl] at hl1; clear hlk; have HS1 := Aside0.mk (HS0.out.below hb1); clear hb1; obtain ⟨ca0, ca1, ca2, cb0, cb1, cb2, cr0, cr1, fr0, fr1⟩ := HS1.out.cells) | (go_at_call 24; with_reducible refine (Q.value_Valid.calls k a0 a1 a2 _ _ hva).mono ?_; rintro e w2 ⟨rfl, hb2⟩; have HS2 := Aside0.mk (HS1.out.below hb2); clear hb2; clear ca0 ca1 ca2 cb0 cb1 cb2 cr0 cr1 fr0 fr1; obtain ⟨ca0, ca1, ca2, cb0, cb1, cb2, cr0, cr1, fr0, fr1⟩ := HS2.out.cells) | (go_at_call 24; with_reducible refine (Q.value_Valid.calls k b0 b1 b2 _ _ hvb).mono ?_; rintro e w3 ⟨rfl, hb3⟩; have HS3 := Aside0.mk (HS2.out.below hb3); clear hb3; clear ca0 ca1 ca2 cb0 cb1 cb2 cr0 cr1 fr0 fr1; obtain ⟨ca0, ca1, ca2, cb0, cb1, cb2, cr0, cr1, fr0, fr1⟩ := HS3.out.cells) | (go_at_call 35; with_reducible refine (CL.measure_texts_1.calls k a2 b2 r1 r2 _ HS3.out.gl hN).mono ?_; rintro e w4 ⟨rfl, hb4⟩; have HS4 := Aside0.mk (HS3.out.below hb4); clear hb4; clear ca0 ca1 ca2 cb0 cb1 cb2 cr0 cr1 fr0 fr1; obtain ⟨ca0, ca1, ca2, cb0, cb1, cb2, cr0, cr1, fr0, fr1⟩ := HS4.out.cells))
 refine bodyPost_ret (results_ct rfl _ _ (w.heap.size + 1 + 1) 41 #[.int .i64 r1, .int .i64 r2] (0, 0) _ rfl (by refine blk_put (cs := #[.int .i64 r1, .int .i64 0]) ?_ 1 _ rfl; refine blk_put (cs := #[.int .i64 0, .int .i64 0]) ?_ 0 _ rfl; exact HS4.out.2.2.1) Tryd.underlying41 rfl (by kernel_rfl)) rfl ?_
 have HBX := HS4.out.2.2.2.1
 exact ⟨rfl, by repeat (first | exact HBX | refine below_set ?_ (by omega))⟩
set_option maxRecDepth 100000 in
set_option maxHeartbeats 4000000 in
theorem of_3_va (k : Nat) (tol a0 a1 : Int) (a2 : ByteArray) (b0 b1 : Int) (b2 : ByteArray) (w : World) (hG : Gl w) (hva : Q.value_Valid.f k a0 a1 a2 = some false) :
  Calls Tryd.prog 15 #[.int .i64 3, .int .i64 tol, .agg #[.int .i64 a0, .int .i64 a1, .string a2], .agg #[.int .i64 b0, .int .i64 b1, .string b2]] w fun e w' => e = .returned (.tuple #[.agg #[.int .i64 0, .int .i64 0], .int .i64 1]) ∧ Below w.heap.size w w' := by
 have HS0 := Aside0.mk (OfS.start (a0 := a0) (a1 := a1) (a2 := a2) (b0 := b0) (b1 := b1) (b2 := b2) hG)
 clear hG
 have hu := Tryd.underlying41
 have hu2 := Tryd.underlying48
 have hnn := eq_nil_nil
 have hfn := eq_func_nil
 have hev := eq_val
 go_enter Tryd.func15, Tryd.ntmps15
 go_wp2_with (first | (go_at_call 23; with_reducible refine (texts_calls _).mono ?_; rintro e w1 ⟨b, rfl, hb1, hlk⟩; have hl1 := hlk 3 (by decide); rw [show ofF 3 = .func (.func 38) #[] #[] from rfl] at hl1; clear hlk; have HS1 := Aside0.mk (HS0.out.below hb1); clear hb1; obtain ⟨ca0, ca1, ca2, cb0, cb1, cb2, cr0, cr1, fr0, fr1⟩ := HS1.out.cells) | (go_at_call 24; with_reducible refine (Q.value_Valid.calls k a0 a1 a2 _ _ hva).mono ?_; rintro e w2 ⟨rfl, hb2⟩; have HS2 := Aside0.mk (HS1.out.below hb2); clear hb2; clear ca0 ca1 ca2 cb0 cb1 cb2 cr0 cr1 fr0 fr1; obtain ⟨ca0, ca1, ca2, cb0, cb1, cb2, cr0, cr1, fr0, fr1⟩ := HS2.out.cells))
 refine bodyPost_ret (results_ct rfl _ _ (w.heap.size + 1 + 1) 41 #[.int .i64 0, .int .i64 0] (0, 0) _ rfl (by refine blk_put (cs := #[.int .i64 0, .int .i64 0]) ?_ 1 _ rfl; refine blk_put (cs := #[.int .i64 0, .int .i64 0]) ?_ 0 _ rfl; exact HS2.out.2.2.1) Tryd.underlying41 rfl (by kernel_rfl)) rfl ?_
 have HBX := HS2.out.2.2.2.1
 exact ⟨rfl, by repeat (first | exact HBX | refine below_set ?_ (by omega))⟩
set_option maxRecDepth 100000 in
set_option maxHeartbeats 4000000 in
theorem of_3_vb (k : Nat) (tol a0 a1 : Int) (a2 : ByteArray) (b0 b1 : Int) (b2 : ByteArray) (w : World) (hG : Gl w) (hva : Q.value_Valid.f k a0 a1 a2 = some true) (hvb : Q.value_Valid.f k b0 b1 b2 = some false) :
  Calls Tryd.prog 15 #[.int .i64 3, .int .i64 tol, .agg #[.int .i64 a0, .int .i64 a1, .string a2], .agg #[.int .i64 b0, .int .i64 b1, .string b2]] w fun e w' => e = .returned (.tuple #[.agg #[.int .i64 0, .int .i64 0], .int .i64 1]) ∧ Below w.heap.size w w' := by
 have HS0 := Aside0.mk (OfS.start (a0 := a0) (a1 := a1) (a2 := a2) (b0 := b0) (b1 := b1) (b2 := b2) hG)
 clear hG
 have hu := Tryd.underlying41
 have hu2 := Tryd.underlying48
 have hnn := eq_nil_nil
 have hfn := eq_func_nil
 have hev := eq_val
 go_enter Tryd.func15, Tryd.ntmps15
 go_wp2_with (first | (go_at_call 23; with_reducible refine (texts_calls _).mono ?_; rintro e w1 ⟨b, rfl, hb1, hlk⟩; have hl1 := hlk 3 (by decide); rw [show ofF 3 = .func (.func 38) #[] #[] from rfl] at hl1; clear hlk; have HS1 := Aside0.mk (HS0.out.below hb1); clear hb1; obtain ⟨ca0, ca1, ca2, cb0, cb1, cb2, cr0, cr1, fr0, fr1⟩ := HS1.out.cells) | (go_at_call 24; with_reducible refine (Q.value_Valid.calls k a0 a1 a2 _ _ hva).mono ?_; rintro e w2 ⟨rfl, hb2⟩; have HS2 := Aside0.mk (HS1.out.below hb2); clear hb2; clear ca0 ca1 ca2 cb0 cb1 cb2 cr0 cr1 fr0 fr1; obtain ⟨ca0, ca1, ca2, cb0, cb1, cb2, cr0, cr1, fr0, fr1⟩ := HS2.out.cells) | (go_at_call 24; with_reducible refine (Q.value_Valid.calls k b0 b1 b2 _ _ hvb).mono ?_; rintro e w3 ⟨rfl, hb3⟩; have HS3 := Aside0.mk (HS2.out.below hb3); clear hb3; clear ca0 ca1 ca2 cb0 cb1 cb2 cr0 cr1 fr0 fr1; obtain ⟨ca0, ca1, ca2, cb0, cb1, cb2, cr0, cr1, fr0, fr1⟩ := HS3.out.cells))
 refine bodyPost_ret (results_ct rfl _ _ (w.heap.size + 1 + 1) 41 #[.int .i64 0, .int .i64 0] (0, 0) _ rfl (by refine blk_put (cs := #[.int .i64 0, .int .i64 0]) ?_ 1 _ rfl; refine blk_put (cs := #[.int .i64 0, .int .i64 0]) ?_ 0 _ rfl; exact HS3.out.2.2.1) Tryd.underlying41 rfl (by kernel_rfl)) rfl ?_
 have HBX := HS3.out.2.2.2.1
 exact ⟨rfl, by repeat (first | exact HBX | refine below_set ?_ (by omega))⟩
set_option maxRecDepth 100000 in
set_option maxHeartbeats 4000000 in
theorem of_3_na (k : Nat) (tol a0 a1 : Int) (a2 : ByteArray) (b0 b1 : Int) (b2 : ByteArray) (w : World) (hG : Gl w) (hva : Q.value_Valid.f k a0 a1 a2 = some true) (hvb : Q.value_Valid.f k b0 b1 b2 = some true) (ha : (a0 == 0) = true) :
  Calls Tryd.prog 15 #[.int .i64 3, .int .i64 tol, .agg #[.int .i64 a0, .int .i64 a1, .string a2], .agg #[.int .i64 b0, .int .i64 b1, .string b2]] w fun e w' => e = .returned (.tuple #[.agg #[.int .i64 0, .int .i64 1], .int .i64 0]) ∧ Below w.heap.size w w' := by
 have HS0 := Aside0.mk (OfS.start (a0 := a0) (a1 := a1) (a2 := a2) (b0 := b0) (b1 := b1) (b2 := b2) hG)
 clear hG
 have hu := Tryd.underlying41
 have hu2 := Tryd.underlying48
 have hnn := eq_nil_nil
 have hfn := eq_func_nil
 have hev := eq_val
 go_enter Tryd.func15, Tryd.ntmps15
 go_wp2_with (first | (go_at_call 23; with_reducible refine (texts_calls _).mono ?_; rintro e w1 ⟨b, rfl, hb1, hlk⟩; have hl1 := hlk 3 (by decide); rw [show ofF 3 = .func (.func 38) #[] #[] from rfl] at hl1; clear hlk; have HS1 := Aside0.mk (HS0.out.below hb1); clear hb1; obtain ⟨ca0, ca1, ca2, cb0, cb1, cb2, cr0, cr1, fr0, fr1⟩ := HS1.out.cells) | (go_at_call 24; with_reducible refine (Q.value_Valid.calls k a0 a1 a2 _ _ hva).mono ?_; rintro e w2 ⟨rfl, hb2⟩; have HS2 := Aside0.mk (HS1.out.below hb2); clear hb2; clear ca0 ca1 ca2 cb0 cb1 cb2 cr0 cr1 fr0 fr1; obtain ⟨ca0, ca1, ca2, cb0, cb1, cb2, cr0, cr1, fr0, fr1⟩ := HS2.out.cells) | (go_at_call 24; with_reducible refine (Q.value_Valid.calls k b0 b1 b2 _ _ hvb).mono ?_; rintro e w3 ⟨rfl, hb3⟩; have HS3 := Aside0.mk (HS2.out.below hb3); clear hb3; clear ca0 ca1 ca2 cb0 cb1 cb2 cr0 cr1 fr0 fr1; obtain ⟨ca0, ca1, ca2, cb0, cb1, cb2, cr0, cr1, fr0, fr1⟩ := HS3.out.cells) | ((with_reducible refine gate_op (op := .load 41 (.global 0)) rfl ?_); refine gl0_event rfl rfl rfl ?hGl ?_; (case hGl => exact HS3.out.2.2.2.2)))
 refine bodyPost_ret (results_ct rfl _ _ (w.heap.size + 1 + 1) 41 #[.int .i64 0, .int .i64 1] (0, 0) _ rfl (by refine blk_put (cs := #[.int .i64 0, .int .i64 0]) ?_ 1 _ rfl; refine blk_put (cs := #[.int .i64 0, .int .i64 0]) ?_ 0 _ rfl; exact HS3.out.2.2.1) Tryd.underlying41 rfl (by kernel_rfl)) rfl ?_
 have HBX := HS3.out.2.2.2.1
 exact ⟨rfl, by repeat (first | exact HBX | refine below_set ?_ (by omega))⟩
set_option maxRecDepth 100000 in
set_option maxHeartbeats 4000000 in
theorem of_3_nb (k : Nat) (tol a0 a1 : Int) (a2 : ByteArray) (b0 b1 : Int) (b2 : ByteArray) (w : World) (hG : Gl w) (hva : Q.value_Valid.f k a0 a1 a2 = some true) (hvb : Q.value_Valid.f k b0 b1 b2 = some true) (ha : (a0 == 0) = false) (hb : (b0 == 0) = true) :
  Calls Tryd.prog 15 #[.int .i64 3, .int .i64 tol, .agg #[.int .i64 a0, .int .i64 a1, .string a2], .agg #[.int .i64 b0, .int .i64 b1, .string b2]] w fun e w' => e = .returned (.tuple #[.agg #[.int .i64 0, .int .i64 1], .int .i64 0]) ∧ Below w.heap.size w w' := by
 have HS0 := Aside0.mk (OfS.start (a0 := a0) (a1 := a1) (a2 := a2) (b0 := b0) (b1 := b1) (b2 := b2) hG)
 clear hG
 have hu := Tryd.underlying41
 have hu2 := Tryd.underlying48
 have hnn := eq_nil_nil
 have hfn := eq_func_nil
 have hev := eq_val
 go_enter Tryd.func15, Tryd.ntmps15
 go_wp2_with (first | (go_at_call 23; with_reducible refine (texts_calls _).mono ?_; rintro e w1 ⟨b, rfl, hb1, hlk⟩; have hl1 := hlk 3 (by decide); rw [show ofF 3 = .func (.func 38) #[] #[] from rfl] at hl1; clear hlk; have HS1 := Aside0.mk (HS0.out.below hb1); clear hb1; obtain ⟨ca0, ca1, ca2, cb0, cb1, cb2, cr0, cr1, fr0, fr1⟩ := HS1.out.cells) | (go_at_call 24; with_reducible refine (Q.value_Valid.calls k a0 a1 a2 _ _ hva).mono ?_; rintro e w2 ⟨rfl, hb2⟩; have HS2 := Aside0.mk (HS1.out.below hb2); clear hb2; clear ca0 ca1 ca2 cb0 cb1 cb2 cr0 cr1 fr0 fr1; obtain ⟨ca0, ca1, ca2, cb0, cb1, cb2, cr0, cr1, fr0, fr1⟩ := HS2.out.cells) | (go_at_call 24; with_reducible refine (Q.value_Valid.calls k b0 b1 b2 _ _ hvb).mono ?_; rintro e w3 ⟨rfl, hb3⟩; have HS3 := Aside0.mk (HS2.out.below hb3); clear hb3; clear ca0 ca1 ca2 cb0 cb1 cb2 cr0 cr1 fr0 fr1; obtain ⟨ca0, ca1, ca2, cb0, cb1, cb2, cr0, cr1, fr0, fr1⟩ := HS3.out.cells) | ((with_reducible refine gate_op (op := .load 41 (.global 0)) rfl ?_); refine gl0_event rfl rfl rfl ?hGl ?_; (case hGl => exact HS3.out.2.2.2.2)))
 refine bodyPost_ret (results_ct rfl _ _ (w.heap.size + 1 + 1) 41 #[.int .i64 0, .int .i64 1] (0, 0) _ rfl (by refine blk_put (cs := #[.int .i64 0, .int .i64 0]) ?_ 1 _ rfl; refine blk_put (cs := #[.int .i64 0, .int .i64 0]) ?_ 0 _ rfl; exact HS3.out.2.2.1) Tryd.underlying41 rfl (by kernel_rfl)) rfl ?_
 have HBX := HS3.out.2.2.2.1
 exact ⟨rfl, by repeat (first | exact HBX | refine below_set ?_ (by omega))⟩
set_option maxRecDepth 100000 in
set_option maxHeartbeats 4000000 in
theorem of_3_kd (k : Nat) (tol a0 a1 : Int) (a2 : ByteArray) (b0 b1 : Int) (b2 : ByteArray) (w : World) (hG : Gl w) (hva : Q.value_Valid.f k a0 a1 a2 = some true) (hvb : Q.value_Valid.f k b0 b1 b2 = some true) (ha : (a0 == 0) = false) (hb : (b0 == 0) = false) (e0 : (a0 != b0) = true) :
  Calls Tryd.prog 15 #[.int .i64 3, .int .i64 tol, .agg #[.int .i64 a0, .int .i64 a1, .string a2], .agg #[.int .i64 b0, .int .i64 b1, .string b2]] w fun e w' => e = .returned (.tuple #[.agg #[.int .i64 0, .int .i64 0], .int .i64 10]) ∧ Below w.heap.size w w' := by
 have HS0 := Aside0.mk (OfS.start (a0 := a0) (a1 := a1) (a2 := a2) (b0 := b0) (b1 := b1) (b2 := b2) hG)
 clear hG
 have hu := Tryd.underlying41
 have hu2 := Tryd.underlying48
 have hnn := eq_nil_nil
 have hfn := eq_func_nil
 have hev := eq_val
 go_enter Tryd.func15, Tryd.ntmps15
 go_wp2_with (first | (go_at_call 23; with_reducible refine (texts_calls _).mono ?_; rintro e w1 ⟨b, rfl, hb1, hlk⟩; have hl1 := hlk 3 (by decide); rw [show ofF 3 = .func (.func 38) #[] #[] from rfl] at hl1; clear hlk; have HS1 := Aside0.mk (HS0.out.below hb1); clear hb1; obtain ⟨ca0, ca1, ca2, cb0, cb1, cb2, cr0, cr1, fr0, fr1⟩ := HS1.out.cells) | (go_at_call 24; with_reducible refine (Q.value_Valid.calls k a0 a1 a2 _ _ hva).mono ?_; rintro e w2 ⟨rfl, hb2⟩; have HS2 := Aside0.mk (HS1.out.below hb2); clear hb2; clear ca0 ca1 ca2 cb0 cb1 cb2 cr0 cr1 fr0 fr1; obtain ⟨ca0, ca1, ca2, cb0, cb1, cb2, cr0, cr1, fr0, fr1⟩ := HS2.out.cells) | (go_at_call 24; with_reducible refine (Q.value_Valid.calls k b0 b1 b2 _ _ hvb).mono ?_; rintro e w3 ⟨rfl, hb3⟩; have HS3 := Aside0.mk (HS2.out.below hb3); clear hb3; clear ca0 ca1 ca2 cb0 cb1 cb2 cr0 cr1 fr0 fr1; obtain ⟨ca0, ca1, ca2, cb0, cb1, cb2, cr0, cr1, fr0, fr1⟩ := HS3.out.cells))
 refine bodyPost_ret (results_ct rfl _ _ (w.heap.size + 1 + 1) 41 #[.int .i64 0, .int .i64 0] (0, 0) _ rfl (by refine blk_put (cs := #[.int .i64 0, .int .i64 0]) ?_ 1 _ rfl; refine blk_put (cs := #[.int .i64 0, .int .i64 0]) ?_ 0 _ rfl; exact HS3.out.2.2.1) Tryd.underlying41 rfl (by kernel_rfl)) rfl ?_
 have HBX := HS3.out.2.2.2.1
 exact ⟨rfl, by repeat (first | exact HBX | refine below_set ?_ (by omega))⟩
set_option maxRecDepth 100000 in
set_option maxHeartbeats 4000000 in
theorem of_3_ty (k : Nat) (tol a0 a1 : Int) (a2 : ByteArray) (b0 b1 : Int) (b2 : ByteArray) (w : World) (hG : Gl w) (hva : Q.value_Valid.f k a0 a1 a2 = some true) (hvb : Q.value_Valid.f k b0 b1 b2 = some true) (ha : (a0 == 0) = false) (hb : (b0 == 0) = false) (e0 : (a0 != b0) = false) (e1 : (a0 != 1) = true) :
  Calls Tryd.prog 15 #[.int .i64 3, .int .i64 tol, .agg #[.int .i64 a0, .int .i64 a1, .string a2], .agg #[.int .i64 b0, .int .i64 b1, .string b2]] w fun e w' => e = .returned (.tuple #[.agg #[.int .i64 0, .int .i64 0], .int .i64 10]) ∧ Below w.heap.size w w' := by
 have HS0 := Aside0.mk (OfS.start (a0 := a0) (a1 := a1) (a2 := a2) (b0 := b0) (b1 := b1) (b2 := b2) hG)
 clear hG
 have hu := Tryd.underlying41
 have hu2 := Tryd.underlying48
 have hnn := eq_nil_nil
 have hfn := eq_func_nil
 have hev := eq_val
 go_enter Tryd.func15, Tryd.ntmps15
 go_wp2_with (first | (go_at_call 23; with_reducible refine (texts_calls _).mono ?_; rintro e w1 ⟨b, rfl, hb1, hlk⟩; have hl1 := hlk 3 (by decide); rw [show ofF 3 = .func (.func 38) #[] #[] from rfl] at hl1; clear hlk; have HS1 := Aside0.mk (HS0.out.below hb1); clear hb1; obtain ⟨ca0, ca1, ca2, cb0, cb1, cb2, cr0, cr1, fr0, fr1⟩ := HS1.out.cells) | (go_at_call 24; with_reducible refine (Q.value_Valid.calls k a0 a1 a2 _ _ hva).mono ?_; rintro e w2 ⟨rfl, hb2⟩; have HS2 := Aside0.mk (HS1.out.below hb2); clear hb2; clear ca0 ca1 ca2 cb0 cb1 cb2 cr0 cr1 fr0 fr1; obtain ⟨ca0, ca1, ca2, cb0, cb1, cb2, cr0, cr1, fr0, fr1⟩ := HS2.out.cells) | (go_at_call 24; with_reducible refine (Q.value_Valid.calls k b0 b1 b2 _ _ hvb).mono ?_; rintro e w3 ⟨rfl, hb3⟩; have HS3 := Aside0.mk (HS2.out.below hb3); clear hb3; clear ca0 ca1 ca2 cb0 cb1 cb2 cr0 cr1 fr0 fr1; obtain ⟨ca0, ca1, ca2, cb0, cb1, cb2, cr0, cr1, fr0, fr1⟩ := HS3.out.cells))
 refine bodyPost_ret (results_ct rfl _ _ (w.heap.size + 1 + 1) 41 #[.int .i64 0, .int .i64 0] (0, 0) _ rfl (by refine blk_put (cs := #[.int .i64 0, .int .i64 0]) ?_ 1 _ rfl; refine blk_put (cs := #[.int .i64 0, .int .i64 0]) ?_ 0 _ rfl; exact HS3.out.2.2.1) Tryd.underlying41 rfl (by kernel_rfl)) rfl ?_
 have HBX := HS3.out.2.2.2.1
 exact ⟨rfl, by repeat (first | exact HBX | refine below_set ?_ (by omega))⟩
set_option maxRecDepth 100000 in
set_option maxHeartbeats 4000000 in
theorem of_3_c (k : Nat) (tol a0 a1 : Int) (a2 : ByteArray) (b0 b1 : Int) (b2 : ByteArray) (w : World) (hG : Gl w) (hva : Q.value_Valid.f k a0 a1 a2 = some true) (hvb : Q.value_Valid.f k b0 b1 b2 = some true) (ha : (a0 == 0) = false) (hb : (b0 == 0) = false) (e0 : (a0 != b0) = false) (e1 : (a0 != 1) = false) (r1 r2 : Int) (hN : CL.measure_texts_2.f k a2 b2 = some (r1, r2)) :
  Calls Tryd.prog 15 #[.int .i64 3, .int .i64 tol, .agg #[.int .i64 a0, .int .i64 a1, .string a2], .agg #[.int .i64 b0, .int .i64 b1, .string b2]] w fun e w' => e = .returned (.tuple #[.agg #[.int .i64 r1, .int .i64 r2], .int .i64 0]) ∧ Below w.heap.size w w' := by
 have HS0 := Aside0.mk (OfS.start (a0 := a0) (a1 := a1) (a2 := a2) (b0 := b0) (b1 := b1) (b2 := b2) hG)
 clear hG
 have hu := Tryd.underlying41
 have hu2 := Tryd.underlying48
 have hnn := eq_nil_nil
 have hfn := eq_func_nil
 have hev := eq_val
 go_enter Tryd.func15, Tryd.ntmps15
 go_wp2_with (first | (go_at_call 23; with_reducible refine (texts_calls _).mono ?_; rintro e w1 ⟨b, rfl, hb1, hlk⟩; have hl1 := hlk 3 (by decide); rw [show ofF 3 = .func (.func 38) #[] #[] from rfl] at hl1; clear hlk; have HS1 := Aside0.mk (HS0.out.below hb1); clear hb1; obtain ⟨ca0, ca1, ca2, cb0, cb1, cb2, cr0, cr1, fr0, fr1⟩ := HS1.out.cells) | (go_at_call 24; with_reducible refine (Q.value_Valid.calls k a0 a1 a2 _ _ hva).mono ?_; rintro e w2 ⟨rfl, hb2⟩; have HS2 := Aside0.mk (HS1.out.below hb2); clear hb2; clear ca0 ca1 ca2 cb0 cb1 cb2 cr0 cr1 fr0 fr1; obtain ⟨ca0, ca1, ca2, cb0, cb1, cb2, cr0, cr1, fr0, fr1⟩ := HS2.out.cells) | (go_at_call 24; with_reducible refine (Q.value_Valid.calls k b0 b1 b2 _ _ hvb).mono ?_; rintro e w3 ⟨rfl, hb3⟩; have HS3 := Aside0.mk (HS2.out.below hb3); clear hb3; clear ca0 ca1 ca2 cb0 cb1 cb2 cr0 cr1 fr0 fr1; obtain ⟨ca0, ca1, ca2, cb0, cb1, cb2, cr0, cr1, fr0, fr1⟩ := HS3.out.cells) | (go_at_call 38; with_reducible refine (CL.measure_texts_2.calls k a2 b2 r1 r2 _ HS3.out.gl hN).mono ?_; rintro e w4 ⟨rfl, hb4⟩; have HS4 := Aside0.mk (HS3.out.below hb4); clear hb4; clear ca0 ca1 ca2 cb0 cb1 cb2 cr0 cr1 fr0 fr1; obtain ⟨ca0, ca1, ca2, cb0, cb1, cb2, cr0, cr1, fr0, fr1⟩ := HS4.out.cells))
 refine bodyPost_ret (results_ct rfl _ _ (w.heap.size + 1 + 1) 41 #[.int .i64 r1, .int .i64 r2] (0, 0) _ rfl (by refine blk_put (cs := #[.int .i64 r1, .int .i64 0]) ?_ 1 _ rfl; refine blk_put (cs := #[.int .i64 0, .int .i64 0]) ?_ 0 _ rfl; exact HS4.out.2.2.1) Tryd.underlying41 rfl (by kernel_rfl)) rfl ?_
 have HBX := HS4.out.2.2.2.1
 exact ⟨rfl, by repeat (first | exact HBX | refine below_set ?_ (by omega))⟩
set_option maxRecDepth 100000 in
set_option maxHeartbeats 4000000 in
theorem of_4_va (k : Nat) (tol a0 a1 : Int) (a2 : ByteArray) (b0 b1 : Int) (b2 : ByteArray) (w : World) (hG : Gl w) (hva : Q.value_Valid.f k a0 a1 a2 = some false) :
  Calls Tryd.prog 15 #[.int .i64 4, .int .i64 tol, .agg #[.int .i64 a0, .int .i64 a1, .string a2], .agg #[.int .i64 b0, .int .i64 b1, .string b2]] w fun e w' => e = .returned (.tuple #[.agg #[.int .i64 0, .int .i64 0], .int .i64 1]) ∧ Below w.heap.size w w' := by
 have HS0 := Aside0.mk (OfS.start (a0 := a0) (a1 := a1) (a2 := a2) (b0 := b0) (b1 := b1) (b2 := b2) hG)
 clear hG
 have hu := Tryd.underlying41
 have hu2 := Tryd.underlying48
 have hnn := eq_nil_nil
 have hfn := eq_func_nil
 have hev := eq_val
 go_enter Tryd.func15, Tryd.ntmps15
 go_wp2_with (first | (go_at_call 23; with_reducible refine (texts_calls _).mono ?_; rintro e w1 ⟨b, rfl, hb1, hlk⟩; have hl1 := hlk 4 (by decide); rw [show ofF 4 = .func (.func 41) #[] #[] from rfl] at hl1; clear hlk; have HS1 := Aside0.mk (HS0.out.below hb1); clear hb1; obtain ⟨ca0, ca1, ca2, cb0, cb1, cb2, cr0, cr1, fr0, fr1⟩ := HS1.out.cells) | (go_at_call 24; with_reducible refine (Q.value_Valid.calls k a0 a1 a2 _ _ hva).mono ?_; rintro e w2 ⟨rfl, hb2⟩; have HS2 := Aside0.mk (HS1.out.below hb2); clear hb2; clear ca0 ca1 ca2 cb0 cb1 cb2 cr0 cr1 fr0 fr1; obtain ⟨ca0, ca1, ca2, cb0, cb1, cb2, cr0, cr1, fr0, fr1⟩ := HS2.out.cells))
 refine bodyPost_ret (results_ct rfl _ _ (w.heap.size + 1 + 1) 41 #[.int .i64 0, .int .i64 0] (0, 0) _ rfl (by refine blk_put (cs := #[.int .i64 0, .int .i64 0]) ?_ 1 _ rfl; refine blk_put (cs := #[.int .i64 0, .int .i64 0]) ?_ 0 _ rfl; exact HS2.out.2.2.1) Tryd.underlying41 rfl (by kernel_rfl)) rfl ?_
 have HBX := HS2.out.2.2.2.1
 exact ⟨rfl, by repeat (first | exact HBX | refine below_set ?_ (by omega))⟩
set_option maxRecDepth 100000 in
set_option maxHeartbeats 4000000 in
theorem of_4_vb (k : Nat) (tol a0 a1 : Int) (a2 : ByteArray) (b0 b1 : Int) (b2 : ByteArray) (w : World) (hG : Gl w) (hva : Q.value_Valid.f k a0 a1 a2 = some true) (hvb : Q.value_Valid.f k b0 b1 b2 = some false) :
  Calls Tryd.prog 15 #[.int .i64 4, .int .i64 tol, .agg #[.int .i64 a0, .int .i64 a1, .string a2], .agg #[.int .i64 b0, .int .i64 b1, .string b2]] w fun e w' => e = .returned (.tuple #[.agg #[.int .i64 0, .int .i64 0], .int .i64 1]) ∧ Below w.heap.size w w' := by
 have HS0 := Aside0.mk (OfS.start (a0 := a0) (a1 := a1) (a2 := a2) (b0 := b0) (b1 := b1) (b2 := b2) hG)
 clear hG
 have hu := Tryd.underlying41
 have hu2 := Tryd.underlying48
 have hnn := eq_nil_nil
 have hfn := eq_func_nil
 have hev := eq_val
 go_enter Tryd.func15, Tryd.ntmps15
 go_wp2_with (first | (go_at_call 23; with_reducible refine (texts_calls _).mono ?_; rintro e w1 ⟨b, rfl, hb1, hlk⟩; have hl1 := hlk 4 (by decide); rw [show ofF 4 = .func (.func 41) #[] #[] from rfl] at hl1; clear hlk; have HS1 := Aside0.mk (HS0.out.below hb1); clear hb1; obtain ⟨ca0, ca1, ca2, cb0, cb1, cb2, cr0, cr1, fr0, fr1⟩ := HS1.out.cells) | (go_at_call 24; with_reducible refine (Q.value_Valid.calls k a0 a1 a2 _ _ hva).mono ?_; rintro e w2 ⟨rfl, hb2⟩; have HS2 := Aside0.mk (HS1.out.below hb2); clear hb2; clear ca0 ca1 ca2 cb0 cb1 cb2 cr0 cr1 fr0 fr1; obtain ⟨ca0, ca1, ca2, cb0, cb1, cb2, cr0, cr1, fr0, fr1⟩ := HS2.out.cells) | (go_at_call 24; with_reducible refine (Q.value_Valid.calls k b0 b1 b2 _ _ hvb).mono ?_; rintro e w3 ⟨rfl, hb3⟩; have HS3 := Aside0.mk (HS2.out.below hb3); clear hb3; clear ca0 ca1 ca2 cb0 cb1 cb2 cr0 cr1 fr0 fr1; obtain ⟨ca0, ca1, ca2, cb0, cb1, cb2, cr0, cr1, fr0, fr1⟩ := HS3.out.cells))
 refine bodyPost_ret (results_ct rfl _ _ (w.heap.size + 1 + 1) 41 #[.int .i64 0, .int .i64 0] (0, 0) _ rfl (by refine blk_put (cs := #[.int .i64 0, .int .i64 0]) ?_ 1 _ rfl; refine blk_put (cs := #[.int .i64 0, .int .i64 0]) ?_ 0 _ rfl; exact HS3.out.2.2.1) Tryd.underlying41 rfl (by kernel_rfl)) rfl ?_
 have HBX := HS3.out.2.2.2.1
 exact ⟨rfl, by repeat (first | exact HBX | refine below_set ?_ (by omega))⟩
set_option maxRecDepth 100000 in
set_option maxHeartbeats 4000000 in
theorem of_4_na (k : Nat) (tol a0 a1 : Int) (a2 : ByteArray) (b0 b1 : Int) (b2 : ByteArray) (w : World) (hG : Gl w) (hva : Q.value_Valid.f k a0 a1 a2 = some true) (hvb : Q.value_Valid.f k b0 b1 b2 = some true) (ha : (a0 == 0) = true) :
  Calls Tryd.prog 15 #[.int .i64 4, .int .i64 tol, .agg #[.int .i64 a0, .int .i64 a1, .string a2], .agg #[.int .i64 b0, .int .i64 b1, .string b2]] w fun e w' => e = .returned (.tuple #[.agg #[.int .i64 0, .int .i64 1], .int .i64 0]) ∧ Below w.heap.size w w' := by
 have HS0 := Aside0.mk (OfS.start (a0 := a0) (a1 := a1) (a2 := a2) (b0 := b0) (b1 := b1) (b2 := b2) hG)
 clear hG
 have hu := Tryd.underlying41
 have hu2 := Tryd.underlying48
 have hnn := eq_nil_nil
 have hfn := eq_func_nil
 have hev := eq_val
 go_enter Tryd.func15, Tryd.ntmps15
 go_wp2_with (first | (go_at_call 23; with_reducible refine (texts_calls _).mono ?_; rintro e w1 ⟨b, rfl, hb1, hlk⟩; have hl1 := hlk 4 (by decide); rw [show ofF 4 = .func (.func 41) #[] #[] from rfl] at hl1; clear hlk; have HS1 := Aside0.mk (HS0.out.below hb1); clear hb1; obtain ⟨ca0, ca1, ca2, cb0, cb1, cb2, cr0, cr1, fr0, fr1⟩ := HS1.out.cells) | (go_at_call 24; with_reducible refine (Q.value_Valid.calls k a0 a1 a2 _ _ hva).mono ?_; rintro e w2 ⟨rfl, hb2⟩; have HS2 := Aside0.mk (HS1.out.below hb2); clear hb2; clear ca0 ca1 ca2 cb0 cb1 cb2 cr0 cr1 fr0 fr1; obtain ⟨ca0, ca1, ca2, cb0, cb1, cb2, cr0, cr1, fr0, fr1⟩ := HS2.out.cells) | (go_at_call 24; with_reducible refine (Q.value_Valid.calls k b0 b1 b2 _ _ hvb).mono ?_; rintro e w3 ⟨rfl, hb3⟩; have HS3 := Aside0.mk (HS2.out.below hb3); clear hb3; clear ca0 ca1 ca2 cb0 cb1 cb2 cr0 cr1 fr0 fr1; obtain ⟨ca0, ca1, ca2, cb0, cb1, cb2, cr0, cr1, fr0, fr1⟩ := HS3.out.cells) | ((with_reducible refine gate_op (op := .load 41 (.global 0)) rfl ?_); refine gl0_event rfl rfl rfl ?hGl ?_; (case hGl => exact HS3.out.2.2.2.2)))
 refine bodyPost_ret (results_ct rfl _ _ (w.heap.size + 1 + 1) 41 #[.int .i64 0, .int .i64 1] (0, 0) _ rfl (by refine blk_put (cs := #[.int .i64 0, .int .i64 0]) ?_ 1 _ rfl; refine blk_put (cs := #[.int .i64 0, .int .i64 0]) ?_ 0 _ rfl; exact HS3.out.2.2.1) Tryd.underlying41 rfl (by kernel_rfl)) rfl ?_
 have HBX := HS3.out.2.2.2.1
 exact ⟨rfl, by repeat (first | exact HBX | refine below_set ?_ (by omega))⟩
set_option maxRecDepth 100000 in
set_option maxHeartbeats 4000000 in
theorem of_4_nb (k : Nat) (tol a0 a1 : Int) (a2 : ByteArray) (b0 b1 : Int) (b2 : ByteArray) (w : World) (hG : Gl w) (hva : Q.value_Valid.f k a0 a1 a2 = some true) (hvb : Q.value_Valid.f k b0 b1 b2 = some true) (ha : (a0 == 0) = false) (hb : (b0 == 0) = true) :
  Calls Tryd.prog 15 #[.int .i64 4, .int .i64 tol, .agg #[.int .i64 a0, .int .i64 a1, .string a2], .agg #[.int .i64 b0, .int .i64 b1, .string b2]] w fun e w' => e = .returned (.tuple #[.agg #[.int .i64 0, .int .i64 1], .int .i64 0]) ∧ Below w.heap.size w w' := by
 have HS0 := Aside0.mk (OfS.start (a0 := a0) (a1 := a1) (a2 := a2) (b0 := b0) (b1 := b1) (b2 := b2) hG)
 clear hG
 have hu := Tryd.underlying41
 have hu2 := Tryd.underlying48
 have hnn := eq_nil_nil
 have hfn := eq_func_nil
 have hev := eq_val
 go_enter Tryd.func15, Tryd.ntmps15
 go_wp2_with (first | (go_at_call 23; with_reducible refine (texts_calls _).mono ?_; rintro e w1 ⟨b, rfl, hb1, hlk⟩; have hl1 := hlk 4 (by decide); rw [show ofF 4 = .func (.func 41) #[] #[] from rfl] at hl1; clear hlk; have HS1 := Aside0.mk (HS0.out.below hb1); clear hb1; obtain ⟨ca0, ca1, ca2, cb0, cb1, cb2, cr0, cr1, fr0, fr1⟩ := HS1.out.cells) | (go_at_call 24; with_reducible refine (Q.value_Valid.calls k a0 a1 a2 _ _ hva).mono ?_; rintro e w2 ⟨rfl, hb2⟩; have HS2 := Aside0.mk (HS1.out.below hb2); clear hb2; clear ca0 ca1 ca2 cb0 cb1 cb2 cr0 cr1 fr0 fr1; obtain ⟨ca0, ca1, ca2, cb0, cb1, cb2, cr0, cr1, fr0, fr1⟩ := HS2.out.cells) | (go_at_call 24; with_reducible refine (Q.value_Valid.calls k b0 b1 b2 _ _ hvb).mono ?_; rintro e w3 ⟨rfl, hb3⟩; have HS3 := Aside0.mk (HS2.out.below hb3); clear hb3; clear ca0 ca1 ca2 cb0 cb1 cb2 cr0 cr1 fr0 fr1; obtain ⟨ca0, ca1, ca2, cb0, cb1, cb2, cr0, cr1, fr0, fr1⟩ := HS3.out.cells) | ((with_reducible refine gate_op (op := .load 41 (.global 0)) rfl ?_); refine gl0_event rfl rfl rfl ?hGl ?_; (case hGl => exact HS3.out.2.2.2.2)))
 refine bodyPost_ret (results_ct rfl _ _ (w.heap.size + 1 + 1) 41 #[.int .i64 0, .int .i64 1] (0, 0) _ rfl (by refine blk_put (cs := #[.int .i64 0, .int .i64 0]) ?_ 1 _ rfl; refine blk_put (cs := #[.int .i64 0, .int .i64 0]) ?_ 0 _ rfl; exact HS3.out.2.2.1) Tryd.underlying41 rfl (by kernel_rfl)) rfl ?_
 have HBX := HS3.out.2.2.2.1
 exact ⟨rfl, by repeat (first | exact HBX | refine below_set ?_ (by omega))⟩
set_option maxRecDepth 100000 in
set_option maxHeartbeats 4000000 in
theorem of_4_kd (k : Nat) (tol a0 a1 : Int) (a2 : ByteArray) (b0 b1 : Int) (b2 : ByteArray) (w : World) (hG : Gl w) (hva : Q.value_Valid.f k a0 a1 a2 = some true) (hvb : Q.value_Valid.f k b0 b1 b2 = some true) (ha : (a0 == 0) = false) (hb : (b0 == 0) = false) (e0 : (a0 != b0) = true) :
  Calls Tryd.prog 15 #[.int .i64 4, .int .i64 tol, .agg #[.int .i64 a0, .int .i64 a1, .string a2], .agg #[.int .i64 b0, .int .i64 b1, .string b2]] w fun e w' => e = .returned (.tuple #[.agg #[.int .i64 0, .int .i64 0], .int .i64 10]) ∧ Below w.heap.size w w' := by
 have HS0 := Aside0.mk (OfS.start (a0 := a0) (a1 := a1) (a2 := a2) (b0 := b0) (b1 := b1) (b2 := b2) hG)
 clear hG
 have hu := Tryd.underlying41
 have hu2 := Tryd.underlying48
 have hnn := eq_nil_nil
 have hfn := eq_func_nil
 have hev := eq_val
 go_enter Tryd.func15, Tryd.ntmps15
 go_wp2_with (first | (go_at_call 23; with_reducible refine (texts_calls _).mono ?_; rintro e w1 ⟨b, rfl, hb1, hlk⟩; have hl1 := hlk 4 (by decide); rw [show ofF 4 = .func (.func 41) #[] #[] from rfl] at hl1; clear hlk; have HS1 := Aside0.mk (HS0.out.below hb1); clear hb1; obtain ⟨ca0, ca1, ca2, cb0, cb1, cb2, cr0, cr1, fr0, fr1⟩ := HS1.out.cells) | (go_at_call 24; with_reducible refine (Q.value_Valid.calls k a0 a1 a2 _ _ hva).mono ?_; rintro e w2 ⟨rfl, hb2⟩; have HS2 := Aside0.mk (HS1.out.below hb2); clear hb2; clear ca0 ca1 ca2 cb0 cb1 cb2 cr0 cr1 fr0 fr1; obtain ⟨ca0, ca1, ca2, cb0, cb1, cb2, cr0, cr1, fr0, fr1⟩ := HS2.out.cells) | (go_at_call 24; with_reducible refine (Q.value_Valid.calls k b0 b1 b2 _ _ hvb).mono ?_; rintro e w3 ⟨rfl, hb3⟩; have HS3 := Aside0.mk (HS2.out.below hb3); clear hb3; clear ca0 ca1 ca2 cb0 cb1 cb2 cr0 cr1 fr0 fr1; obtain ⟨ca0, ca1, ca2, cb0, cb1, cb2, cr0, cr1, fr0, fr1⟩ := HS3.out.cells))
 refine bodyPost_ret (results_ct rfl _ _ (w.heap.size + 1 + 1) 41 #[.int .i64 0, .int .i64 0] (0, 0) _ rfl (by refine blk_put (cs := #[.int .i64 0, .int .i64 0]) ?_ 1 _ rfl; refine blk_put (cs := #[.int .i64 0, .int .i64 0]) ?_ 0 _ rfl; exact HS3.out.2.2.1) Tryd.underlying41 rfl (by kernel_rfl)) rfl ?_
 have HBX := HS3.out.2.2.2.1
 exact ⟨rfl, by repeat (first | exact HBX | refine below_set ?_ (by omega))⟩
set_option maxRecDepth 100000 in
set_option maxHeartbeats 4000000 in
theorem of_4_ty (k : Nat) (tol a0 a1 : Int) (a2 : ByteArray) (b0 b1 : Int) (b2 : ByteArray) (w : World) (hG : Gl w) (hva : Q.value_Valid.f k a0 a1 a2 = some true) (hvb : Q.value_Valid.f k b0 b1 b2 = some true) (ha : (a0 == 0) = false) (hb : (b0 == 0) = false) (e0 : (a0 != b0) = false) (e1 : (a0 != 1) = true) :
  Calls Tryd.prog 15 #[.int .i64 4, .int .i64 tol, .agg #[.int .i64 a0, .int .i64 a1, .string a2], .agg #[.int .i64 b0, .int .i64 b1, .string b2]] w fun e w' => e = .returned (.tuple #[.agg #[.int .i64 0, .int .i64 0], .int .i64 10]) ∧ Below w.heap.size w w' := by
 have HS0 := Aside0.mk (OfS.start (a0 := a0) (a1 := a1) (a2 := a2) (b0 := b0) (b1 := b1) (b2 := b2) hG)
 clear hG
 have hu := Tryd.underlying41
 have hu2 := Tryd.underlying48
 have hnn := eq_nil_nil
 have hfn := eq_func_nil
 have hev := eq_val
 go_enter Tryd.func15, Tryd.ntmps15
 go_wp2_with (first | (go_at_call 23; with_reducible refine (texts_calls _).mono ?_; rintro e w1 ⟨b, rfl, hb1, hlk⟩; have hl1 := hlk 4 (by decide); rw [show ofF 4 = .func (.func 41) #[] #[] from rfl] at hl1; clear hlk; have HS1 := Aside0.mk (HS0.out.below hb1); clear hb1; obtain ⟨ca0, ca1, ca2, cb0, cb1, cb2, cr0, cr1, fr0, fr1⟩ := HS1.out.cells) | (go_at_call 24; with_reducible refine (Q.value_Valid.calls k a0 a1 a2 _ _ hva).mono ?_; rintro e w2 ⟨rfl, hb2⟩; have HS2 := Aside0.mk (HS1.out.below hb2); clear hb2; clear ca0 ca1 ca2 cb0 cb1 cb2 cr0 cr1 fr0 fr1; obtain ⟨ca0, ca1, ca2, cb0, cb1, cb2, cr0, cr1, fr0, fr1⟩ := HS2.out.cells) | (go_at_call 24; with_reducible refine (Q.value_Valid.calls k b0 b1 b2 _ _ hvb).mono ?_; rintro e w3 ⟨rfl, hb3⟩; have HS3 := Aside0.mk (HS2.out.below hb3); clear hb3; clear ca0 ca1 ca2 cb0 cb1 cb2 cr0 cr1 fr0 fr1; obtain ⟨ca0, ca1, ca2, cb0, cb1, cb2, cr0, cr1, fr0, fr1⟩ := HS3.out.cells))
 refine bodyPost_ret (results_ct rfl _ _ (w.heap.size + 1 + 1) 41 #[.int .i64 0, .int .i64 0] (0, 0) _ rfl (by refine blk_put (cs := #[.int .i64 0, .int .i64 0]) ?_ 1 _ rfl; refine blk_put (cs := #[.int .i64 0, .int .i64 0]) ?_ 0 _ rfl; exact HS3.out.2.2.1) Tryd.underlying41 rfl (by kernel_rfl)) rfl ?_
 have HBX := HS3.out.2.2.2.1
 exact ⟨rfl, by repeat (first | exact HBX | refine below_set ?_ (by omega))⟩
set_option maxRecDepth 100000 in
set_option maxHeartbeats 4000000 in
theorem of_4_c (k : Nat) (tol a0 a1 : Int) (a2 : ByteArray) (b0 b1 : Int) (b2 : ByteArray) (w : World) (hG : Gl w) (hva : Q.value_Valid.f k a0 a1 a2 = some true) (hvb : Q.value_Valid.f k b0 b1 b2 = some true) (ha : (a0 == 0) = false) (hb : (b0 == 0) = false) (e0 : (a0 != b0) = false) (e1 : (a0 != 1) = false) (r1 r2 : Int) (hN : CL.measure_texts_3.f k a2 b2 = some (r1, r2)) :
  Calls Tryd.prog 15 #[.int .i64 4, .int .i64 tol, .agg #[.int .i64 a0, .int .i64 a1, .string a2], .agg #[.int .i64 b0, .int .i64 b1, .string b2]] w fun e w' => e = .returned (.tuple #[.agg #[.int .i64 r1, .int .i64 r2], .int .i64 0]) ∧ Below w.heap.size w w' := by
 have HS0 := Aside0.mk (OfS.start (a0 := a0) (a1 := a1) (a2 := a2) (b0 := b0) (b1 := b1) (b2 := b2) hG)
 clear hG
 have hu := Tryd.underlying41
 have hu2 := Tryd.underlying48
 have hnn := eq_nil_nil
 have hfn := eq_func_nil
 have hev := eq_val
 go_enter Tryd.func15, Tryd.ntmps15
 go_wp2_with (first | (go_at_call 23; with_reducible refine (texts_calls _).mono ?_; rintro e w1 ⟨b, rfl, hb1, hlk⟩; have hl1 := hlk 4 (by decide); rw [show ofF 4 = .func (.func 41) #[] #[] from rfl] at hl1; clear hlk; have HS1 := Aside0.mk (HS0.out.below hb1); clear hb1; obtain ⟨ca0, ca1, ca2, cb0, cb1, cb2, cr0, cr1, fr0, fr1⟩ := HS1.out.cells) | (go_at_call 24; with_reducible refine (Q.value_Valid.calls k a0 a1 a2 _ _ hva).mono ?_; rintro e w2 ⟨rfl, hb2⟩; have HS2 := Aside0.mk (HS1.out.below hb2); clear hb2; clear ca0 ca1 ca2 cb0 cb1 cb2 cr0 cr1 fr0 fr1; obtain ⟨ca0, ca1, ca2, cb0, cb1, cb2, cr0, cr1, fr0, fr1⟩ := HS2.out.cells) | (go_at_call 24; with_reducible refine (Q.value_Valid.calls k b0 b1 b2 _ _ hvb).mono ?_; rintro e w3 ⟨rfl, hb3⟩; have HS3 := Aside0.mk (HS2.out.below hb3); clear hb3; clear ca0 ca1 ca2 cb0 cb1 cb2 cr0 cr1 fr0 fr1; obtain ⟨ca0, ca1, ca2, cb0, cb1, cb2, cr0, cr1, fr0, fr1⟩ := HS3.out.cells) | (go_at_call 41; with_reducible refine (CL.measure_texts_3.calls k a2 b2 r1 r2 _ HS3.out.gl hN).mono ?_; rintro e w4 ⟨rfl, hb4⟩; have HS4 := Aside0.mk (HS3.out.below hb4); clear hb4; clear ca0 ca1 ca2 cb0 cb1 cb2 cr0 cr1 fr0 fr1; obtain ⟨ca0, ca1, ca2, cb0, cb1, cb2, cr0, cr1, fr0, fr1⟩ := HS4.out.cells))
 refine bodyPost_ret (results_ct rfl _ _ (w.heap.size + 1 + 1) 41 #[.int .i64 r1, .int .i64 r2] (0, 0) _ rfl (by refine blk_put (cs := #[.int .i64 r1, .int .i64 0]) ?_ 1 _ rfl; refine blk_put (cs := #[.int .i64 0, .int .i64 0]) ?_ 0 _ rfl; exact HS4.out.2.2.1) Tryd.underlying41 rfl (by kernel_rfl)) rfl ?_
 have HBX := HS4.out.2.2.2.1
 exact ⟨rfl, by repeat (first | exact HBX | refine below_set ?_ (by omega))⟩
set_option maxRecDepth 100000 in
set_option maxHeartbeats 4000000 in
theorem of_5_va (k : Nat) (tol a0 a1 : Int) (a2 : ByteArray) (b0 b1 : Int) (b2 : ByteArray) (w : World) (hG : Gl w) (hva : Q.value_Valid.f k a0 a1 a2 = some false) :
  Calls Tryd.prog 15 #[.int .i64 5, .int .i64 tol, .agg #[.int .i64 a0, .int .i64 a1, .string a2], .agg #[.int .i64 b0, .int .i64 b1, .string b2]] w fun e w' => e = .returned (.tuple #[.agg #[.int .i64 0, .int .i64 0], .int .i64 1]) ∧ Below w.heap.size w w' := by
 have HS0 := Aside0.mk (OfS.start (a0 := a0) (a1 := a1) (a2 := a2) (b0 := b0) (b1 := b1) (b2 := b2) hG)
 clear hG
 have hu := Tryd.underlying41
 have hu2 := Tryd.underlying48
 have hnn := eq_nil_nil
 have hfn := eq_func_nil
 have hev := eq_val
 go_enter Tryd.func15, Tryd.ntmps15
 go_wp2_with (first | (go_at_call 23; with_reducible refine (texts_calls _).mono ?_; rintro e w1 ⟨b, rfl, hb1, hlk⟩; have hl1 := hlk 5 (by decide); rw [show ofF 5 = .nilFunc from rfl] at hl1; clear hlk; have HS1 := Aside0.mk (HS0.out.below hb1); clear hb1; obtain ⟨ca0, ca1, ca2, cb0, cb1, cb2, cr0, cr1, fr0, fr1⟩ := HS1.out.cells) | (go_at_call 24; with_reducible refine (Q.value_Valid.calls k a0 a1 a2 _ _ hva).mono ?_; rintro e w2 ⟨rfl, hb2⟩; have HS2 := Aside0.mk (HS1.out.below hb2); clear hb2; clear ca0 ca1 ca2 cb0 cb1 cb2 cr0 cr1 fr0 fr1; obtain ⟨ca0, ca1, ca2, cb0, cb1, cb2, cr0, cr1, fr0, fr1⟩ := HS2.out.cells))
 refine bodyPost_ret (results_ct rfl _ _ (w.heap.size + 1 + 1) 41 #[.int .i64 0, .int .i64 0] (0, 0) _ rfl (by refine blk_put (cs := #[.int .i64 0, .int .i64 0]) ?_ 1 _ rfl; refine blk_put (cs := #[.int .i64 0, .int .i64 0]) ?_ 0 _ rfl; exact HS2.out.2.2.1) Tryd.underlying41 rfl (by kernel_rfl)) rfl ?_
 have HBX := HS2.out.2.2.2.1
 exact ⟨rfl, by repeat (first | exact HBX | refine below_set ?_ (by omega))⟩
set_option maxRecDepth 100000 in
set_option maxHeartbeats 4000000 in
theorem of_5_vb (k : Nat) (tol a0 a1 : Int) (a2 : ByteArray) (b0 b1 : Int) (b2 : ByteArray) (w : World) (hG : Gl w) (hva : Q.value_Valid.f k a0 a1 a2 = some true) (hvb : Q.value_Valid.f k b0 b1 b2 = some false) :
  Calls Tryd.prog 15 #[.int .i64 5, .int .i64 tol, .agg #[.int .i64 a0, .int .i64 a1, .string a2], .agg #[.int .i64 b0, .int .i64 b1, .string b2]] w fun e w' => e = .returned (.tuple #[.agg #[.int .i64 0, .int .i64 0], .int .i64 1]) ∧ Below w.heap.size w w' := by
 have HS0 := Aside0.mk (OfS.start (a0 := a0) (a1 := a1) (a2 := a2) (b0 := b0) (b1 := b1) (b2 := b2) hG)
 clear hG
 have hu := Tryd.underlying41
 have hu2 := Tryd.underlying48
 have hnn := eq_nil_nil
 have hfn := eq_func_nil
 have hev := eq_val
 go_enter Tryd.func15, Tryd.ntmps15
 go_wp2_with (first | (go_at_call 23; with_reducible refine (texts_calls _).mono ?_; rintro e w1 ⟨b, rfl, hb1, hlk⟩; have hl1 := hlk 5 (by decide); rw [show ofF 5 = .nilFunc from rfl] at hl1; clear hlk; have HS1 := Aside0.mk (HS0.out.below hb1); clear hb1; obtain ⟨ca0, ca1, ca2, cb0, cb1, cb2, cr0, cr1, fr0, fr1⟩ := HS1.out.cells) | (go_at_call 24; with_reducible refine (Q.value_Valid.calls k a0 a1 a2 _ _ hva).mono ?_; rintro e w2 ⟨rfl, hb2⟩; have HS2 := Aside0.mk (HS1.out.below hb2); clear hb2; clear ca0 ca1 ca2 cb0 cb1 cb2 cr0 cr1 fr0 fr1; obtain ⟨ca0, ca1, ca2, cb0, cb1, cb2, cr0, cr1, fr0, fr1⟩ := HS2.out.cells) | (go_at_call 24; with_reducible refine (Q.value_Valid.calls k b0 b1 b2 _ _ hvb).mono ?_; rintro e w3 ⟨rfl, hb3⟩; have HS3 := Aside0.mk (HS2.out.below hb3); clear hb3; clear ca0 ca1 ca2 cb0 cb1 cb2 cr0 cr1 fr0 fr1; obtain ⟨ca0, ca1, ca2, cb0, cb1, cb2, cr0, cr1, fr0, fr1⟩ := HS3.out.cells))
 refine bodyPost_ret (results_ct rfl _ _ (w.heap.size + 1 + 1) 41 #[.int .i64 0, .int .i64 0] (0, 0) _ rfl (by refine blk_put (cs := #[.int .i64 0, .int .i64 0]) ?_ 1 _ rfl; refine blk_put (cs := #[.int .i64 0, .int .i64 0]) ?_ 0 _ rfl; exact HS3.out.2.2.1) Tryd.underlying41 rfl (by kernel_rfl)) rfl ?_
 have HBX := HS3.out.2.2.2.1
 exact ⟨rfl, by repeat (first | exact HBX | refine below_set ?_ (by omega))⟩
set_option maxRecDepth 100000 in
set_option maxHeartbeats 4000000 in
theorem of_5_t0 (k : Nat) (tol a0 a1 : Int) (a2 : ByteArray) (b0 b1 : Int) (b2 : ByteArray) (w : World) (hG : Gl w) (hva : Q.value_Valid.f k a0 a1 a2 = some true) (hvb : Q.value_Valid.f k b0 b1 b2 = some true) (ht : decide (tol < 0) = true) :
  Calls Tryd.prog 15 #[.int .i64 5, .int .i64 tol, .agg #[.int .i64 a0, .int .i64 a1, .string a2], .agg #[.int .i64 b0, .int .i64 b1, .string b2]] w fun e w' => e = .returned (.tuple #[.agg #[.int .i64 0, .int .i64 0], .int .i64 1]) ∧ Below w.heap.size w w' := by
 have HS0 := Aside0.mk (OfS.start (a0 := a0) (a1 := a1) (a2 := a2) (b0 := b0) (b1 := b1) (b2 := b2) hG)
 clear hG
 have hu := Tryd.underlying41
 have hu2 := Tryd.underlying48
 have hnn := eq_nil_nil
 have hfn := eq_func_nil
 have hev := eq_val
 go_enter Tryd.func15, Tryd.ntmps15
 go_wp2_with (first | (go_at_call 23; with_reducible refine (texts_calls _).mono ?_; rintro e w1 ⟨b, rfl, hb1, hlk⟩; have hl1 := hlk 5 (by decide); rw [show ofF 5 = .nilFunc from rfl] at hl1; clear hlk; have HS1 := Aside0.mk (HS0.out.below hb1); clear hb1; obtain ⟨ca0, ca1, ca2, cb0, cb1, cb2, cr0, cr1, fr0, fr1⟩ := HS1.out.cells) | (go_at_call 24; with_reducible refine (Q.value_Valid.calls k a0 a1 a2 _ _ hva).mono ?_; rintro e w2 ⟨rfl, hb2⟩; have HS2 := Aside0.mk (HS1.out.below hb2); clear hb2; clear ca0 ca1 ca2 cb0 cb1 cb2 cr0 cr1 fr0 fr1; obtain ⟨ca0, ca1, ca2, cb0, cb1, cb2, cr0, cr1, fr0, fr1⟩ := HS2.out.cells) | (go_at_call 24; with_reducible refine (Q.value_Valid.calls k b0 b1 b2 _ _ hvb).mono ?_; rintro e w3 ⟨rfl, hb3⟩; have HS3 := Aside0.mk (HS2.out.below hb3); clear hb3; clear ca0 ca1 ca2 cb0 cb1 cb2 cr0 cr1 fr0 fr1; obtain ⟨ca0, ca1, ca2, cb0, cb1, cb2, cr0, cr1, fr0, fr1⟩ := HS3.out.cells))
 refine bodyPost_ret (results_ct rfl _ _ (w.heap.size + 1 + 1) 41 #[.int .i64 0, .int .i64 0] (0, 0) _ rfl (by refine blk_put (cs := #[.int .i64 0, .int .i64 0]) ?_ 1 _ rfl; refine blk_put (cs := #[.int .i64 0, .int .i64 0]) ?_ 0 _ rfl; exact HS3.out.2.2.1) Tryd.underlying41 rfl (by kernel_rfl)) rfl ?_
 have HBX := HS3.out.2.2.2.1
 exact ⟨rfl, by repeat (first | exact HBX | refine below_set ?_ (by omega))⟩
set_option maxRecDepth 100000 in
set_option maxHeartbeats 4000000 in
theorem of_5_t1 (k : Nat) (tol a0 a1 : Int) (a2 : ByteArray) (b0 b1 : Int) (b2 : ByteArray) (w : World) (hG : Gl w) (hva : Q.value_Valid.f k a0 a1 a2 = some true) (hvb : Q.value_Valid.f k b0 b1 b2 = some true) (ht : decide (tol < 0) = false) (ht1 : decide (1000000000 ≤ tol) = true) :
  Calls Tryd.prog 15 #[.int .i64 5, .int .i64 tol, .agg #[.int .i64 a0, .int .i64 a1, .string a2], .agg #[.int .i64 b0, .int .i64 b1, .string b2]] w fun e w' => e = .returned (.tuple #[.agg #[.int .i64 0, .int .i64 0], .int .i64 1]) ∧ Below w.heap.size w w' := by
 have HS0 := Aside0.mk (OfS.start (a0 := a0) (a1 := a1) (a2 := a2) (b0 := b0) (b1 := b1) (b2 := b2) hG)
 clear hG
 have hu := Tryd.underlying41
 have hu2 := Tryd.underlying48
 have hnn := eq_nil_nil
 have hfn := eq_func_nil
 have hev := eq_val
 go_enter Tryd.func15, Tryd.ntmps15
 go_wp2_with (first | (go_at_call 23; with_reducible refine (texts_calls _).mono ?_; rintro e w1 ⟨b, rfl, hb1, hlk⟩; have hl1 := hlk 5 (by decide); rw [show ofF 5 = .nilFunc from rfl] at hl1; clear hlk; have HS1 := Aside0.mk (HS0.out.below hb1); clear hb1; obtain ⟨ca0, ca1, ca2, cb0, cb1, cb2, cr0, cr1, fr0, fr1⟩ := HS1.out.cells) | (go_at_call 24; with_reducible refine (Q.value_Valid.calls k a0 a1 a2 _ _ hva).mono ?_; rintro e w2 ⟨rfl, hb2⟩; have HS2 := Aside0.mk (HS1.out.below hb2); clear hb2; clear ca0 ca1 ca2 cb0 cb1 cb2 cr0 cr1 fr0 fr1; obtain ⟨ca0, ca1, ca2, cb0, cb1, cb2, cr0, cr1, fr0, fr1⟩ := HS2.out.cells) | (go_at_call 24; with_reducible refine (Q.value_Valid.calls k b0 b1 b2 _ _ hvb).mono ?_; rintro e w3 ⟨rfl, hb3⟩; have HS3 := Aside0.mk (HS2.out.below hb3); clear hb3; clear ca0 ca1 ca2 cb0 cb1 cb2 cr0 cr1 fr0 fr1; obtain ⟨ca0, ca1, ca2, cb0, cb1, cb2, cr0, cr1, fr0, fr1⟩ := HS3.out.cells))
 refine bodyPost_ret (results_ct rfl _ _ (w.heap.size + 1 + 1) 41 #[.int .i64 0, .int .i64 0] (0, 0) _ rfl (by refine blk_put (cs := #[.int .i64 0, .int .i64 0]) ?_ 1 _ rfl; refine blk_put (cs := #[.int .i64 0, .int .i64 0]) ?_ 0 _ rfl; exact HS3.out.2.2.1) Tryd.underlying41 rfl (by kernel_rfl)) rfl ?_
 have HBX := HS3.out.2.2.2.1
 exact ⟨rfl, by repeat (first | exact HBX | refine below_set ?_ (by omega))⟩
set_option maxRecDepth 100000 in
set_option maxHeartbeats 4000000 in
theorem of_5_na (k : Nat) (tol a0 a1 : Int) (a2 : ByteArray) (b0 b1 : Int) (b2 : ByteArray) (w : World) (hG : Gl w) (hva : Q.value_Valid.f k a0 a1 a2 = some true) (hvb : Q.value_Valid.f k b0 b1 b2 = some true) (ht : decide (tol < 0) = false) (ht1 : decide (1000000000 ≤ tol) = false) (ha : (a0 == 0) = true) :
  Calls Tryd.prog 15 #[.int .i64 5, .int .i64 tol, .agg #[.int .i64 a0, .int .i64 a1, .string a2], .agg #[.int .i64 b0, .int .i64 b1, .string b2]] w fun e w' => e = .returned (.tuple #[.agg #[.int .i64 0, .int .i64 1], .int .i64 0]) ∧ Below w.heap.size w w' := by
 have HS0 := Aside0.mk (OfS.start (a0 := a0) (a1 := a1) (a2 := a2) (b0 := b0) (b1 := b1) (b2 := b2) hG)
 clear hG
 have hu := Tryd.underlying41
 have hu2 := Tryd.underlying48
 have hnn := eq_nil_nil
 have hfn := eq_func_nil
 have hev := eq_val
 go_enter Tryd.func15, Tryd.ntmps15
 go_wp2_with (first | (go_at_call 23; with_reducible refine (texts_calls _).mono ?_; rintro e w1 ⟨b, rfl, hb1, hlk⟩; have hl1 := hlk 5 (by decide); rw [show ofF 5 = .nilFunc from rfl] at hl1; clear hlk; have HS1 := Aside0.mk (HS0.out.below hb1); clear hb1; obtain ⟨ca0, ca1, ca2, cb0, cb1, cb2, cr0, cr1, fr0, fr1⟩ := HS1.out.cells) | (go_at_call 24; with_reducible refine (Q.value_Valid.calls k a0 a1 a2 _ _ hva).mono ?_; rintro e w2 ⟨rfl, hb2⟩; have HS2 := Aside0.mk (HS1.out.below hb2); clear hb2; clear ca0 ca1 ca2 cb0 cb1 cb2 cr0 cr1 fr0 fr1; obtain ⟨ca0, ca1, ca2, cb0, cb1, cb2, cr0, cr1, fr0, fr1⟩ := HS2.out.cells) | (go_at_call 24; with_reducible refine (Q.value_Valid.calls k b0 b1 b2 _ _ hvb).mono ?_; rintro e w3 ⟨rfl, hb3⟩; have HS3 := Aside0.mk (HS2.out.below hb3); clear hb3; clear ca0 ca1 ca2 cb0 cb1 cb2 cr0 cr1 fr0 fr1; obtain ⟨ca0, ca1, ca2, cb0, cb1, cb2, cr0, cr1, fr0, fr1⟩ := HS3.out.cells) | ((with_reducible refine gate_op (op := .load 41 (.global 0)) rfl ?_); refine gl0_event rfl rfl rfl ?hGl ?_; (case hGl => exact HS3.out.2.2.2.2)))
 refine bodyPost_ret (results_ct rfl _ _ (w.heap.size + 1 + 1) 41 #[.int .i64 0, .int .i64 1] (0, 0) _ rfl (by refine blk_put (cs := #[.int .i64 0, .int .i64 0]) ?_ 1 _ rfl; refine blk_put (cs := #[.int .i64 0, .int .i64 0]) ?_ 0 _ rfl; exact HS3.out.2.2.1) Tryd.underlying41 rfl (by kernel_rfl)) rfl ?_
 have HBX := HS3.out.2.2.2.1
 exact ⟨rfl, by repeat (first | exact HBX | refine below_set ?_ (by omega))⟩
set_option maxRecDepth 100000 in
set_option maxHeartbeats 4000000 in
theorem of_5_nb (k : Nat) (tol a0 a1 : Int) (a2 : ByteArray) (b0 b1 : Int) (b2 : ByteArray) (w : World) (hG : Gl w) (hva : Q.value_Valid.f k a0 a1 a2 = some true) (hvb : Q.value_Valid.f k b0 b1 b2 = some true) (ht : decide (tol < 0) = false) (ht1 : decide (1000000000 ≤ tol) = false) (ha : (a0 == 0) = false) (hb : (b0 == 0) = true) :
  Calls Tryd.prog 15 #[.int .i64 5, .int .i64 tol, .agg #[.int .i64 a0, .int .i64 a1, .string a2], .agg #[.int .i64 b0, .int .i64 b1, .string b2]] w fun e w' => e = .returned (.tuple #[.agg #[.int .i64 0, .int .i64 1], .int .i64 0]) ∧ Below w.heap.size w w' := by
 have HS0 := Aside0.mk (OfS.start (a0 := a0) (a1 := a1) (a2 := a2) (b0 := b0) (b1 := b1) (b2 := b2) hG)
 clear hG
 have hu := Tryd.underlying41
 have hu2 := Tryd.underlying48
 have hnn := eq_nil_nil
 have hfn := eq_func_nil
 have hev := eq_val
 go_enter Tryd.func15, Tryd.ntmps15
 go_wp2_with (first | (go_at_call 23; with_reducible refine (texts_calls _).mono ?_; rintro e w1 ⟨b, rfl, hb1, hlk⟩; have hl1 := hlk 5 (by decide); rw [show ofF 5 = .nilFunc from rfl] at hl1; clear hlk; have HS1 := Aside0.mk (HS0.out.below hb1); clear hb1; obtain ⟨ca0, ca1, ca2, cb0, cb1, cb2, cr0, cr1, fr0, fr1⟩ := HS1.out.cells) | (go_at_call 24; with_reducible refine (Q.value_Valid.calls k a0 a1 a2 _ _ hva).mono ?_; rintro e w2 ⟨rfl, hb2⟩; have HS2 := Aside0.mk (HS1.out.below hb2); clear hb2; clear ca0 ca1 ca2 cb0 cb1 cb2 cr0 cr1 fr0 fr1; obtain ⟨ca0, ca1, ca2, cb0, cb1, cb2, cr0, cr1, fr0, fr1⟩ := HS2.out.cells) | (go_at_call 24; with_reducible refine (Q.value_Valid.calls k b0 b1 b2 _ _ hvb).mono ?_; rintro e w3 ⟨rfl, hb3⟩; have HS3 := Aside0.mk (HS2.out.below hb3); clear hb3; clear ca0 ca1 ca2 cb0 cb1 cb2 cr0 cr1 fr0 fr1; obtain ⟨ca0, ca1, ca2, cb0, cb1, cb2, cr0, cr1, fr0, fr1⟩ := HS3.out.cells) | ((with_reducible refine gate_op (op := .load 41 (.global 0)) rfl ?_); refine gl0_event rfl rfl rfl ?hGl ?_; (case hGl => exact HS3.out.2.2.2.2)))
 refine bodyPost_ret (results_ct rfl _ _ (w.heap.size + 1 + 1) 41 #[.int .i64 0, .int .i64 1] (0, 0) _ rfl (by refine blk_put (cs := #[.int .i64 0, .int .i64 0]) ?_ 1 _ rfl; refine blk_put (cs := #[.int .i64 0, .int .i64 0]) ?_ 0 _ rfl; exact HS3.out.2.2.1) Tryd.underlying41 rfl (by kernel_rfl)) rfl ?_
 have HBX := HS3.out.2.2.2.1
 exact ⟨rfl, by repeat (first | exact HBX | refine below_set ?_ (by omega))⟩
set_option maxRecDepth 100000 in
set_option maxHeartbeats 4000000 in
theorem of_5_kd (k : Nat) (tol a0 a1 : Int) (a2 : ByteArray) (b0 b1 : Int) (b2 : ByteArray) (w : World) (hG : Gl w) (hva : Q.value_Valid.f k a0 a1 a2 = some true) (hvb : Q.value_Valid.f k b0 b1 b2 = some true) (ht : decide (tol < 0) = false) (ht1 : decide (1000000000 ≤ tol) = false) (ha : (a0 == 0) = false) (hb : (b0 == 0) = false) (e0 : (a0 != b0) = true) :
  Calls Tryd.prog 15 #[.int .i64 5, .int .i64 tol, .agg #[.int .i64 a0, .int .i64 a1, .string a2], .agg #[.int .i64 b0, .int .i64 b1, .string b2]] w fun e w' => e = .returned (.tuple #[.agg #[.int .i64 0, .int .i64 0], .int .i64 10]) ∧ Below w.heap.size w w' := by
 have HS0 := Aside0.mk (OfS.start (a0 := a0) (a1 := a1) (a2 := a2) (b0 := b0) (b1 := b1) (b2 := b2) hG)
 clear hG
 have hu := Tryd.underlying41
 have hu2 := Tryd.underlying48
 have hnn := eq_nil_nil
 have hfn := eq_func_nil
 have hev := eq_val
 go_enter Tryd.func15, Tryd.ntmps15
 go_wp2_with (first | (go_at_call 23; with_reducible refine (texts_calls _).mono ?_; rintro e w1 ⟨b, rfl, hb1, hlk⟩; have hl1 := hlk 5 (by decide); rw [show ofF 5 = .nilFunc from rfl] at hl1; clear hlk; have HS1 := Aside0.mk (HS0.out.below hb1); clear hb1; obtain ⟨ca0, ca1, ca2, cb0, cb1, cb2, cr0, cr1, fr0, fr1⟩ := HS1.out.cells) | (go_at_call 24; with_reducible refine (Q.value_Valid.calls k a0 a1 a2 _ _ hva).mono ?_; rintro e w2 ⟨rfl, hb2⟩; have HS2 := Aside0.mk (HS1.out.below hb2); clear hb2; clear ca0 ca1 ca2 cb0 cb1 cb2 cr0 cr1 fr0 fr1; obtain ⟨ca0, ca1, ca2, cb0, cb1, cb2, cr0, cr1, fr0, fr1⟩ := HS2.out.cells) | (go_at_call 24; with_reducible refine (Q.value_Valid.calls k b0 b1 b2 _ _ hvb).mono ?_; rintro e w3 ⟨rfl, hb3⟩; have HS3 := Aside0.mk (HS2.out.below hb3); clear hb3; clear ca0 ca1 ca2 cb0 cb1 cb2 cr0 cr1 fr0 fr1; obtain ⟨ca0, ca1, ca2, cb0, cb1, cb2, cr0, cr1, fr0, fr1⟩ := HS3.out.cells))
 refine bodyPost_ret (results_ct rfl _ _ (w.heap.size + 1 + 1) 41 #[.int .i64 0, .int .i64 0] (0, 0) _ rfl (by refine blk_put (cs := #[.int .i64 0, .int .i64 0]) ?_ 1 _ rfl; refine blk_put (cs := #[.int .i64 0, .int .i64 0]) ?_ 0 _ rfl; exact HS3.out.2.2.1) Tryd.underlying41 rfl (by kernel_rfl)) rfl ?_
 have HBX := HS3.out.2.2.2.1
 exact ⟨rfl, by repeat (first | exact HBX | refine below_set ?_ (by omega))⟩
set_option maxRecDepth 100000 in
set_option maxHeartbeats 4000000 in
theorem of_5_ty (k : Nat) (tol a0 a1 : Int) (a2 : ByteArray) (b0 b1 : Int) (b2 : ByteArray) (w : World) (hG : Gl w) (hva : Q.value_Valid.f k a0 a1 a2 = some true) (hvb : Q.value_Valid.f k b0 b1 b2 = some true) (ht : decide (tol < 0) = false) (ht1 : decide (1000000000 ≤ tol) = false) (ha : (a0 == 0) = false) (hb : (b0 == 0) = false) (e0 : (a0 != b0) = false) (e2 : (a0 != 2) = true) (e3 : (a0 != 3) = true) :
  Calls Tryd.prog 15 #[.int .i64 5, .int .i64 tol, .agg #[.int .i64 a0, .int .i64 a1, .string a2], .agg #[.int .i64 b0, .int .i64 b1, .string b2]] w fun e w' => e = .returned (.tuple #[.agg #[.int .i64 0, .int .i64 0], .int .i64 10]) ∧ Below w.heap.size w w' := by
 have HS0 := Aside0.mk (OfS.start (a0 := a0) (a1 := a1) (a2 := a2) (b0 := b0) (b1 := b1) (b2 := b2) hG)
 clear hG
 have hu := Tryd.underlying41
 have hu2 := Tryd.underlying48
 have hnn := eq_nil_nil
 have hfn := eq_func_nil
 have hev := eq_val
 go_enter Tryd.func15, Tryd.ntmps15
 go_wp2_with (first | (go_at_call 23; with_reducible refine (texts_calls _).mono ?_; rintro e w1 ⟨b, rfl, hb1, hlk⟩; have hl1 := hlk 5 (by decide); rw [show ofF 5 = .nilFunc from rfl] at hl1; clear hlk; have HS1 := Aside0.mk (HS0.out.below hb1); clear hb1; obtain ⟨ca0, ca1, ca2, cb0, cb1, cb2, cr0, cr1, fr0, fr1⟩ := HS1.out.cells) | (go_at_call 24; with_reducible refine (Q.value_Valid.calls k a0 a1 a2 _ _ hva).mono ?_; rintro e w2 ⟨rfl, hb2⟩; have HS2 := Aside0.mk (HS1.out.below hb2); clear hb2; clear ca0 ca1 ca2 cb0 cb1 cb2 cr0 cr1 fr0 fr1; obtain ⟨ca0, ca1, ca2, cb0, cb1, cb2, cr0, cr1, fr0, fr1⟩ := HS2.out.cells) | (go_at_call 24; with_reducible refine (Q.value_Valid.calls k b0 b1 b2 _ _ hvb).mono ?_; rintro e w3 ⟨rfl, hb3⟩; have HS3 := Aside0.mk (HS2.out.below hb3); clear hb3; clear ca0 ca1 ca2 cb0 cb1 cb2 cr0 cr1 fr0 fr1; obtain ⟨ca0, ca1, ca2, cb0, cb1, cb2, cr0, cr1, fr0, fr1⟩ := HS3.out.cells))
 refine bodyPost_ret (results_ct rfl _ _ (w.heap.size + 1 + 1) 41 #[.int .i64 0, .int .i64 0] (0, 0) _ rfl (by refine blk_put (cs := #[.int .i64 0, .int .i64 0]) ?_ 1 _ rfl; refine blk_put (cs := #[.int .i64 0, .int .i64 0]) ?_ 0 _ rfl; exact HS3.out.2.2.1) Tryd.underlying41 rfl (by kernel_rfl)) rfl ?_
 have HBX := HS3.out.2.2.2.1
 exact ⟨rfl, by repeat (first | exact HBX | refine below_set ?_ (by omega))⟩
set_option maxRecDepth 100000 in
set_option maxHeartbeats 4000000 in
theorem of_5_c2 (k : Nat) (tol a0 a1 : Int) (a2 : ByteArray) (b0 b1 : Int) (b2 : ByteArray) (w : World) (hG : Gl w) (hva : Q.value_Valid.f k a0 a1 a2 = some true) (hvb : Q.value_Valid.f k b0 b1 b2 = some true) (ht : decide (tol < 0) = false) (ht1 : decide (1000000000 ≤ tol) = false) (ha : (a0 == 0) = false) (hb : (b0 == 0) = false) (e0 : (a0 != b0) = false) (e2 : (a0 != 2) = false) (r1 r2 : Int) (hN : Q.measure_Near.f k a1 b1 tol = some (r1, r2)) :
  Calls Tryd.prog 15 #[.int .i64 5, .int .i64 tol, .agg #[.int .i64 a0, .int .i64 a1, .string a2], .agg #[.int .i64 b0, .int .i64 b1, .string b2]] w fun e w' => e = .returned (.tuple #[.agg #[.int .i64 r1, .int .i64 r2], .int .i64 0]) ∧ Below w.heap.size w w' := by
 have HS0 := Aside0.mk (OfS.start (a0 := a0) (a1 := a1) (a2 := a2) (b0 := b0) (b1 := b1) (b2 := b2) hG)
 clear hG
 have hu := Tryd.underlying41
 have hu2 := Tryd.underlying48
 have hnn := eq_nil_nil
 have hfn := eq_func_nil
 have hev := eq_val
 go_enter Tryd.func15, Tryd.ntmps15
 go_wp2_with (first | (go_at_call 23; with_reducible refine (texts_calls _).mono ?_; rintro e w1 ⟨b, rfl, hb1, hlk⟩; have hl1 := hlk 5 (by decide); rw [show ofF 5 = .nilFunc from rfl] at hl1; clear hlk; have HS1 := Aside0.mk (HS0.out.below hb1); clear hb1; obtain ⟨ca0, ca1, ca2, cb0, cb1, cb2, cr0, cr1, fr0, fr1⟩ := HS1.out.cells) | (go_at_call 24; with_reducible refine (Q.value_Valid.calls k a0 a1 a2 _ _ hva).mono ?_; rintro e w2 ⟨rfl, hb2⟩; have HS2 := Aside0.mk (HS1.out.below hb2); clear hb2; clear ca0 ca1 ca2 cb0 cb1 cb2 cr0 cr1 fr0 fr1; obtain ⟨ca0, ca1, ca2, cb0, cb1, cb2, cr0, cr1, fr0, fr1⟩ := HS2.out.cells) | (go_at_call 24; with_reducible refine (Q.value_Valid.calls k b0 b1 b2 _ _ hvb).mono ?_; rintro e w3 ⟨rfl, hb3⟩; have HS3 := Aside0.mk (HS2.out.below hb3); clear hb3; clear ca0 ca1 ca2 cb0 cb1 cb2 cr0 cr1 fr0 fr1; obtain ⟨ca0, ca1, ca2, cb0, cb1, cb2, cr0, cr1, fr0, fr1⟩ := HS3.out.cells) | (go_at_call 25; with_reducible refine (Q.measure_Near.calls k a1 b1 tol r1 r2 _ HS3.out.gl hN).mono ?_; rintro e w4 ⟨rfl, hb4⟩; have HS4 := Aside0.mk (HS3.out.below hb4); clear hb4; clear ca0 ca1 ca2 cb0 cb1 cb2 cr0 cr1 fr0 fr1; obtain ⟨ca0, ca1, ca2, cb0, cb1, cb2, cr0, cr1, fr0, fr1⟩ := HS4.out.cells))
 refine bodyPost_ret (results_ct rfl _ _ (w.heap.size + 1 + 1) 41 #[.int .i64 r1, .int .i64 r2] (0, 0) _ rfl (by refine blk_put (cs := #[.int .i64 r1, .int .i64 0]) ?_ 1 _ rfl; refine blk_put (cs := #[.int .i64 0, .int .i64 0]) ?_ 0 _ rfl; exact HS4.out.2.2.1) Tryd.underlying41 rfl (by kernel_rfl)) rfl ?_
 have HBX := HS4.out.2.2.2.1
 exact ⟨rfl, by repeat (first | exact HBX | refine below_set ?_ (by omega))⟩
set_option maxRecDepth 100000 in
set_option maxHeartbeats 4000000 in
theorem of_5_c3 (k : Nat) (tol a0 a1 : Int) (a2 : ByteArray) (b0 b1 : Int) (b2 : ByteArray) (w : World) (hG : Gl w) (hva : Q.value_Valid.f k a0 a1 a2 = some true) (hvb : Q.value_Valid.f k b0 b1 b2 = some true) (ht : decide (tol < 0) = false) (ht1 : decide (1000000000 ≤ tol) = false) (ha : (a0 == 0) = false) (hb : (b0 == 0) = false) (e0 : (a0 != b0) = false) (e2 : (a0 != 2) = true) (e3 : (a0 != 3) = false) (r1 r2 : Int) (hN : Q.measure_Near.f k a1 b1 tol = some (r1, r2)) :
  Calls Tryd.prog 15 #[.int .i64 5, .int .i64 tol, .agg #[.int .i64 a0, .int .i64 a1, .string a2], .agg #[.int .i64 b0, .int .i64 b1, .string b2]] w fun e w' => e = .returned (.tuple #[.agg #[.int .i64 r1, .int .i64 r2], .int .i64 0]) ∧ Below w.heap.size w w' := by
 have HS0 := Aside0.mk (OfS.start (a0 := a0) (a1 := a1) (a2 := a2) (b0 := b0) (b1 := b1) (b2 := b2) hG)
 clear hG
 have hu := Tryd.underlying41
 have hu2 := Tryd.underlying48
 have hnn := eq_nil_nil
 have hfn := eq_func_nil
 have hev := eq_val
 go_enter Tryd.func15, Tryd.ntmps15
 go_wp2_with (first | (go_at_call 23; with_reducible refine (texts_calls _).mono ?_; rintro e w1 ⟨b, rfl, hb1, hlk⟩; have hl1 := hlk 5 (by decide); rw [show ofF 5 = .nilFunc from rfl] at hl1; clear hlk; have HS1 := Aside0.mk (HS0.out.below hb1); clear hb1; obtain ⟨ca0, ca1, ca2, cb0, cb1, cb2, cr0, cr1, fr0, fr1⟩ := HS1.out.cells) | (go_at_call 24; with_reducible refine (Q.value_Valid.calls k a0 a1 a2 _ _ hva).mono ?_; rintro e w2 ⟨rfl, hb2⟩; have HS2 := Aside0.mk (HS1.out.below hb2); clear hb2; clear ca0 ca1 ca2 cb0 cb1 cb2 cr0 cr1 fr0 fr1; obtain ⟨ca0, ca1, ca2, cb0, cb1, cb2, cr0, cr1, fr0, fr1⟩ := HS2.out.cells) | (go_at_call 24; with_reducible refine (Q.value_Valid.calls k b0 b1 b2 _ _ hvb).mono ?_; rintro e w3 ⟨rfl, hb3⟩; have HS3 := Aside0.mk (HS2.out.below hb3); clear hb3; clear ca0 ca1 ca2 cb0 cb1 cb2 cr0 cr1 fr0 fr1; obtain ⟨ca0, ca1, ca2, cb0, cb1, cb2, cr0, cr1, fr0, fr1⟩ := HS3.out.cells) | (go_at_call 25; with_reducible refine (Q.measure_Near.calls k a1 b1 tol r1 r2 _ HS3.out.gl hN).mono ?_; rintro e w4 ⟨rfl, hb4⟩; have HS4 := Aside0.mk (HS3.out.below hb4); clear hb4; clear ca0 ca1 ca2 cb0 cb1 cb2 cr0 cr1 fr0 fr1; obtain ⟨ca0, ca1, ca2, cb0, cb1, cb2, cr0, cr1, fr0, fr1⟩ := HS4.out.cells))
 refine bodyPost_ret (results_ct rfl _ _ (w.heap.size + 1 + 1) 41 #[.int .i64 r1, .int .i64 r2] (0, 0) _ rfl (by refine blk_put (cs := #[.int .i64 r1, .int .i64 0]) ?_ 1 _ rfl; refine blk_put (cs := #[.int .i64 0, .int .i64 0]) ?_ 0 _ rfl; exact HS4.out.2.2.1) Tryd.underlying41 rfl (by kernel_rfl)) rfl ?_
 have HBX := HS4.out.2.2.2.1
 exact ⟨rfl, by repeat (first | exact HBX | refine below_set ?_ (by omega))⟩
theorem fin3 {x y z r1 r2 r3 : Int} (h : some (x, y, z) = some (r1, r2, r3)) : x = r1 ∧ y = r2 ∧ z = r3 := by
 injection h with h
 exact ⟨congrArg (fun p => p.1) h, congrArg (fun p => p.2.1) h, congrArg (fun p => p.2.2) h⟩
theorem of_bt {p : Prop} [Decidable p] (h : p) : decide p = true := decide_eq_true h
theorem of_bf {p : Prop} [Decidable p] (h : ¬ p) : decide p = false := decide_eq_false h
theorem of_eqt {x y : Int} (h : x = y) : (x == y) = true := beq_iff_eq.2 h
theorem of_eqf {x y : Int} (h : ¬ x = y) : (x == y) = false := beq_eq_false_iff_ne.2 h
theorem of_net {x y : Int} (h : ¬ x = y) : (x != y) = true := bne_iff_ne.2 h
theorem of_nef {x y : Int} (h : x = y) : (x != y) = false := bne_eq_false_iff_eq.2 h
theorem of_lqt {x y : List UInt8} (h : x = y) : (x == y) = true := beq_iff_eq.2 h
theorem of_lqf {x y : List UInt8} (h : ¬ x = y) : (x == y) = false := beq_eq_false_iff_ne.2 h
theorem measure_Of.calls (k : Nat) (m tol a0 a1 : Int) (a2 : ByteArray) (b0 b1 : Int) (b2 : ByteArray) (r1 r2 r3 : Int) (w : World) (hG : Gl w) (h : measure_Of.f k m tol a0 a1 a2 b0 b1 b2 = some (r1, r2, r3)) :
  Calls Tryd.prog 15 #[.int .i64 m, .int .i64 tol, .agg #[.int .i64 a0, .int .i64 a1, .string a2], .agg #[.int .i64 b0, .int .i64 b1, .string b2]] w fun e w' => e = .returned (.tuple #[.agg #[.int .i64 r1, .int .i64 r2], .int .i64 r3]) ∧ Below w.heap.size w w' := by
 unfold measure_Of.f at h
 by_cases hwf : (Lit.int .i64 m).wf = true
 ·rw [if_pos hwf] at h
  by_cases hm : m < 1 ∨ 5 < m
  ·rw [if_pos hm] at h
   obtain ⟨rfl, rfl, rfl⟩ := fin3 h
   exact of_other k m tol a0 a1 a2 b0 b1 b2 w hG hwf (by unfold ofF; rw [if_neg (by omega), if_neg (by omega), if_neg (by omega)]) (of_eqf (by omega)) (of_net (by omega))
  rw [if_neg hm] at h
  obtain rfl | rfl | rfl | rfl | rfl : m = 1 ∨ m = 2 ∨ m = 3 ∨ m = 4 ∨ m = 5 := by omega
  ·cases hva : Q.value_Valid.f k a0 a1 a2 with
   | none => rw [hva] at h; cases h
   | some va =>
    rw [hva] at h
    simp only [Option.bind_some] at h
    cases va with
    | false =>
     rw [if_neg (by decide)] at h
     obtain ⟨rfl, rfl, rfl⟩ := fin3 h
     exact of_1_va k tol a0 a1 a2 b0 b1 b2 w hG hva
    | true =>
     rw [if_pos rfl] at h
     cases hvb : Q.value_Valid.f k b0 b1 b2 with
     | none => rw [hvb] at h; cases h
     | some vb =>
      rw [hvb] at h
      simp only [Option.bind_some] at h
      cases vb with
      | false =>
       rw [if_neg (by decide)] at h
       obtain ⟨rfl, rfl, rfl⟩ := fin3 h
       exact of_1_vb k tol a0 a1 a2 b0 b1 b2 w hG hva hvb
      | true =>
       rw [if_pos rfl] at h
       unfold ofTail at h
       rw [if_neg (fun h => absurd h.1 (by decide))] at h
       by_cases na : a0 = 0
       ·rw [if_pos (.inl na)] at h
        obtain ⟨rfl, rfl, rfl⟩ := fin3 h
        exact of_1_na k tol a0 a1 a2 b0 b1 b2 w hG hva hvb (of_eqt na)
       by_cases nb : b0 = 0
       ·rw [if_pos (.inr nb)] at h
        obtain ⟨rfl, rfl, rfl⟩ := fin3 h
        exact of_1_nb k tol a0 a1 a2 b0 b1 b2 w hG hva hvb (of_eqf na) (of_eqt nb)
       rw [if_neg (fun h => h.elim na nb)] at h
       rw [if_pos rfl] at h
       by_cases e0 : a0 = b0
       ·by_cases e1 : a1 = b1
        ·by_cases e2 : a2.toList = b2.toList
         ·rw [if_pos ⟨e0, e1, e2⟩] at h
          obtain ⟨rfl, rfl, rfl⟩ := fin3 h
          exact of_1_eq k tol a0 a1 a2 b0 b1 b2 w hG hva hvb (of_eqf na) (of_eqf nb) (of_eqt e0) (of_eqt e1) (of_lqt e2)
         rw [if_neg (fun h => e2 h.2.2)] at h
         obtain ⟨rfl, rfl, rfl⟩ := fin3 h
         exact of_1_n2 k tol a0 a1 a2 b0 b1 b2 w hG hva hvb (of_eqf na) (of_eqf nb) (of_eqt e0) (of_eqt e1) (of_lqf e2)
        rw [if_neg (fun h => e1 h.2.1)] at h
        obtain ⟨rfl, rfl, rfl⟩ := fin3 h
        exact of_1_n1 k tol a0 a1 a2 b0 b1 b2 w hG hva hvb (of_eqf na) (of_eqf nb) (of_eqt e0) (of_eqf e1)
       rw [if_neg (fun h => e0 h.1)] at h
       obtain ⟨rfl, rfl, rfl⟩ := fin3 h
       exact of_1_n0 k tol a0 a1 a2 b0 b1 b2 w hG hva hvb (of_eqf na) (of_eqf nb) (of_eqf e0)
  ·cases hva : Q.value_Valid.f k a0 a1 a2 with
   | none => rw [hva] at h; cases h
   | some va =>
    rw [hva] at h
    simp only [Option.bind_some] at h
    cases va with
    | false =>
     rw [if_neg (by decide)] at h
     obtain ⟨rfl, rfl, rfl⟩ := fin3 h
     exact of_2_va k tol a0 a1 a2 b0 b1 b2 w hG hva
    | true =>
     rw [if_pos rfl] at h
     cases hvb : Q.value_Valid.f k b0 b1 b2 with
     | none => rw [hvb] at h; cases h
     | some vb =>
      rw [hvb] at h
      simp only [Option.bind_some] at h
      cases vb with
      | false =>
       rw [if_neg (by decide)] at h
       obtain ⟨rfl, rfl, rfl⟩ := fin3 h
       exact of_2_vb k tol a0 a1 a2 b0 b1 b2 w hG hva hvb
      | true =>
       rw [if_pos rfl] at h
       unfold ofTail at h
       rw [if_neg (fun h => absurd h.1 (by decide))] at h
       by_cases na : a0 = 0
       ·rw [if_pos (.inl na)] at h
        obtain ⟨rfl, rfl, rfl⟩ := fin3 h
        exact of_2_na k tol a0 a1 a2 b0 b1 b2 w hG hva hvb (of_eqt na)
       by_cases nb : b0 = 0
       ·rw [if_pos (.inr nb)] at h
        obtain ⟨rfl, rfl, rfl⟩ := fin3 h
        exact of_2_nb k tol a0 a1 a2 b0 b1 b2 w hG hva hvb (of_eqf na) (of_eqt nb)
       rw [if_neg (fun h => h.elim na nb)] at h
       rw [if_neg (by decide)] at h
       by_cases kd : a0 = b0
       ·skip
        by_cases e1 : a0 = 1
        ·rw [if_neg (fun h => h.elim (fun h => h kd) (fun h => h.elim (fun h => absurd h.1 (by decide)) (fun h => h.2 e1))), if_neg (by decide)] at h
         rw [if_pos rfl] at h
         obtain ⟨⟨q1, q2⟩, hN, h⟩ := Option.bind_eq_some_iff.1 h
         obtain ⟨rfl, rfl, rfl⟩ := fin3 h
         exact of_2_c k tol a0 a1 a2 b0 b1 b2 w hG hva hvb (of_eqf na) (of_eqf nb) (of_nef kd) (of_nef e1) q1 q2 hN
        rw [if_pos (.inr (.inr ⟨by decide, e1⟩))] at h
        obtain ⟨rfl, rfl, rfl⟩ := fin3 h
        exact of_2_ty k tol a0 a1 a2 b0 b1 b2 w hG hva hvb (of_eqf na) (of_eqf nb) (of_nef kd) (of_net e1)
       rw [if_pos (.inl kd)] at h
       obtain ⟨rfl, rfl, rfl⟩ := fin3 h
       exact of_2_kd k tol a0 a1 a2 b0 b1 b2 w hG hva hvb (of_eqf na) (of_eqf nb) (of_net kd)
  ·cases hva : Q.value_Valid.f k a0 a1 a2 with
   | none => rw [hva] at h; cases h
   | some va =>
    rw [hva] at h
    simp only [Option.bind_some] at h
    cases va with
    | false =>
     rw [if_neg (by decide)] at h
     obtain ⟨rfl, rfl, rfl⟩ := fin3 h
     exact of_3_va k tol a0 a1 a2 b0 b1 b2 w hG hva
    | true =>
     rw [if_pos rfl] at h
     cases hvb : Q.value_Valid.f k b0 b1 b2 with
     | none => rw [hvb] at h; cases h
     | some vb =>
      rw [hvb] at h
      simp only [Option.bind_some] at h
      cases vb with
      | false =>
       rw [if_neg (by decide)] at h
       obtain ⟨rfl, rfl, rfl⟩ := fin3 h
       exact of_3_vb k tol a0 a1 a2 b0 b1 b2 w hG hva hvb
      | true =>
       rw [if_pos rfl] at h
       unfold ofTail at h
       rw [if_neg (fun h => absurd h.1 (by decide))] at h
       by_cases na : a0 = 0
       ·rw [if_pos (.inl na)] at h
        obtain ⟨rfl, rfl, rfl⟩ := fin3 h
        exact of_3_na k tol a0 a1 a2 b0 b1 b2 w hG hva hvb (of_eqt na)
       by_cases nb : b0 = 0
       ·rw [if_pos (.inr nb)] at h
        obtain ⟨rfl, rfl, rfl⟩ := fin3 h
        exact of_3_nb k tol a0 a1 a2 b0 b1 b2 w hG hva hvb (of_eqf na) (of_eqt nb)
       rw [if_neg (fun h => h.elim na nb)] at h
       rw [if_neg (by decide)] at h
       by_cases kd : a0 = b0
       ·skip
        by_cases e1 : a0 = 1
        ·rw [if_neg (fun h => h.elim (fun h => h kd) (fun h => h.elim (fun h => absurd h.1 (by decide)) (fun h => h.2 e1))), if_neg (by decide)] at h
         rw [if_neg (by decide), if_pos rfl] at h
         obtain ⟨⟨q1, q2⟩, hN, h⟩ := Option.bind_eq_some_iff.1 h
         obtain ⟨rfl, rfl, rfl⟩ := fin3 h
         exact of_3_c k tol a0 a1 a2 b0 b1 b2 w hG hva hvb (of_eqf na) (of_eqf nb) (of_nef kd) (of_nef e1) q1 q2 hN
        rw [if_pos (.inr (.inr ⟨by decide, e1⟩))] at h
        obtain ⟨rfl, rfl, rfl⟩ := fin3 h
        exact of_3_ty k tol a0 a1 a2 b0 b1 b2 w hG hva hvb (of_eqf na) (of_eqf nb) (of_nef kd) (of_net e1)
       rw [if_pos (.inl kd)] at h
       obtain ⟨rfl, rfl, rfl⟩ := fin3 h
       exact of_3_kd k tol a0 a1 a2 b0 b1 b2 w hG hva hvb (of_eqf na) (of_eqf nb) (of_net kd)
  ·cases hva : Q.value_Valid.f k a0 a1 a2 with
   | none => rw [hva] at h; cases h
   | some va =>
    rw [hva] at h
    simp only [Option.bind_some] at h
    cases va with
    | false =>
     rw [if_neg (by decide)] at h
     obtain ⟨rfl, rfl, rfl⟩ := fin3 h
     exact of_4_va k tol a0 a1 a2 b0 b1 b2 w hG hva
    | true =>
     rw [if_pos rfl] at h
     cases hvb : Q.value_Valid.f k b0 b1 b2 with
     | none => rw [hvb] at h; cases h
     | some vb =>
      rw [hvb] at h
      simp only [Option.bind_some] at h
      cases vb with
      | false =>
       rw [if_neg (by decide)] at h
       obtain ⟨rfl, rfl, rfl⟩ := fin3 h
       exact of_4_vb k tol a0 a1 a2 b0 b1 b2 w hG hva hvb
      | true =>
       rw [if_pos rfl] at h
       unfold ofTail at h
       rw [if_neg (fun h => absurd h.1 (by decide))] at h
       by_cases na : a0 = 0
       ·rw [if_pos (.inl na)] at h
        obtain ⟨rfl, rfl, rfl⟩ := fin3 h
        exact of_4_na k tol a0 a1 a2 b0 b1 b2 w hG hva hvb (of_eqt na)
       by_cases nb : b0 = 0
       ·rw [if_pos (.inr nb)] at h
        obtain ⟨rfl, rfl, rfl⟩ := fin3 h
        exact of_4_nb k tol a0 a1 a2 b0 b1 b2 w hG hva hvb (of_eqf na) (of_eqt nb)
       rw [if_neg (fun h => h.elim na nb)] at h
       rw [if_neg (by decide)] at h
       by_cases kd : a0 = b0
       ·skip
        by_cases e1 : a0 = 1
        ·rw [if_neg (fun h => h.elim (fun h => h kd) (fun h => h.elim (fun h => absurd h.1 (by decide)) (fun h => h.2 e1))), if_neg (by decide)] at h
         rw [if_neg (by decide), if_neg (by decide)] at h
         obtain ⟨⟨q1, q2⟩, hN, h⟩ := Option.bind_eq_some_iff.1 h
         obtain ⟨rfl, rfl, rfl⟩ := fin3 h
         exact of_4_c k tol a0 a1 a2 b0 b1 b2 w hG hva hvb (of_eqf na) (of_eqf nb) (of_nef kd) (of_nef e1) q1 q2 hN
        rw [if_pos (.inr (.inr ⟨by decide, e1⟩))] at h
        obtain ⟨rfl, rfl, rfl⟩ := fin3 h
        exact of_4_ty k tol a0 a1 a2 b0 b1 b2 w hG hva hvb (of_eqf na) (of_eqf nb) (of_nef kd) (of_net e1)
       rw [if_pos (.inl kd)] at h
       obtain ⟨rfl, rfl, rfl⟩ := fin3 h
       exact of_4_kd k tol a0 a1 a2 b0 b1 b2 w hG hva hvb (of_eqf na) (of_eqf nb) (of_net kd)
  cases hva : Q.value_Valid.f k a0 a1 a2 with
  | none => rw [hva] at h; cases h
  | some va =>
   rw [hva] at h
   simp only [Option.bind_some] at h
   cases va with
   | false =>
    rw [if_neg (by decide)] at h
    obtain ⟨rfl, rfl, rfl⟩ := fin3 h
    exact of_5_va k tol a0 a1 a2 b0 b1 b2 w hG hva
   | true =>
    rw [if_pos rfl] at h
    cases hvb : Q.value_Valid.f k b0 b1 b2 with
    | none => rw [hvb] at h; cases h
    | some vb =>
     rw [hvb] at h
     simp only [Option.bind_some] at h
     cases vb with
     | false =>
      rw [if_neg (by decide)] at h
      obtain ⟨rfl, rfl, rfl⟩ := fin3 h
      exact of_5_vb k tol a0 a1 a2 b0 b1 b2 w hG hva hvb
     | true =>
      rw [if_pos rfl] at h
      unfold ofTail at h
      by_cases t0 : tol < 0
      ·rw [if_pos ⟨rfl, .inl t0⟩] at h
       obtain ⟨rfl, rfl, rfl⟩ := fin3 h
       exact of_5_t0 k tol a0 a1 a2 b0 b1 b2 w hG hva hvb (of_bt t0)
      by_cases t1 : 1000000000 ≤ tol
      ·rw [if_pos ⟨rfl, .inr t1⟩] at h
       obtain ⟨rfl, rfl, rfl⟩ := fin3 h
       exact of_5_t1 k tol a0 a1 a2 b0 b1 b2 w hG hva hvb (of_bf t0) (of_bt t1)
      rw [if_neg (fun h => h.2.elim t0 t1)] at h
      by_cases na : a0 = 0
      ·rw [if_pos (.inl na)] at h
       obtain ⟨rfl, rfl, rfl⟩ := fin3 h
       exact of_5_na k tol a0 a1 a2 b0 b1 b2 w hG hva hvb (of_bf t0) (of_bf t1) (of_eqt na)
      by_cases nb : b0 = 0
      ·rw [if_pos (.inr nb)] at h
       obtain ⟨rfl, rfl, rfl⟩ := fin3 h
       exact of_5_nb k tol a0 a1 a2 b0 b1 b2 w hG hva hvb (of_bf t0) (of_bf t1) (of_eqf na) (of_eqt nb)
      rw [if_neg (fun h => h.elim na nb)] at h
      rw [if_neg (by decide)] at h
      by_cases kd : a0 = b0
      ·skip
       by_cases e2 : a0 = 2
       ·rw [if_neg (fun h => h.elim (fun h => h kd) (fun h => h.elim (fun h => h.2.1 e2) (fun h => h.1 rfl))), if_pos rfl] at h
        obtain ⟨⟨q1, q2⟩, hN, h⟩ := Option.bind_eq_some_iff.1 h
        obtain ⟨rfl, rfl, rfl⟩ := fin3 h
        exact of_5_c2 k tol a0 a1 a2 b0 b1 b2 w hG hva hvb (of_bf t0) (of_bf t1) (of_eqf na) (of_eqf nb) (of_nef kd) (of_nef e2) q1 q2 hN
       by_cases e3 : a0 = 3
       ·rw [if_neg (fun h => h.elim (fun h => h kd) (fun h => h.elim (fun h => h.2.2 e3) (fun h => h.1 rfl))), if_pos rfl] at h
        obtain ⟨⟨q1, q2⟩, hN, h⟩ := Option.bind_eq_some_iff.1 h
        obtain ⟨rfl, rfl, rfl⟩ := fin3 h
        exact of_5_c3 k tol a0 a1 a2 b0 b1 b2 w hG hva hvb (of_bf t0) (of_bf t1) (of_eqf na) (of_eqf nb) (of_nef kd) (of_net e2) (of_nef e3) q1 q2 hN
       rw [if_pos (.inr (.inl ⟨rfl, e2, e3⟩))] at h
       obtain ⟨rfl, rfl, rfl⟩ := fin3 h
       exact of_5_ty k tol a0 a1 a2 b0 b1 b2 w hG hva hvb (of_bf t0) (of_bf t1) (of_eqf na) (of_eqf nb) (of_nef kd) (of_net e2) (of_net e3)
      rw [if_pos (.inl kd)] at h
      obtain ⟨rfl, rfl, rfl⟩ := fin3 h
      exact of_5_kd k tol a0 a1 a2 b0 b1 b2 w hG hva hvb (of_bf t0) (of_bf t1) (of_eqf na) (of_eqf nb) (of_net kd)
 rw [if_neg hwf] at h
 cases h
end Go.Proofs.YtiffkknhnmpgbaaDoor
end

section
namespace Go.Proofs.YtiffkknhnmpgbaaDoor.R
open Go.RowKit Go.Proofs.YtiffkknhnmpgbaaDoor.Q Go.Proofs.YtiffkknhnmpgbaaDoorW.PrintWords Go.Proofs.YtiffkknhnmpgbaaDoorW.PrintLast Go.Proofs.YtiffkknhnmpgbaaDoorW.PrintMore
attribute [local go_sem] max2_int min2_int max_two min_two max_three min_three max_four min_four   -- for this text's walks alone
set_option linter.unusedVariables false
set_option linter.unusedSimpArgs false

/-! ### match_holds: function 33 -/
def match_holds.f (k : Nat) (a0_0 : Int) (a0_1 : Int) (a0_2 : Int) (a0_3 : Int) (a0_4 : Int) (a0_5 : Int) (a0_6 : Int) (a1_0 : Int) (a1_1 : ByteArray) (a1_2 : ByteArray) (a1_3 : Int) (a1_4 : Int) (l1_5 : List (S50)) (a2_0 : Int) (a2_1 : ByteArray) (a2_2 : ByteArray) (a2_3 : Int) (a2_4 : Int) (l2_5 : List (S50)) : Option (Bool) := (match_between.f 0 a0_0 (wrap64 ((mn (l1_5.length : Int) (l2_5.length : Int)) - 1))).bind fun t111 => (if t111 = true then (if 0 ≤ a0_0 then (if a0_0 < (l1_5.length : Int) then (if a0_0 < (l2_5.length : Int) then ((measure_Of.f k a0_1 a0_2 ((rd_T50 l1_5 a0_0).f0.f0) ((rd_T50 l1_5 a0_0).f0.f1) ((rd_T50 l1_5 a0_0).f0.f2) ((rd_T50 l2_5 a0_0).f0.f0) ((rd_T50 l2_5 a0_0).f0.f1) ((rd_T50 l2_5 a0_0).f0.f2)).bind fun bt114 => (if bt114.2.2 = 0 then ((ratio_Cmp.f k bt114.1 bt114.2.1 a0_3 a0_4).bind fun t118 => (some (decide (t118 ≥ 0)))) else (some false))) else (none)) else (none)) else (none)) else (some false))
def match_holds.T3 : Bool × List (List Nat × List Nat) := (true, [([], []), ([0], [0]), ([], []), ([2], [2]), ([], []), ([4], [4]), ([], []), ([6], [6]), ([5, 7], [5, 7]), ([8], [8]), ([9], [9]), ([], []), ([11], [11]), ([], []), ([13], [13]), ([12, 14], [12, 14]), ([15], [15]), ([16], [16]), ([1, 3, 10, 17], [1, 3, 10, 17]), ([18], [18]), ([19], [19]), ([19], [19]), ([], []), ([22, 20, 18, 0, 1, 2, 3, 4, 5, 6, 7, 8, 9, 10, 11, 12, 13, 14, 15, 16, 17, 18, 19, 20, 22], [20, 22]), ([21, 23, 0, 1, 2, 3, 4, 5, 6, 7, 8, 9, 10, 11, 12, 13, 14, 15, 16, 17, 18, 19, 20, 21, 22, 23], [21])])
def match_holds.B3 : List Nat := [0, 1, 0, 4, 0, 16, 0, 64, 240, 496, 1008, 0, 2048, 0, 8192, 30720, 63488, 129024, 262143, 524287, 1048575, 1048575, 0, 6291455, 16777215]
theorem match_holds.tab3 : rtab .any (opsOf Tryd.f33 3) = match_holds.T3 := by kernel_rfl
theorem match_holds.bits3 : waitsOk match_holds.T3.2 match_holds.B3 = true := by kernel_rfl
set_option maxHeartbeats 8000000 in
set_option maxRecDepth 100000 in
theorem match_holds.calls (k : Nat) (a0_0 : Int) (a0_1 : Int) (a0_2 : Int) (a0_3 : Int) (a0_4 : Int) (a0_5 : Int) (a0_6 : Int) (a1_0 : Int) (a1_1 : ByteArray) (a1_2 : ByteArray) (a1_3 : Int) (a1_4 : Int) (A1_5 : Option Addr) (c1_5 : Nat) (l1_5 : List (S50)) (a2_0 : Int) (a2_1 : ByteArray) (a2_2 : ByteArray) (a2_3 : Int) (a2_4 : Int) (A2_5 : Option Addr) (c2_5 : Nat) (l2_5 : List (S50)) (r : Bool) (w : World) (hr1_5 : Kd.C k50 w A1_5 l1_5.length l1_5) (hc1_5 : l1_5.length ≤ c1_5) (hr2_5 : Kd.C k50 w A2_5 l2_5.length l2_5) (hc2_5 : l2_5.length ≤ c2_5) (hG : Gl w) (h : match_holds.f k a0_0 a0_1 a0_2 a0_3 a0_4 a0_5 a0_6 a1_0 a1_1 a1_2 a1_3 a1_4 l1_5 a2_0 a2_1 a2_2 a2_3 a2_4 l2_5 = some r) :
  Calls Tryd.prog 33 #[.agg #[.int .i64 a0_0, .int .i64 a0_1, .int .i64 a0_2, .int .i64 a0_3, .int .i64 a0_4, .int .i64 a0_5, .int .i64 a0_6], .agg #[.int .i64 a1_0, .string a1_1, .string a1_2, .int .i64 a1_3, .int .i64 a1_4, .slice A1_5 l1_5.length c1_5], .agg #[.int .i64 a2_0, .string a2_1, .string a2_2, .int .i64 a2_3, .int .i64 a2_4, .slice A2_5 l2_5.length c2_5]] w fun e w' => e = .returned (.bool r) ∧ Below w.heap.size w w' := by
 have HGl := Aside0.mk hG
 clear hG
 have hu43 := Tryd.underlying43
 have hu29 := Tryd.underlying29
 have hu48 := Tryd.underlying48
 have hu41 := Tryd.underlying41
 have HR1_5 := Aside0.mk hr1_5
 have HC1_5 := Aside0.mk hc1_5
 clear hr1_5 hc1_5
 have HR2_5 := Aside0.mk hr2_5
 have HC2_5 := Aside0.mk hc2_5
 clear hr2_5 hc2_5
 have HB := Aside0.mk (Below.refl w.heap.size w)
 have H : ((match_between.f 0 a0_0 (wrap64 ((mn (l1_5.length : Int) (l2_5.length : Int)) - 1))).bind fun t111 => (if t111 = true then (if 0 ≤ a0_0 then (if a0_0 < (l1_5.length : Int) then (if a0_0 < (l2_5.length : Int) then ((measure_Of.f k a0_1 a0_2 ((rd_T50 l1_5 a0_0).f0.f0) ((rd_T50 l1_5 a0_0).f0.f1) ((rd_T50 l1_5 a0_0).f0.f2) ((rd_T50 l2_5 a0_0).f0.f0) ((rd_T50 l2_5 a0_0).f0.f1) ((rd_T50 l2_5 a0_0).f0.f2)).bind fun bt114 => (if bt114.2.2 = 0 then ((ratio_Cmp.f k bt114.1 bt114.2.1 a0_3 a0_4).bind fun t118 => (some (decide (t118 ≥ 0)))) else (some false))) else (none)) else (none)) else (none)) else (some false))) = some r := h
 clear h
 obtain ⟨ji4, hji4⟩ : ∃ j_ : Int, (mn (l1_5.length : Int) (l2_5.length : Int)) = j_ := ⟨_, rfl⟩
 replace H : ((match_between.f 0 a0_0 (wrap64 ((ji4) - 1))).bind fun t111 => (if t111 = true then (if 0 ≤ a0_0 then (if a0_0 < (l1_5.length : Int) then (if a0_0 < (l2_5.length : Int) then ((measure_Of.f k a0_1 a0_2 ((rd_T50 l1_5 a0_0).f0.f0) ((rd_T50 l1_5 a0_0).f0.f1) ((rd_T50 l1_5 a0_0).f0.f2) ((rd_T50 l2_5 a0_0).f0.f0) ((rd_T50 l2_5 a0_0).f0.f1) ((rd_T50 l2_5 a0_0).f0.f2)).bind fun bt114 => (if bt114.2.2 = 0 then ((ratio_Cmp.f k bt114.1 bt114.2.1 a0_3 a0_4).bind fun t118 => (some (decide (t118 ≥ 0)))) else (some false))) else (none)) else (none)) else (none)) else (some false))) = some r := by (rw [hji4] at H; exact H)
 (try (have hji4l : 0 ≤ ji4 := by (rw [← hji4]; unfold mn; (repeat' split) <;> omega)))
 (try (have hji4m : 0 ≤ ji4 := by omega))
 have hji4_ : (if (l2_5.length : Int) < (l1_5.length : Int) then (l2_5.length : Int) else (l1_5.length : Int)) = ji4 := hji4
 (try (have hji4n_ := hji4_; simp only [Int.ofNat_lt] at hji4n_))
 replace H := Option.bind_eq_some_iff.mp H
 obtain ⟨t111, A50, H⟩ := H
 replace H : (if t111 = true then (if 0 ≤ a0_0 then (if a0_0 < (l1_5.length : Int) then (if a0_0 < (l2_5.length : Int) then ((measure_Of.f k a0_1 a0_2 ((rd_T50 l1_5 a0_0).f0.f0) ((rd_T50 l1_5 a0_0).f0.f1) ((rd_T50 l1_5 a0_0).f0.f2) ((rd_T50 l2_5 a0_0).f0.f0) ((rd_T50 l2_5 a0_0).f0.f1) ((rd_T50 l2_5 a0_0).f0.f2)).bind fun bt114 => (if bt114.2.2 = 0 then ((ratio_Cmp.f k bt114.1 bt114.2.1 a0_3 a0_4).bind fun t118 => (some (decide (t118 ≥ 0)))) else (some false))) else (none)) else (none)) else (none)) else (some false)) = some r := H
 have A5 := Aside0.mk A50
 clear A50
 by_cases c6 : t111 = true
 ·subst c6
  have H1 : (if 0 ≤ a0_0 then (if a0_0 < (l1_5.length : Int) then (if a0_0 < (l2_5.length : Int) then ((measure_Of.f k a0_1 a0_2 ((rd_T50 l1_5 a0_0).f0.f0) ((rd_T50 l1_5 a0_0).f0.f1) ((rd_T50 l1_5 a0_0).f0.f2) ((rd_T50 l2_5 a0_0).f0.f0) ((rd_T50 l2_5 a0_0).f0.f1) ((rd_T50 l2_5 a0_0).f0.f2)).bind fun bt114 => (if bt114.2.2 = 0 then ((ratio_Cmp.f k bt114.1 bt114.2.1 a0_3 a0_4).bind fun t118 => (some (decide (t118 ≥ 0)))) else (some false))) else (none)) else (none)) else (none)) = some r := by rw [if_pos rfl] at H; exact H
  clear H
  have H := H1
  clear H1
  by_cases c7 : 0 ≤ a0_0
  ·rw [if_pos c7] at H
   have c7b0 : decide (0 ≤ a0_0) = true := decide_eq_true c7
   clear c7
   by_cases c8 : a0_0 < (l1_5.length : Int)
   ·rw [if_pos c8] at H
    have c8b0 : decide (a0_0 < (l1_5.length : Int)) = true := decide_eq_true c8
    clear c8
    by_cases c9 : a0_0 < (l2_5.length : Int)
    ·rw [if_pos c9] at H
     have c9b0 : decide (a0_0 < (l2_5.length : Int)) = true := decide_eq_true c9
     clear c9
     replace H := Option.bind_eq_some_iff.mp H
     obtain ⟨⟨t114, t115, t116⟩, A100, H⟩ := H
     replace H : (if t116 = 0 then ((ratio_Cmp.f k t114 t115 a0_3 a0_4).bind fun t118 => (some (decide (t118 ≥ 0)))) else (some false)) = some r := H
     have A10 := Aside0.mk A100
     clear A100
     have HH := Aside0.mk H
     clear H
     go_enter Tryd.func33, Tryd.ntmps33
     try go_wp2_with (first | ((with_reducible refine gate_dst (N := 3) rfl ?_); refine box_event ?hg (N := 3) ?hd (cs := #[.int .i64 a0_0, .int .i64 a0_1, .int .i64 a0_2, .int .i64 a0_3, .int .i64 a0_4, .int .i64 a0_5, .int .i64 a0_6]) (t := 43) ?hr ?_; (case hd => rfl); (case hg => rfl); (case hr => (go_simp; done)); intro gb108 hg w13 hbox hb; have n0_ := Aside0.mk (below_step HB.out hb); have n1_ := Aside0.mk (hbox); clear HB; have HB := n0_; have BK108 := n1_; clear n0_ n1_; clear hb hbox hg) | ((with_reducible refine gate_dst (N := 4) rfl ?_); refine box_event ?hg (N := 4) ?hd (cs := #[.int .i64 a1_0, .string a1_1, .string a1_2, .int .i64 a1_3, .int .i64 a1_4, .slice A1_5 l1_5.length c1_5]) (t := 29) ?hr ?_; (case hd => rfl); (case hg => rfl); (case hr => (go_simp; done)); intro gb109 hg w14 hbox hb; have n0_ := Aside0.mk (blk_below (by exact BK108.out) hb); have n1_ := Aside0.mk (below_step HB.out hb); have n2_ := Aside0.mk (hbox); have n5_ := Aside0.mk ((by rw [hg]; exact Nat.ne_of_lt (blk_lt (by exact BK108.out)) : gb108 ≠ gb109)); have n6_ := Aside0.mk ((by rw [hg]; exact Nat.ne_of_gt (blk_lt (by exact BK108.out)) : gb109 ≠ gb108)); clear BK108; clear HB; have BK108 := n0_; have HB := n1_; have BK109 := n2_; have NB108_109 := n5_; have NB109_108 := n6_; clear n0_ n1_ n2_ n5_ n6_; clear hb hbox hg) | ((with_reducible refine gate_dst (N := 5) rfl ?_); refine box_event ?hg (N := 5) ?hd (cs := #[.int .i64 a2_0, .string a2_1, .string a2_2, .int .i64 a2_3, .int .i64 a2_4, .slice A2_5 l2_5.length c2_5]) (t := 29) ?hr ?_; (case hd => rfl); (case hg => rfl); (case hr => (go_simp; done)); intro gb110 hg w15 hbox hb; have n0_ := Aside0.mk (blk_below (by exact BK108.out) hb); have n1_ := Aside0.mk (blk_below (by exact BK109.out) hb); have n2_ := Aside0.mk (below_step HB.out hb); have n3_ := Aside0.mk (hbox); have n6_ := Aside0.mk ((by rw [hg]; exact Nat.ne_of_lt (blk_lt (by exact BK108.out)) : gb108 ≠ gb110)); have n7_ := Aside0.mk ((by rw [hg]; exact Nat.ne_of_gt (blk_lt (by exact BK108.out)) : gb110 ≠ gb108)); have n8_ := Aside0.mk ((by rw [hg]; exact Nat.ne_of_lt (blk_lt (by exact BK109.out)) : gb109 ≠ gb110)); have n9_ := Aside0.mk ((by rw [hg]; exact Nat.ne_of_gt (blk_lt (by exact BK109.out)) : gb110 ≠ gb109)); clear BK108; clear BK109; clear HB; have BK108 := n0_; have BK109 := n1_; have HB := n2_; have BK110 := n3_; have NB108_110 := n6_; have NB110_108 := n7_; have NB109_110 := n8_; have NB110_109 := n9_; clear n0_ n1_ n2_ n3_ n6_ n7_ n8_ n9_; clear hb hbox hg; have hnb16 := NB108_109.out; have hnc16 := NB109_108.out; have hnb17 := NB108_110.out; have hnc17 := NB110_108.out; have hcz18_0 := cel_ BK108.out 0 rfl; have hcz18_1 := cel_ BK108.out 1 rfl; have hcz18_2 := cel_ BK108.out 2 rfl; have hcz18_3 := cel_ BK108.out 3 rfl; have hcz18_4 := cel_ BK108.out 4 rfl; have hcz18_5 := cel_ BK108.out 5 rfl; have hcz18_6 := cel_ BK108.out 6 rfl; have hfz18_0 := blk_frozen BK108.out 0; have hfz18_1 := blk_frozen BK108.out 1; have hfz18_2 := blk_frozen BK108.out 2; have hfz18_3 := blk_frozen BK108.out 3; have hfz18_4 := blk_frozen BK108.out 4; have hfz18_5 := blk_frozen BK108.out 5; have hfz18_6 := blk_frozen BK108.out 6; have hnb19 := NB109_110.out; have hnc19 := NB110_109.out; have hcz20_0 := cel_ BK109.out 0 rfl; have hcz20_1 := cel_ BK109.out 1 rfl; have hcz20_2 := cel_ BK109.out 2 rfl; have hcz20_3 := cel_ BK109.out 3 rfl; have hcz20_4 := cel_ BK109.out 4 rfl; have hcz20_5 := cel_ BK109.out 5 rfl; have hfz20_0 := blk_frozen BK109.out 0; have hfz20_1 := blk_frozen BK109.out 1; have hfz20_2 := blk_frozen BK109.out 2; have hfz20_3 := blk_frozen BK109.out 3; have hfz20_4 := blk_frozen BK109.out 4; have hfz20_5 := blk_frozen BK109.out 5; have hcz21_0 := cel_ BK110.out 0 rfl; have hcz21_1 := cel_ BK110.out 1 rfl; have hcz21_2 := cel_ BK110.out 2 rfl; have hcz21_3 := cel_ BK110.out 3 rfl; have hcz21_4 := cel_ BK110.out 4 rfl; have hcz21_5 := cel_ BK110.out 5 rfl; have hfz21_0 := blk_frozen BK110.out 0; have hfz21_1 := blk_frozen BK110.out 1; have hfz21_2 := blk_frozen BK110.out 2; have hfz21_3 := blk_frozen BK110.out 3; have hfz21_4 := blk_frozen BK110.out 4; have hfz21_5 := blk_frozen BK110.out 5) | ((with_reducible refine gate_callee (f := 26) rfl ?_); refine goesL_ (some 19) rfl rfl Tryd.func26 (by kernel_rfl) rfl #[.int .i64 0, .int .i64 a0_0, .int .i64 (wrap64 ((ji4) - 1))] rfl (by (try simp only [List.map_toArray, List.map_cons, List.map_nil]); rfl) ?_; (with_reducible refine (match_between.calls 0 a0_0 (wrap64 ((ji4) - 1)) true _ A5.out).mono ?_); rintro e w' ⟨rfl, ⟨nd, rfl⟩⟩; refine ⟨_, rfl, ?_⟩; (try (rw [drewN_self w15]; generalize hq_ : World.drewN w15 _ = w15; have n0_ : Aside0 (w15.heap[gb108]? = some (.cells #[.int .i64 a0_0, .int .i64 a0_1, .int .i64 a0_2, .int .i64 a0_3, .int .i64 a0_4, .int .i64 a0_5, .int .i64 a0_6] 43 (0, 0))) := ⟨by rw [← hq_]; exact (by (with_reducible repeat ((refine blk_drewN ?_ _))); exact BK108.out)⟩; have n1_ : Aside0 (w15.heap[gb109]? = some (.cells #[.int .i64 a1_0, .string a1_1, .string a1_2, .int .i64 a1_3, .int .i64 a1_4, .slice A1_5 l1_5.length c1_5] 29 (0, 0))) := ⟨by rw [← hq_]; exact (by (with_reducible repeat ((refine blk_drewN ?_ _))); exact BK109.out)⟩; have n2_ : Aside0 (w15.heap[gb110]? = some (.cells #[.int .i64 a2_0, .string a2_1, .string a2_2, .int .i64 a2_3, .int .i64 a2_4, .slice A2_5 l2_5.length c2_5] 29 (0, 0))) := ⟨by rw [← hq_]; exact (by (with_reducible repeat ((refine blk_drewN ?_ _))); exact BK110.out)⟩; have n3_ : Aside0 (Below w.heap.size w w15) := ⟨by rw [← hq_]; exact (by repeat ((with_reducible first | exact HB.out | apply pw_below_drewN)))⟩; clear BK108 BK109 BK110 HB hq_; have BK108 := n0_; have BK109 := n1_; have BK110 := n2_; have HB := n3_; clear n0_ n1_ n2_ n3_))))
     have n0_ := Aside0.mk (blk_drew BK108.out)
     have n1_ := Aside0.mk (blk_drew BK109.out)
     have n2_ := Aside0.mk (blk_drew BK110.out)
     have n3_ := Aside0.mk (below_drew1 HB.out)
     clear BK108
     clear BK109
     clear BK110
     clear HB
     have BK108 := n0_
     have BK109 := n1_
     have BK110 := n2_
     have HB := n3_
     clear n0_ n1_ n2_ n3_
     have p112 : 0 ≤ (a0_0 : Int) := of_decide_eq_true (by (with_reducible assumption))
     have q112 : a0_0 < (l1_5.length : Int) := of_decide_eq_true (by (with_reducible assumption))
     obtain ⟨ad112, e112, hx112_0, hx112_1, hx112_2, hx112_3, hx112_4⟩ := at_T50 HR1_5.out a0_0 p112 q112
     have hw112_4 := hx112_4
     have hw112_3 := hx112_3
     have hw112_2 := hx112_2
     have hw112_1 := hx112_1
     have hw112_0 := hx112_0
     cases e112
     replace hx112_0 := (HB.out.cell (World.block_lt_of_cell? w _ hx112_0)).trans hx112_0
     replace hx112_1 := (HB.out.cell (World.block_lt_of_cell? w _ hx112_1)).trans hx112_1
     replace hx112_2 := (HB.out.cell (World.block_lt_of_cell? w _ hx112_2)).trans hx112_2
     replace hx112_3 := (HB.out.cell (World.block_lt_of_cell? w _ hx112_3)).trans hx112_3
     replace hx112_4 := (HB.out.cell (World.block_lt_of_cell? w _ hx112_4)).trans hx112_4
     replace p112 := eq_true p112
     replace q112 := eq_true q112
     have p113 : 0 ≤ (a0_0 : Int) := of_decide_eq_true (by (with_reducible assumption))
     have q113 : a0_0 < (l2_5.length : Int) := of_decide_eq_true (by (with_reducible assumption))
     obtain ⟨ad113, e113, hx113_0, hx113_1, hx113_2, hx113_3, hx113_4⟩ := at_T50 HR2_5.out a0_0 p113 q113
     have hw113_4 := hx113_4
     have hw113_3 := hx113_3
     have hw113_2 := hx113_2
     have hw113_1 := hx113_1
     have hw113_0 := hx113_0
     cases e113
     replace hx113_0 := (HB.out.cell (World.block_lt_of_cell? w _ hx113_0)).trans hx113_0
     replace hx113_1 := (HB.out.cell (World.block_lt_of_cell? w _ hx113_1)).trans hx113_1
     replace hx113_2 := (HB.out.cell (World.block_lt_of_cell? w _ hx113_2)).trans hx113_2
     replace hx113_3 := (HB.out.cell (World.block_lt_of_cell? w _ hx113_3)).trans hx113_3
     replace hx113_4 := (HB.out.cell (World.block_lt_of_cell? w _ hx113_4)).trans hx113_4
     replace p113 := eq_true p113
     replace q113 := eq_true q113
     refine start_ (n := 25) (S := fun w' => w'.cell? ⟨gb108, 0, none⟩ = some (.int .i64 a0_0) ∧ w'.cell? ⟨gb108, 1, none⟩ = some (.int .i64 a0_1) ∧ w'.cell? ⟨gb108, 2, none⟩ = some (.int .i64 a0_2) ∧ w'.cell? ⟨gb108, 3, none⟩ = some (.int .i64 a0_3) ∧ w'.cell? ⟨gb108, 4, none⟩ = some (.int .i64 a0_4) ∧ w'.cell? ⟨gb108, 5, none⟩ = some (.int .i64 a0_5) ∧ w'.cell? ⟨gb108, 6, none⟩ = some (.int .i64 a0_6) ∧ w'.cell? ⟨gb109, 0, none⟩ = some (.int .i64 a1_0) ∧ w'.cell? ⟨gb109, 1, none⟩ = some (.string a1_1) ∧ w'.cell? ⟨gb109, 2, none⟩ = some (.string a1_2) ∧ w'.cell? ⟨gb109, 3, none⟩ = some (.int .i64 a1_3) ∧ w'.cell? ⟨gb109, 4, none⟩ = some (.int .i64 a1_4) ∧ w'.cell? ⟨gb109, 5, none⟩ = some (.slice (some ad112) l1_5.length c1_5) ∧ w'.cell? ⟨gb110, 0, none⟩ = some (.int .i64 a2_0) ∧ w'.cell? ⟨gb110, 1, none⟩ = some (.string a2_1) ∧ w'.cell? ⟨gb110, 2, none⟩ = some (.string a2_2) ∧ w'.cell? ⟨gb110, 3, none⟩ = some (.int .i64 a2_3) ∧ w'.cell? ⟨gb110, 4, none⟩ = some (.int .i64 a2_4) ∧ w'.cell? ⟨gb110, 5, none⟩ = some (.slice (some ad113) l2_5.length c2_5) ∧ w'.cell? (ad112.add ((a0_0).toNat * 5)) = some (.int .i64 ((rd_T50 l1_5 a0_0).f0.f0)) ∧ w'.cell? ⟨(ad112.add ((a0_0).toNat * 5)).block, (ad112.add ((a0_0).toNat * 5)).off + 1, none⟩ = some (.int .i64 ((rd_T50 l1_5 a0_0).f0.f1)) ∧ w'.cell? ⟨(ad112.add ((a0_0).toNat * 5)).block, (ad112.add ((a0_0).toNat * 5)).off + 2, none⟩ = some (.string ((rd_T50 l1_5 a0_0).f0.f2)) ∧ w'.cell? ⟨(ad112.add ((a0_0).toNat * 5)).block, (ad112.add ((a0_0).toNat * 5)).off + 3, none⟩ = some (.int .i64 ((rd_T50 l1_5 a0_0).f1)) ∧ w'.cell? ⟨(ad112.add ((a0_0).toNat * 5)).block, (ad112.add ((a0_0).toNat * 5)).off + 4, none⟩ = some (.int .i64 ((rd_T50 l1_5 a0_0).f2)) ∧ w'.cell? (ad113.add ((a0_0).toNat * 5)) = some (.int .i64 ((rd_T50 l2_5 a0_0).f0.f0)) ∧ w'.cell? ⟨(ad113.add ((a0_0).toNat * 5)).block, (ad113.add ((a0_0).toNat * 5)).off + 1, none⟩ = some (.int .i64 ((rd_T50 l2_5 a0_0).f0.f1)) ∧ w'.cell? ⟨(ad113.add ((a0_0).toNat * 5)).block, (ad113.add ((a0_0).toNat * 5)).off + 2, none⟩ = some (.string ((rd_T50 l2_5 a0_0).f0.f2)) ∧ w'.cell? ⟨(ad113.add ((a0_0).toNat * 5)).block, (ad113.add ((a0_0).toNat * 5)).off + 3, none⟩ = some (.int .i64 ((rd_T50 l2_5 a0_0).f1)) ∧ w'.cell? ⟨(ad113.add ((a0_0).toNat * 5)).block, (ad113.add ((a0_0).toNat * 5)).off + 4, none⟩ = some (.int .i64 ((rd_T50 l2_5 a0_0).f2))) (ds := []) #[Z0,Z0,Z0,Z0,Z0,Z0,Z0,Z0,Z0,Z0,Z0,Z0,Z0,Z0,Z0,Z0,Z0,Z0,Z0,Z0,Z0,Z0,Z0,Z0,Z0] (by kernel_rfl) rfl rfl ⟨(blk_cell BK108.out 0).trans rfl, (blk_cell BK108.out 1).trans rfl, (blk_cell BK108.out 2).trans rfl, (blk_cell BK108.out 3).trans rfl, (blk_cell BK108.out 4).trans rfl, (blk_cell BK108.out 5).trans rfl, (blk_cell BK108.out 6).trans rfl, (blk_cell BK109.out 0).trans rfl, (blk_cell BK109.out 1).trans rfl, (blk_cell BK109.out 2).trans rfl, (blk_cell BK109.out 3).trans rfl, (blk_cell BK109.out 4).trans rfl, (blk_cell BK109.out 5).trans rfl, (blk_cell BK110.out 0).trans rfl, (blk_cell BK110.out 1).trans rfl, (blk_cell BK110.out 2).trans rfl, (blk_cell BK110.out 3).trans rfl, (blk_cell BK110.out 4).trans rfl, (blk_cell BK110.out 5).trans rfl, ((HB.out.cell (World.block_lt_of_cell? w _ hw112_0)).trans hw112_0), ((HB.out.cell (World.block_lt_of_cell? w _ hw112_1)).trans hw112_1), ((HB.out.cell (World.block_lt_of_cell? w _ hw112_2)).trans hw112_2), ((HB.out.cell (World.block_lt_of_cell? w _ hw112_3)).trans hw112_3), ((HB.out.cell (World.block_lt_of_cell? w _ hw112_4)).trans hw112_4), ((HB.out.cell (World.block_lt_of_cell? w _ hw113_0)).trans hw113_0), ((HB.out.cell (World.block_lt_of_cell? w _ hw113_1)).trans hw113_1), ((HB.out.cell (World.block_lt_of_cell? w _ hw113_2)).trans hw113_2), ((HB.out.cell (World.block_lt_of_cell? w _ hw113_3)).trans hw113_3), ((HB.out.cell (World.block_lt_of_cell? w _ hw113_4)).trans hw113_4)⟩ (fun hHeld => ?_); refine with_tabW match_holds.tab3 match_holds.bits3 (fun HT_ HW_ => ?_)
     generalize w15.drew = w22 at BK108 BK109 BK110 HB hx112_0 hx112_1 hx112_2 hx112_3 hx112_4 hx113_0 hx113_1 hx113_2 hx113_3 hx113_4 hHeld ⊢
     refine pure_ (i := 0) (N := some 22) (v := ?_) (a' := ?_) #[Z1,Z0,Z0,Z0,Z0,Z0,Z0,Z0,Z0,Z0,Z0,Z0,Z0,Z0,Z0,Z0,Z0,Z0,Z0,Z0,Z0,Z0,Z0,Z0,Z0] rfl rfl (any_of HT_.out (by kernel_rfl)) (fun _ _ _ h => h) (Or.inl ⟨by rfl, ?_⟩) ?_ ?_
     rotate_left; intro w'; go_simp; with_reducible rfl; rotate_left; simp only [Act.put, pS_, pZ_, pC_, i64_w, i32_w]; rfl
     refine pure_ (i := 2) (N := some 24) (v := ?_) (a' := ?_) #[Z1,Z0,Z1,Z0,Z0,Z0,Z0,Z0,Z0,Z0,Z0,Z0,Z0,Z0,Z0,Z0,Z0,Z0,Z0,Z0,Z0,Z0,Z0,Z0,Z0] rfl rfl (any_of HT_.out (by kernel_rfl)) (fun _ _ _ h => h) (Or.inl ⟨by rfl, ?_⟩) ?_ ?_
     rotate_left; intro w'; go_simp; with_reducible rfl; rotate_left; simp only [Act.put, pS_, pZ_, pC_, i64_w, i32_w]; rfl
     refine pure_ (i := 4) (N := some 26) (v := ?_) (a' := ?_) #[Z1,Z0,Z1,Z0,Z1,Z0,Z0,Z0,Z0,Z0,Z0,Z0,Z0,Z0,Z0,Z0,Z0,Z0,Z0,Z0,Z0,Z0,Z0,Z0,Z0] rfl rfl (any_of HT_.out (by kernel_rfl)) (fun _ _ _ h => h) (Or.inl ⟨by rfl, ?_⟩) ?_ ?_
     rotate_left; intro w'; go_simp; with_reducible rfl; rotate_left; simp only [Act.put, pS_, pZ_, pC_, i64_w, i32_w]; rfl
     refine pure_ (i := 6) (N := some 28) (v := ?_) (a' := ?_) #[Z1,Z0,Z1,Z0,Z1,Z0,Z1,Z0,Z0,Z0,Z0,Z0,Z0,Z0,Z0,Z0,Z0,Z0,Z0,Z0,Z0,Z0,Z0,Z0,Z0] rfl rfl (any_of HT_.out (by kernel_rfl)) (fun _ _ _ h => h) (Or.inl ⟨by rfl, ?_⟩) ?_ ?_
     rotate_left; intro w'; go_simp; with_reducible rfl; rotate_left; simp only [Act.put, pS_, pZ_, pC_, i64_w, i32_w]; rfl
     refine pure_ (i := 11) (N := some 33) (v := ?_) (a' := ?_) #[Z1,Z0,Z1,Z0,Z1,Z0,Z1,Z0,Z0,Z0,Z0,Z1,Z0,Z0,Z0,Z0,Z0,Z0,Z0,Z0,Z0,Z0,Z0,Z0,Z0] rfl rfl (any_of HT_.out (by kernel_rfl)) (fun _ _ _ h => h) (Or.inl ⟨by rfl, ?_⟩) ?_ ?_
     rotate_left; intro w'; go_simp; with_reducible rfl; rotate_left; simp only [Act.put, pS_, pZ_, pC_, i64_w, i32_w]; rfl
     refine pure_ (i := 13) (N := some 35) (v := ?_) (a' := ?_) #[Z1,Z0,Z1,Z0,Z1,Z0,Z1,Z0,Z0,Z0,Z0,Z1,Z0,Z1,Z0,Z0,Z0,Z0,Z0,Z0,Z0,Z0,Z0,Z0,Z0] rfl rfl (any_of HT_.out (by kernel_rfl)) (fun _ _ _ h => h) (Or.inl ⟨by rfl, ?_⟩) ?_ ?_
     rotate_left; intro w'; go_simp; with_reducible rfl; rotate_left; simp only [Act.put, pS_, pZ_, pC_, i64_w, i32_w]; rfl
     refine take_ (i := 1) (N := some 23) (v := ?_) (a' := ?_) #[Z1,Z1,Z1,Z0,Z1,Z0,Z1,Z0,Z0,Z0,Z0,Z1,Z0,Z1,Z0,Z0,Z0,Z0,Z0,Z0,Z0,Z0,Z0,Z0,Z0] rfl rfl (take_ofW HT_.out HW_.out (by kernel_rfl)) (fun _ _ _ h => h) (Or.inl ⟨by rfl, ?_⟩) hHeld ?_ ?_
     rotate_left; rintro w' ⟨s0, s1, s2, s3, s4, s5, s6, s7, s8, s9, s10, s11, s12, s13, s14, s15, s16, s17, s18, s19, s20, s21, s22, s23, s24, s25, s26, s27, s28⟩; go_simp; with_reducible rfl; rotate_left; simp only [Act.put, pS_, pZ_, pC_, i64_w, i32_w]; rfl
     refine take_ (i := 3) (N := some 25) (v := ?_) (a' := ?_) #[Z1,Z1,Z1,Z1,Z1,Z0,Z1,Z0,Z0,Z0,Z0,Z1,Z0,Z1,Z0,Z0,Z0,Z0,Z0,Z0,Z0,Z0,Z0,Z0,Z0] rfl rfl (take_ofW HT_.out HW_.out (by kernel_rfl)) (fun _ _ _ h => h) (Or.inl ⟨by rfl, ?_⟩) hHeld ?_ ?_
     rotate_left; rintro w' ⟨s0, s1, s2, s3, s4, s5, s6, s7, s8, s9, s10, s11, s12, s13, s14, s15, s16, s17, s18, s19, s20, s21, s22, s23, s24, s25, s26, s27, s28⟩; go_simp; with_reducible rfl; rotate_left; simp only [Act.put, pS_, pZ_, pC_, i64_w, i32_w]; rfl
     refine take_ (i := 5) (N := some 27) (v := ?_) (a' := ?_) #[Z1,Z1,Z1,Z1,Z1,Z1,Z1,Z0,Z0,Z0,Z0,Z1,Z0,Z1,Z0,Z0,Z0,Z0,Z0,Z0,Z0,Z0,Z0,Z0,Z0] rfl rfl (take_ofW HT_.out HW_.out (by kernel_rfl)) (fun _ _ _ h => h) (Or.inl ⟨by rfl, ?_⟩) hHeld ?_ ?_
     rotate_left; rintro w' ⟨s0, s1, s2, s3, s4, s5, s6, s7, s8, s9, s10, s11, s12, s13, s14, s15, s16, s17, s18, s19, s20, s21, s22, s23, s24, s25, s26, s27, s28⟩; go_simp; with_reducible rfl; rotate_left; simp only [Act.put, pS_, pZ_, pC_, i64_w, i32_w]; rfl
     refine take_ (i := 7) (N := some 29) (v := ?_) (a' := ?_) #[Z1,Z1,Z1,Z1,Z1,Z1,Z1,Z1,Z0,Z0,Z0,Z1,Z0,Z1,Z0,Z0,Z0,Z0,Z0,Z0,Z0,Z0,Z0,Z0,Z0] rfl rfl (take_ofW HT_.out HW_.out (by kernel_rfl)) (fun _ _ _ h => h) (Or.inl ⟨by rfl, ?_⟩) hHeld ?_ ?_
     rotate_left; rintro w' ⟨s0, s1, s2, s3, s4, s5, s6, s7, s8, s9, s10, s11, s12, s13, s14, s15, s16, s17, s18, s19, s20, s21, s22, s23, s24, s25, s26, s27, s28⟩; go_simp; with_reducible rfl; rotate_left; simp only [Act.put, pS_, pZ_, pC_, i64_w, i32_w]; rfl
     refine pure_ (i := 8) (N := some 30) (v := ?_) (a' := ?_) #[Z1,Z1,Z1,Z1,Z1,Z1,Z1,Z1,Z1,Z0,Z0,Z1,Z0,Z1,Z0,Z0,Z0,Z0,Z0,Z0,Z0,Z0,Z0,Z0,Z0] rfl rfl (any_of HT_.out (by kernel_rfl)) (fun _ _ _ h => h) (Or.inl ⟨by rfl, ?_⟩) ?_ ?_
     rotate_left; intro w'; go_simp; with_reducible rfl; rotate_left; simp only [Act.put, pS_, pZ_, pC_, i64_w, i32_w]; rfl
     refine pure_ (i := 9) (N := some 31) (v := ?_) (a' := ?_) #[Z1,Z1,Z1,Z1,Z1,Z1,Z1,Z1,Z1,Z1,Z0,Z1,Z0,Z1,Z0,Z0,Z0,Z0,Z0,Z0,Z0,Z0,Z0,Z0,Z0] rfl rfl (any_of HT_.out (by kernel_rfl)) (fun _ _ _ h => h) (Or.inl ⟨by rfl, ?_⟩) ?_ ?_
     rotate_left; intro w'; go_simp; with_reducible rfl; rotate_left; simp only [Act.put, pS_, pZ_, pC_, i64_w, i32_w]; rfl
     refine take_ (i := 10) (N := some 32) (v := ?_) (a' := ?_) #[Z1,Z1,Z1,Z1,Z1,Z1,Z1,Z1,Z1,Z1,Z1,Z1,Z0,Z1,Z0,Z0,Z0,Z0,Z0,Z0,Z0,Z0,Z0,Z0,Z0] rfl rfl (take_ofW HT_.out HW_.out (by kernel_rfl)) (fun _ _ _ h => h) (Or.inl ⟨by rfl, ?_⟩) hHeld ?_ ?_
     rotate_left; rintro w' ⟨s0, s1, s2, s3, s4, s5, s6, s7, s8, s9, s10, s11, s12, s13, s14, s15, s16, s17, s18, s19, s20, s21, s22, s23, s24, s25, s26, s27, s28⟩; go_simp; with_reducible rfl; rotate_left; simp only [Act.put, pS_, pZ_, pC_, i64_w, i32_w]; rfl
     refine take_ (i := 12) (N := some 34) (v := ?_) (a' := ?_) #[Z1,Z1,Z1,Z1,Z1,Z1,Z1,Z1,Z1,Z1,Z1,Z1,Z1,Z1,Z0,Z0,Z0,Z0,Z0,Z0,Z0,Z0,Z0,Z0,Z0] rfl rfl (take_ofW HT_.out HW_.out (by kernel_rfl)) (fun _ _ _ h => h) (Or.inl ⟨by rfl, ?_⟩) hHeld ?_ ?_
     rotate_left; rintro w' ⟨s0, s1, s2, s3, s4, s5, s6, s7, s8, s9, s10, s11, s12, s13, s14, s15, s16, s17, s18, s19, s20, s21, s22, s23, s24, s25, s26, s27, s28⟩; go_simp; with_reducible rfl; rotate_left; simp only [Act.put, pS_, pZ_, pC_, i64_w, i32_w]; rfl
     refine take_ (i := 14) (N := some 36) (v := ?_) (a' := ?_) #[Z1,Z1,Z1,Z1,Z1,Z1,Z1,Z1,Z1,Z1,Z1,Z1,Z1,Z1,Z1,Z0,Z0,Z0,Z0,Z0,Z0,Z0,Z0,Z0,Z0] rfl rfl (take_ofW HT_.out HW_.out (by kernel_rfl)) (fun _ _ _ h => h) (Or.inl ⟨by rfl, ?_⟩) hHeld ?_ ?_
     rotate_left; rintro w' ⟨s0, s1, s2, s3, s4, s5, s6, s7, s8, s9, s10, s11, s12, s13, s14, s15, s16, s17, s18, s19, s20, s21, s22, s23, s24, s25, s26, s27, s28⟩; go_simp; with_reducible rfl; rotate_left; simp only [Act.put, pS_, pZ_, pC_, i64_w, i32_w]; rfl
     refine pure_ (i := 15) (N := some 37) (v := ?_) (a' := ?_) #[Z1,Z1,Z1,Z1,Z1,Z1,Z1,Z1,Z1,Z1,Z1,Z1,Z1,Z1,Z1,Z1,Z0,Z0,Z0,Z0,Z0,Z0,Z0,Z0,Z0] rfl rfl (any_of HT_.out (by kernel_rfl)) (fun _ _ _ h => h) (Or.inl ⟨by rfl, ?_⟩) ?_ ?_
     rotate_left; intro w'; go_simp; with_reducible rfl; rotate_left; simp only [Act.put, pS_, pZ_, pC_, i64_w, i32_w]; rfl
     refine pure_ (i := 16) (N := some 38) (v := ?_) (a' := ?_) #[Z1,Z1,Z1,Z1,Z1,Z1,Z1,Z1,Z1,Z1,Z1,Z1,Z1,Z1,Z1,Z1,Z1,Z0,Z0,Z0,Z0,Z0,Z0,Z0,Z0] rfl rfl (any_of HT_.out (by kernel_rfl)) (fun _ _ _ h => h) (Or.inl ⟨by rfl, ?_⟩) ?_ ?_
     rotate_left; intro w'; go_simp; with_reducible rfl; rotate_left; simp only [Act.put, pS_, pZ_, pC_, i64_w, i32_w]; rfl
     refine take_ (i := 17) (N := some 39) (v := ?_) (a' := ?_) #[Z1,Z1,Z1,Z1,Z1,Z1,Z1,Z1,Z1,Z1,Z1,Z1,Z1,Z1,Z1,Z1,Z1,Z1,Z0,Z0,Z0,Z0,Z0,Z0,Z0] rfl rfl (take_ofW HT_.out HW_.out (by kernel_rfl)) (fun _ _ _ h => h) (Or.inl ⟨by rfl, ?_⟩) hHeld ?_ ?_
     rotate_left; rintro w' ⟨s0, s1, s2, s3, s4, s5, s6, s7, s8, s9, s10, s11, s12, s13, s14, s15, s16, s17, s18, s19, s20, s21, s22, s23, s24, s25, s26, s27, s28⟩; go_simp; with_reducible rfl; rotate_left; simp only [Act.put, pS_, pZ_, pC_, i64_w, i32_w]; rfl
     refine join_ (σ := Nat) 2 #[Z1,Z1,Z1,Z1,Z1,Z1,Z1,Z1,Z1,Z1,Z1,Z1,Z1,Z1,Z1,Z1,Z1,Z1,Z1,Z1,Z1,Z1,Z1,Z0,Z0] (fun s_ => [(40, .tuple #[.agg #[.int .i64 t114, .int .i64 t115], .int .i64 t116]), (7, .pointer (some ⟨s_, 0, none⟩)), (21, .tuple #[.agg #[.int .i64 t114, .int .i64 t115], .int .i64 t116]), (41, .agg #[.int .i64 t114, .int .i64 t115]), (42, .int .i64 t116)]) (fun s_ w' => (w'.cell? ⟨gb108, 0, none⟩ = some (.int .i64 a0_0) ∧ w'.cell? ⟨gb108, 1, none⟩ = some (.int .i64 a0_1) ∧ w'.cell? ⟨gb108, 2, none⟩ = some (.int .i64 a0_2) ∧ w'.cell? ⟨gb108, 3, none⟩ = some (.int .i64 a0_3) ∧ w'.cell? ⟨gb108, 4, none⟩ = some (.int .i64 a0_4) ∧ w'.cell? ⟨gb108, 5, none⟩ = some (.int .i64 a0_5) ∧ w'.cell? ⟨gb108, 6, none⟩ = some (.int .i64 a0_6) ∧ w'.cell? ⟨gb109, 0, none⟩ = some (.int .i64 a1_0) ∧ w'.cell? ⟨gb109, 1, none⟩ = some (.string a1_1) ∧ w'.cell? ⟨gb109, 2, none⟩ = some (.string a1_2) ∧ w'.cell? ⟨gb109, 3, none⟩ = some (.int .i64 a1_3) ∧ w'.cell? ⟨gb109, 4, none⟩ = some (.int .i64 a1_4) ∧ w'.cell? ⟨gb109, 5, none⟩ = some (.slice (some ad112) l1_5.length c1_5) ∧ w'.cell? ⟨gb110, 0, none⟩ = some (.int .i64 a2_0) ∧ w'.cell? ⟨gb110, 1, none⟩ = some (.string a2_1) ∧ w'.cell? ⟨gb110, 2, none⟩ = some (.string a2_2) ∧ w'.cell? ⟨gb110, 3, none⟩ = some (.int .i64 a2_3) ∧ w'.cell? ⟨gb110, 4, none⟩ = some (.int .i64 a2_4) ∧ w'.cell? ⟨gb110, 5, none⟩ = some (.slice (some ad113) l2_5.length c2_5) ∧ w'.cell? (ad112.add ((a0_0).toNat * 5)) = some (.int .i64 ((rd_T50 l1_5 a0_0).f0.f0)) ∧ w'.cell? ⟨(ad112.add ((a0_0).toNat * 5)).block, (ad112.add ((a0_0).toNat * 5)).off + 1, none⟩ = some (.int .i64 ((rd_T50 l1_5 a0_0).f0.f1)) ∧ w'.cell? ⟨(ad112.add ((a0_0).toNat * 5)).block, (ad112.add ((a0_0).toNat * 5)).off + 2, none⟩ = some (.string ((rd_T50 l1_5 a0_0).f0.f2)) ∧ w'.cell? ⟨(ad112.add ((a0_0).toNat * 5)).block, (ad112.add ((a0_0).toNat * 5)).off + 3, none⟩ = some (.int .i64 ((rd_T50 l1_5 a0_0).f1)) ∧ w'.cell? ⟨(ad112.add ((a0_0).toNat * 5)).block, (ad112.add ((a0_0).toNat * 5)).off + 4, none⟩ = some (.int .i64 ((rd_T50 l1_5 a0_0).f2)) ∧ w'.cell? (ad113.add ((a0_0).toNat * 5)) = some (.int .i64 ((rd_T50 l2_5 a0_0).f0.f0)) ∧ w'.cell? ⟨(ad113.add ((a0_0).toNat * 5)).block, (ad113.add ((a0_0).toNat * 5)).off + 1, none⟩ = some (.int .i64 ((rd_T50 l2_5 a0_0).f0.f1)) ∧ w'.cell? ⟨(ad113.add ((a0_0).toNat * 5)).block, (ad113.add ((a0_0).toNat * 5)).off + 2, none⟩ = some (.string ((rd_T50 l2_5 a0_0).f0.f2)) ∧ w'.cell? ⟨(ad113.add ((a0_0).toNat * 5)).block, (ad113.add ((a0_0).toNat * 5)).off + 3, none⟩ = some (.int .i64 ((rd_T50 l2_5 a0_0).f1)) ∧ w'.cell? ⟨(ad113.add ((a0_0).toNat * 5)).block, (ad113.add ((a0_0).toNat * 5)).off + 4, none⟩ = some (.int .i64 ((rd_T50 l2_5 a0_0).f2))) ∧ (w'.heap[gb108]? = some (.cells #[.int .i64 a0_0, .int .i64 a0_1, .int .i64 a0_2, .int .i64 a0_3, .int .i64 a0_4, .int .i64 a0_5, .int .i64 a0_6] 43 (0, 0))) ∧ (w'.heap[gb109]? = some (.cells #[.int .i64 a1_0, .string a1_1, .string a1_2, .int .i64 a1_3, .int .i64 a1_4, .slice (some ad112) l1_5.length c1_5] 29 (0, 0))) ∧ (w'.heap[gb110]? = some (.cells #[.int .i64 a2_0, .string a2_1, .string a2_2, .int .i64 a2_3, .int .i64 a2_4, .slice (some ad113) l2_5.length c2_5] 29 (0, 0))) ∧ (w'.heap[s_]? = some (.cells #[.int .i64 0, .int .i64 0] 41 (0, 0))) ∧ (w.heap.size ≤ s_) ∧ (w.heap.size ≤ s_) ∧ (gb108 ≠ s_) ∧ (s_ ≠ gb108) ∧ (gb109 ≠ s_) ∧ (s_ ≠ gb109) ∧ (gb110 ≠ s_) ∧ (s_ ≠ gb110) ∧ (Below w.heap.size w w')) ?_ ?_
     rotate_left
     ·intro hCont
      refine two_ (i := 18) (j := 22) (Ni := some 40) (Nj := some 7) #[Z1,Z1,Z1,Z1,Z1,Z1,Z1,Z1,Z1,Z1,Z1,Z1,Z1,Z1,Z1,Z1,Z1,Z1,Z1,Z0,Z0,Z0,Z0,Z0,Z0] #[Z1,Z1,Z1,Z1,Z1,Z1,Z1,Z1,Z1,Z1,Z1,Z1,Z1,Z1,Z1,Z1,Z1,Z1,Z0,Z0,Z0,Z0,Z1,Z0,Z0] rfl rfl rfl rfl (two_of HT_.out (by kernel_rfl)) (by decide) (by decide) (fun K hK => ?_) (fun K hK => ?_)
      ·skip
       refine goes_ Tryd.func15 (by kernel_rfl) rfl #[.int .i64 a0_1, .int .i64 a0_2, .agg #[.int .i64 ((rd_T50 l1_5 a0_0).f0.f0), .int .i64 ((rd_T50 l1_5 a0_0).f0.f1), .string ((rd_T50 l1_5 a0_0).f0.f2)], .agg #[.int .i64 ((rd_T50 l2_5 a0_0).f0.f0), .int .i64 ((rd_T50 l2_5 a0_0).f0.f1), .string ((rd_T50 l2_5 a0_0).f0.f2)]] (by rfl) rfl rfl (by (try simp only [List.map_toArray, List.map_cons, List.map_nil]); rfl) ?_
       with_reducible refine (measure_Of.calls k a0_1 a0_2 ((rd_T50 l1_5 a0_0).f0.f0) ((rd_T50 l1_5 a0_0).f0.f1) ((rd_T50 l1_5 a0_0).f0.f2) ((rd_T50 l2_5 a0_0).f0.f0) ((rd_T50 l2_5 a0_0).f0.f1) ((rd_T50 l2_5 a0_0).f0.f2) t114 t115 t116 _ ?sGl A10.out).mono ?_
       case sGl => exact Gl.below HGl.out HB.out
       rintro e w23 ⟨rfl, hb⟩
       refine ⟨_, rfl, ?_⟩
       have n0_ := Aside0.mk (blk_below (by exact BK108.out) hb)
       have n1_ := Aside0.mk (blk_below (by exact BK109.out) hb)
       have n2_ := Aside0.mk (blk_below (by exact BK110.out) hb)
       have n3_ := Aside0.mk (below_step HB.out hb)
       clear BK108
       clear BK109
       clear BK110
       clear HB
       have BK108 := n0_
       have BK109 := n1_
       have BK110 := n2_
       have HB := n3_
       clear n0_ n1_ n2_ n3_
       (try clear hb)
       refine hK.out _ _ ⟨(blk_cell BK108.out 0).trans rfl, (blk_cell BK108.out 1).trans rfl, (blk_cell BK108.out 2).trans rfl, (blk_cell BK108.out 3).trans rfl, (blk_cell BK108.out 4).trans rfl, (blk_cell BK108.out 5).trans rfl, (blk_cell BK108.out 6).trans rfl, (blk_cell BK109.out 0).trans rfl, (blk_cell BK109.out 1).trans rfl, (blk_cell BK109.out 2).trans rfl, (blk_cell BK109.out 3).trans rfl, (blk_cell BK109.out 4).trans rfl, (blk_cell BK109.out 5).trans rfl, (blk_cell BK110.out 0).trans rfl, (blk_cell BK110.out 1).trans rfl, (blk_cell BK110.out 2).trans rfl, (blk_cell BK110.out 3).trans rfl, (blk_cell BK110.out 4).trans rfl, (blk_cell BK110.out 5).trans rfl, ((HB.out.cell (World.block_lt_of_cell? w _ hw112_0)).trans hw112_0), ((HB.out.cell (World.block_lt_of_cell? w _ hw112_1)).trans hw112_1), ((HB.out.cell (World.block_lt_of_cell? w _ hw112_2)).trans hw112_2), ((HB.out.cell (World.block_lt_of_cell? w _ hw112_3)).trans hw112_3), ((HB.out.cell (World.block_lt_of_cell? w _ hw112_4)).trans hw112_4), ((HB.out.cell (World.block_lt_of_cell? w _ hw113_0)).trans hw113_0), ((HB.out.cell (World.block_lt_of_cell? w _ hw113_1)).trans hw113_1), ((HB.out.cell (World.block_lt_of_cell? w _ hw113_2)).trans hw113_2), ((HB.out.cell (World.block_lt_of_cell? w _ hw113_3)).trans hw113_3), ((HB.out.cell (World.block_lt_of_cell? w _ hw113_4)).trans hw113_4)⟩ (fun hHeld => ?_)
       clear hK K
       refine norm_ (a' := ?_) ?_ ?_
       rotate_left; show Act.put _ (some 40) _ = _; simp only [Act.put, pS_, pZ_, pC_, i64_w, i32_w]; rfl
       refine pure_ (i := 19) (N := some 21) (v := ?_) (a' := ?_) #[Z1,Z1,Z1,Z1,Z1,Z1,Z1,Z1,Z1,Z1,Z1,Z1,Z1,Z1,Z1,Z1,Z1,Z1,Z1,Z1,Z0,Z0,Z0,Z0,Z0] rfl rfl (any_of HT_.out (by kernel_rfl)) (fun _ _ _ h => h) (Or.inl ⟨by rfl, ?_⟩) ?_ ?_
       rotate_left; intro w'; go_simp; with_reducible rfl; rotate_left; simp only [Act.put, pS_, pZ_, pC_, i64_w, i32_w]; rfl
       refine pure_ (i := 20) (N := some 41) (v := ?_) (a' := ?_) #[Z1,Z1,Z1,Z1,Z1,Z1,Z1,Z1,Z1,Z1,Z1,Z1,Z1,Z1,Z1,Z1,Z1,Z1,Z1,Z1,Z1,Z0,Z0,Z0,Z0] rfl rfl (any_of HT_.out (by kernel_rfl)) (fun _ _ _ h => h) (Or.inl ⟨by rfl, ?_⟩) ?_ ?_
       rotate_left; intro w'; go_simp; with_reducible rfl; rotate_left; simp only [Act.put, pS_, pZ_, pC_, i64_w, i32_w]; rfl
       refine pure_ (i := 21) (N := some 42) (v := ?_) (a' := ?_) #[Z1,Z1,Z1,Z1,Z1,Z1,Z1,Z1,Z1,Z1,Z1,Z1,Z1,Z1,Z1,Z1,Z1,Z1,Z1,Z1,Z1,Z1,Z0,Z0,Z0] rfl rfl (any_of HT_.out (by kernel_rfl)) (fun _ _ _ h => h) (Or.inl ⟨by rfl, ?_⟩) ?_ ?_
       rotate_left; intro w'; go_simp; with_reducible rfl; rotate_left; simp only [Act.put, pS_, pZ_, pC_, i64_w, i32_w]; rfl
       refine one_ (i := 22) (N := some 7) #[Z1,Z1,Z1,Z1,Z1,Z1,Z1,Z1,Z1,Z1,Z1,Z1,Z1,Z1,Z1,Z1,Z1,Z1,Z1,Z1,Z1,Z1,Z1,Z0,Z0] rfl rfl (one_of HT_.out (by kernel_rfl)) (by decide) (fun K hK => ?_)
       refine box_step ?hg (N := 7) ?hd (cs := #[.int .i64 0, .int .i64 0]) (t := 41) ?hr ?_; (case hd => rfl); (case hg => rfl); (case hr => (go_simp; done))
       intro gb117 hg w24 hbox hb
       have n0_ := Aside0.mk (blk_below (by exact BK108.out) hb)
       have n1_ := Aside0.mk (blk_below (by exact BK109.out) hb)
       have n2_ := Aside0.mk (blk_below (by exact BK110.out) hb)
       have n3_ := Aside0.mk (below_step HB.out hb)
       have n4_ := Aside0.mk (hbox)
       have n5_ := Aside0.mk ((by rw [hg]; exact (below_size HB.out) : w.heap.size ≤ gb117))
       have n6_ := Aside0.mk ((by rw [hg]; exact (below_size HB.out) : w.heap.size ≤ gb117))
       have n7_ := Aside0.mk ((by rw [hg]; exact Nat.ne_of_lt (blk_lt (by exact BK108.out)) : gb108 ≠ gb117))
       have n8_ := Aside0.mk ((by rw [hg]; exact Nat.ne_of_gt (blk_lt (by exact BK108.out)) : gb117 ≠ gb108))
       have n9_ := Aside0.mk ((by rw [hg]; exact Nat.ne_of_lt (blk_lt (by exact BK109.out)) : gb109 ≠ gb117))
       have n10_ := Aside0.mk ((by rw [hg]; exact Nat.ne_of_gt (blk_lt (by exact BK109.out)) : gb117 ≠ gb109))
       have n11_ := Aside0.mk ((by rw [hg]; exact Nat.ne_of_lt (blk_lt (by exact BK110.out)) : gb110 ≠ gb117))
       have n12_ := Aside0.mk ((by rw [hg]; exact Nat.ne_of_gt (blk_lt (by exact BK110.out)) : gb117 ≠ gb110))
       clear BK108
       clear BK109
       clear BK110
       clear HB
       have BK108 := n0_
       have BK109 := n1_
       have BK110 := n2_
       have HB := n3_
       have BK117 := n4_
       have GW117 := n5_
       have GE117 := n6_
       have NB108_117 := n7_
       have NB117_108 := n8_
       have NB109_117 := n9_
       have NB117_109 := n10_
       have NB110_117 := n11_
       have NB117_110 := n12_
       clear n0_ n1_ n2_ n3_ n4_ n5_ n6_ n7_ n8_ n9_ n10_ n11_ n12_
       clear hb hbox hg
       refine hK.out _ _ ⟨(blk_cell BK108.out 0).trans rfl, (blk_cell BK108.out 1).trans rfl, (blk_cell BK108.out 2).trans rfl, (blk_cell BK108.out 3).trans rfl, (blk_cell BK108.out 4).trans rfl, (blk_cell BK108.out 5).trans rfl, (blk_cell BK108.out 6).trans rfl, (blk_cell BK109.out 0).trans rfl, (blk_cell BK109.out 1).trans rfl, (blk_cell BK109.out 2).trans rfl, (blk_cell BK109.out 3).trans rfl, (blk_cell BK109.out 4).trans rfl, (blk_cell BK109.out 5).trans rfl, (blk_cell BK110.out 0).trans rfl, (blk_cell BK110.out 1).trans rfl, (blk_cell BK110.out 2).trans rfl, (blk_cell BK110.out 3).trans rfl, (blk_cell BK110.out 4).trans rfl, (blk_cell BK110.out 5).trans rfl, ((HB.out.cell (World.block_lt_of_cell? w _ hw112_0)).trans hw112_0), ((HB.out.cell (World.block_lt_of_cell? w _ hw112_1)).trans hw112_1), ((HB.out.cell (World.block_lt_of_cell? w _ hw112_2)).trans hw112_2), ((HB.out.cell (World.block_lt_of_cell? w _ hw112_3)).trans hw112_3), ((HB.out.cell (World.block_lt_of_cell? w _ hw112_4)).trans hw112_4), ((HB.out.cell (World.block_lt_of_cell? w _ hw113_0)).trans hw113_0), ((HB.out.cell (World.block_lt_of_cell? w _ hw113_1)).trans hw113_1), ((HB.out.cell (World.block_lt_of_cell? w _ hw113_2)).trans hw113_2), ((HB.out.cell (World.block_lt_of_cell? w _ hw113_3)).trans hw113_3), ((HB.out.cell (World.block_lt_of_cell? w _ hw113_4)).trans hw113_4)⟩ (fun hHeld => ?_)
       clear hK K
       refine norm_ (a' := ?_) ?_ ?_
       rotate_left; show Act.put _ (some 7) _ = _; simp only [Act.put, pS_, pZ_, pC_, i64_w, i32_w]; rfl
       exact norm_ (by simp only [putAll, Act.put, List.setIfInBounds_toArray, List.set_cons_zero, List.set_cons_succ]) (hCont (gb117) _ ⟨hHeld, (by exact BK108.out), (by exact BK109.out), (by exact BK110.out), (by exact BK117.out), GW117.out, GE117.out, NB108_117.out, NB117_108.out, NB109_117.out, NB117_109.out, NB110_117.out, NB117_110.out, HB.out⟩)
      skip
      refine box_step ?hg (N := 7) ?hd (cs := #[.int .i64 0, .int .i64 0]) (t := 41) ?hr ?_; (case hd => rfl); (case hg => rfl); (case hr => (go_simp; done))
      intro gb117 hg w23 hbox hb
      have n0_ := Aside0.mk (blk_below (by exact BK108.out) hb)
      have n1_ := Aside0.mk (blk_below (by exact BK109.out) hb)
      have n2_ := Aside0.mk (blk_below (by exact BK110.out) hb)
      have n3_ := Aside0.mk (below_step HB.out hb)
      have n4_ := Aside0.mk (hbox)
      have n5_ := Aside0.mk ((by rw [hg]; exact (below_size HB.out) : w.heap.size ≤ gb117))
      have n6_ := Aside0.mk ((by rw [hg]; exact (below_size HB.out) : w.heap.size ≤ gb117))
      have n7_ := Aside0.mk ((by rw [hg]; exact Nat.ne_of_lt (blk_lt (by exact BK108.out)) : gb108 ≠ gb117))
      have n8_ := Aside0.mk ((by rw [hg]; exact Nat.ne_of_gt (blk_lt (by exact BK108.out)) : gb117 ≠ gb108))
      have n9_ := Aside0.mk ((by rw [hg]; exact Nat.ne_of_lt (blk_lt (by exact BK109.out)) : gb109 ≠ gb117))
      have n10_ := Aside0.mk ((by rw [hg]; exact Nat.ne_of_gt (blk_lt (by exact BK109.out)) : gb117 ≠ gb109))
      have n11_ := Aside0.mk ((by rw [hg]; exact Nat.ne_of_lt (blk_lt (by exact BK110.out)) : gb110 ≠ gb117))
      have n12_ := Aside0.mk ((by rw [hg]; exact Nat.ne_of_gt (blk_lt (by exact BK110.out)) : gb117 ≠ gb110))
      clear BK108
      clear BK109
      clear BK110
      clear HB
      have BK108 := n0_
      have BK109 := n1_
      have BK110 := n2_
      have HB := n3_
      have BK117 := n4_
      have GW117 := n5_
      have GE117 := n6_
      have NB108_117 := n7_
      have NB117_108 := n8_
      have NB109_117 := n9_
      have NB117_109 := n10_
      have NB110_117 := n11_
      have NB117_110 := n12_
      clear n0_ n1_ n2_ n3_ n4_ n5_ n6_ n7_ n8_ n9_ n10_ n11_ n12_
      clear hb hbox hg
      refine hK.out _ _ ⟨(blk_cell BK108.out 0).trans rfl, (blk_cell BK108.out 1).trans rfl, (blk_cell BK108.out 2).trans rfl, (blk_cell BK108.out 3).trans rfl, (blk_cell BK108.out 4).trans rfl, (blk_cell BK108.out 5).trans rfl, (blk_cell BK108.out 6).trans rfl, (blk_cell BK109.out 0).trans rfl, (blk_cell BK109.out 1).trans rfl, (blk_cell BK109.out 2).trans rfl, (blk_cell BK109.out 3).trans rfl, (blk_cell BK109.out 4).trans rfl, (blk_cell BK109.out 5).trans rfl, (blk_cell BK110.out 0).trans rfl, (blk_cell BK110.out 1).trans rfl, (blk_cell BK110.out 2).trans rfl, (blk_cell BK110.out 3).trans rfl, (blk_cell BK110.out 4).trans rfl, (blk_cell BK110.out 5).trans rfl, ((HB.out.cell (World.block_lt_of_cell? w _ hw112_0)).trans hw112_0), ((HB.out.cell (World.block_lt_of_cell? w _ hw112_1)).trans hw112_1), ((HB.out.cell (World.block_lt_of_cell? w _ hw112_2)).trans hw112_2), ((HB.out.cell (World.block_lt_of_cell? w _ hw112_3)).trans hw112_3), ((HB.out.cell (World.block_lt_of_cell? w _ hw112_4)).trans hw112_4), ((HB.out.cell (World.block_lt_of_cell? w _ hw113_0)).trans hw113_0), ((HB.out.cell (World.block_lt_of_cell? w _ hw113_1)).trans hw113_1), ((HB.out.cell (World.block_lt_of_cell? w _ hw113_2)).trans hw113_2), ((HB.out.cell (World.block_lt_of_cell? w _ hw113_3)).trans hw113_3), ((HB.out.cell (World.block_lt_of_cell? w _ hw113_4)).trans hw113_4)⟩ (fun hHeld => ?_)
      clear hK K
      refine norm_ (a' := ?_) ?_ ?_
      rotate_left; show Act.put _ (some 7) _ = _; simp only [Act.put, pS_, pZ_, pC_, i64_w, i32_w]; rfl
      refine one_ (i := 18) (N := some 40) #[Z1,Z1,Z1,Z1,Z1,Z1,Z1,Z1,Z1,Z1,Z1,Z1,Z1,Z1,Z1,Z1,Z1,Z1,Z1,Z0,Z0,Z0,Z1,Z0,Z0] rfl rfl (one_of HT_.out (by kernel_rfl)) (by decide) (fun K hK => ?_)
      refine goes_ Tryd.func15 (by kernel_rfl) rfl #[.int .i64 a0_1, .int .i64 a0_2, .agg #[.int .i64 ((rd_T50 l1_5 a0_0).f0.f0), .int .i64 ((rd_T50 l1_5 a0_0).f0.f1), .string ((rd_T50 l1_5 a0_0).f0.f2)], .agg #[.int .i64 ((rd_T50 l2_5 a0_0).f0.f0), .int .i64 ((rd_T50 l2_5 a0_0).f0.f1), .string ((rd_T50 l2_5 a0_0).f0.f2)]] (by rfl) rfl rfl (by (try simp only [List.map_toArray, List.map_cons, List.map_nil]); rfl) ?_
      with_reducible refine (measure_Of.calls k a0_1 a0_2 ((rd_T50 l1_5 a0_0).f0.f0) ((rd_T50 l1_5 a0_0).f0.f1) ((rd_T50 l1_5 a0_0).f0.f2) ((rd_T50 l2_5 a0_0).f0.f0) ((rd_T50 l2_5 a0_0).f0.f1) ((rd_T50 l2_5 a0_0).f0.f2) t114 t115 t116 _ ?sGl A10.out).mono ?_
      case sGl => exact Gl.below HGl.out HB.out
      rintro e w24 ⟨rfl, hb⟩
      refine ⟨_, rfl, ?_⟩
      have n0_ := Aside0.mk (blk_below (by exact BK108.out) hb)
      have n1_ := Aside0.mk (blk_below (by exact BK109.out) hb)
      have n2_ := Aside0.mk (blk_below (by exact BK110.out) hb)
      have n3_ := Aside0.mk (blk_below (by exact BK117.out) hb)
      have n4_ := Aside0.mk (below_step HB.out hb)
      clear BK108
      clear BK109
      clear BK110
      clear BK117
      clear HB
      have BK108 := n0_
      have BK109 := n1_
      have BK110 := n2_
      have BK117 := n3_
      have HB := n4_
      clear n0_ n1_ n2_ n3_ n4_
      (try clear hb)
      refine hK.out _ _ ⟨(blk_cell BK108.out 0).trans rfl, (blk_cell BK108.out 1).trans rfl, (blk_cell BK108.out 2).trans rfl, (blk_cell BK108.out 3).trans rfl, (blk_cell BK108.out 4).trans rfl, (blk_cell BK108.out 5).trans rfl, (blk_cell BK108.out 6).trans rfl, (blk_cell BK109.out 0).trans rfl, (blk_cell BK109.out 1).trans rfl, (blk_cell BK109.out 2).trans rfl, (blk_cell BK109.out 3).trans rfl, (blk_cell BK109.out 4).trans rfl, (blk_cell BK109.out 5).trans rfl, (blk_cell BK110.out 0).trans rfl, (blk_cell BK110.out 1).trans rfl, (blk_cell BK110.out 2).trans rfl, (blk_cell BK110.out 3).trans rfl, (blk_cell BK110.out 4).trans rfl, (blk_cell BK110.out 5).trans rfl, ((HB.out.cell (World.block_lt_of_cell? w _ hw112_0)).trans hw112_0), ((HB.out.cell (World.block_lt_of_cell? w _ hw112_1)).trans hw112_1), ((HB.out.cell (World.block_lt_of_cell? w _ hw112_2)).trans hw112_2), ((HB.out.cell (World.block_lt_of_cell? w _ hw112_3)).trans hw112_3), ((HB.out.cell (World.block_lt_of_cell? w _ hw112_4)).trans hw112_4), ((HB.out.cell (World.block_lt_of_cell? w _ hw113_0)).trans hw113_0), ((HB.out.cell (World.block_lt_of_cell? w _ hw113_1)).trans hw113_1), ((HB.out.cell (World.block_lt_of_cell? w _ hw113_2)).trans hw113_2), ((HB.out.cell (World.block_lt_of_cell? w _ hw113_3)).trans hw113_3), ((HB.out.cell (World.block_lt_of_cell? w _ hw113_4)).trans hw113_4)⟩ (fun hHeld => ?_)
      clear hK K
      refine norm_ (a' := ?_) ?_ ?_
      rotate_left; show Act.put _ (some 40) _ = _; simp only [Act.put, pS_, pZ_, pC_, i64_w, i32_w]; rfl
      refine pure_ (i := 19) (N := some 21) (v := ?_) (a' := ?_) #[Z1,Z1,Z1,Z1,Z1,Z1,Z1,Z1,Z1,Z1,Z1,Z1,Z1,Z1,Z1,Z1,Z1,Z1,Z1,Z1,Z0,Z0,Z1,Z0,Z0] rfl rfl (any_of HT_.out (by kernel_rfl)) (fun _ _ _ h => h) (Or.inl ⟨by rfl, ?_⟩) ?_ ?_
      rotate_left; intro w'; go_simp; with_reducible rfl; rotate_left; simp only [Act.put, pS_, pZ_, pC_, i64_w, i32_w]; rfl
      refine pure_ (i := 20) (N := some 41) (v := ?_) (a' := ?_) #[Z1,Z1,Z1,Z1,Z1,Z1,Z1,Z1,Z1,Z1,Z1,Z1,Z1,Z1,Z1,Z1,Z1,Z1,Z1,Z1,Z1,Z0,Z1,Z0,Z0] rfl rfl (any_of HT_.out (by kernel_rfl)) (fun _ _ _ h => h) (Or.inl ⟨by rfl, ?_⟩) ?_ ?_
      rotate_left; intro w'; go_simp; with_reducible rfl; rotate_left; simp only [Act.put, pS_, pZ_, pC_, i64_w, i32_w]; rfl
      refine pure_ (i := 21) (N := some 42) (v := ?_) (a' := ?_) #[Z1,Z1,Z1,Z1,Z1,Z1,Z1,Z1,Z1,Z1,Z1,Z1,Z1,Z1,Z1,Z1,Z1,Z1,Z1,Z1,Z1,Z1,Z1,Z0,Z0] rfl rfl (any_of HT_.out (by kernel_rfl)) (fun _ _ _ h => h) (Or.inl ⟨by rfl, ?_⟩) ?_ ?_
      rotate_left; intro w'; go_simp; with_reducible rfl; rotate_left; simp only [Act.put, pS_, pZ_, pC_, i64_w, i32_w]; rfl
      exact norm_ (by simp only [putAll, Act.put, List.setIfInBounds_toArray, List.set_cons_zero, List.set_cons_succ]) (hCont (gb117) _ ⟨hHeld, (by exact BK108.out), (by exact BK109.out), (by exact BK110.out), (by exact BK117.out), GW117.out, GE117.out, NB108_117.out, NB117_108.out, NB109_117.out, NB117_109.out, NB110_117.out, NB117_110.out, HB.out⟩)
     rintro gb117 w25 ⟨hS_, h0_, h1_, h2_, h3_, h4_, h5_, h6_, h7_, h8_, h9_, h10_, h11_, h12_⟩
     have n0_ : Aside0 (w25.heap[gb108]? = some (.cells #[.int .i64 a0_0, .int .i64 a0_1, .int .i64 a0_2, .int .i64 a0_3, .int .i64 a0_4, .int .i64 a0_5, .int .i64 a0_6] 43 (0, 0))) := ⟨h0_⟩
     have n1_ : Aside0 (w25.heap[gb109]? = some (.cells #[.int .i64 a1_0, .string a1_1, .string a1_2, .int .i64 a1_3, .int .i64 a1_4, .slice (some ad112) l1_5.length c1_5] 29 (0, 0))) := ⟨h1_⟩
     have n2_ : Aside0 (w25.heap[gb110]? = some (.cells #[.int .i64 a2_0, .string a2_1, .string a2_2, .int .i64 a2_3, .int .i64 a2_4, .slice (some ad113) l2_5.length c2_5] 29 (0, 0))) := ⟨h2_⟩
     have n3_ : Aside0 (w25.heap[gb117]? = some (.cells #[.int .i64 0, .int .i64 0] 41 (0, 0))) := ⟨h3_⟩
     have n4_ : Aside0 (w.heap.size ≤ gb117) := ⟨h4_⟩
     have n5_ : Aside0 (w.heap.size ≤ gb117) := ⟨h5_⟩
     have n6_ : Aside0 (gb108 ≠ gb117) := ⟨h6_⟩
     have n7_ : Aside0 (gb117 ≠ gb108) := ⟨h7_⟩
     have n8_ : Aside0 (gb109 ≠ gb117) := ⟨h8_⟩
     have n9_ : Aside0 (gb117 ≠ gb109) := ⟨h9_⟩
     have n10_ : Aside0 (gb110 ≠ gb117) := ⟨h10_⟩
     have n11_ : Aside0 (gb117 ≠ gb110) := ⟨h11_⟩
     have n12_ : Aside0 (Below w.heap.size w w25) := ⟨h12_⟩
     clear BK108
     clear BK109
     clear BK110
     clear HB
     clear h0_ h1_ h2_ h3_ h4_ h5_ h6_ h7_ h8_ h9_ h10_ h11_ h12_
     have BK108 := n0_
     have BK109 := n1_
     have BK110 := n2_
     have BK117 := n3_
     have GW117 := n4_
     have GE117 := n5_
     have NB108_117 := n6_
     have NB117_108 := n7_
     have NB109_117 := n8_
     have NB117_109 := n9_
     have NB110_117 := n10_
     have NB117_110 := n11_
     have HB := n12_
     clear n0_ n1_ n2_ n3_ n4_ n5_ n6_ n7_ n8_ n9_ n10_ n11_ n12_
     have hHeld : w25.cell? ⟨gb108, 0, none⟩ = some (.int .i64 a0_0) ∧ w25.cell? ⟨gb108, 1, none⟩ = some (.int .i64 a0_1) ∧ w25.cell? ⟨gb108, 2, none⟩ = some (.int .i64 a0_2) ∧ w25.cell? ⟨gb108, 3, none⟩ = some (.int .i64 a0_3) ∧ w25.cell? ⟨gb108, 4, none⟩ = some (.int .i64 a0_4) ∧ w25.cell? ⟨gb108, 5, none⟩ = some (.int .i64 a0_5) ∧ w25.cell? ⟨gb108, 6, none⟩ = some (.int .i64 a0_6) ∧ w25.cell? ⟨gb109, 0, none⟩ = some (.int .i64 a1_0) ∧ w25.cell? ⟨gb109, 1, none⟩ = some (.string a1_1) ∧ w25.cell? ⟨gb109, 2, none⟩ = some (.string a1_2) ∧ w25.cell? ⟨gb109, 3, none⟩ = some (.int .i64 a1_3) ∧ w25.cell? ⟨gb109, 4, none⟩ = some (.int .i64 a1_4) ∧ w25.cell? ⟨gb109, 5, none⟩ = some (.slice (some ad112) l1_5.length c1_5) ∧ w25.cell? ⟨gb110, 0, none⟩ = some (.int .i64 a2_0) ∧ w25.cell? ⟨gb110, 1, none⟩ = some (.string a2_1) ∧ w25.cell? ⟨gb110, 2, none⟩ = some (.string a2_2) ∧ w25.cell? ⟨gb110, 3, none⟩ = some (.int .i64 a2_3) ∧ w25.cell? ⟨gb110, 4, none⟩ = some (.int .i64 a2_4) ∧ w25.cell? ⟨gb110, 5, none⟩ = some (.slice (some ad113) l2_5.length c2_5) ∧ w25.cell? (ad112.add ((a0_0).toNat * 5)) = some (.int .i64 ((rd_T50 l1_5 a0_0).f0.f0)) ∧ w25.cell? ⟨(ad112.add ((a0_0).toNat * 5)).block, (ad112.add ((a0_0).toNat * 5)).off + 1, none⟩ = some (.int .i64 ((rd_T50 l1_5 a0_0).f0.f1)) ∧ w25.cell? ⟨(ad112.add ((a0_0).toNat * 5)).block, (ad112.add ((a0_0).toNat * 5)).off + 2, none⟩ = some (.string ((rd_T50 l1_5 a0_0).f0.f2)) ∧ w25.cell? ⟨(ad112.add ((a0_0).toNat * 5)).block, (ad112.add ((a0_0).toNat * 5)).off + 3, none⟩ = some (.int .i64 ((rd_T50 l1_5 a0_0).f1)) ∧ w25.cell? ⟨(ad112.add ((a0_0).toNat * 5)).block, (ad112.add ((a0_0).toNat * 5)).off + 4, none⟩ = some (.int .i64 ((rd_T50 l1_5 a0_0).f2)) ∧ w25.cell? (ad113.add ((a0_0).toNat * 5)) = some (.int .i64 ((rd_T50 l2_5 a0_0).f0.f0)) ∧ w25.cell? ⟨(ad113.add ((a0_0).toNat * 5)).block, (ad113.add ((a0_0).toNat * 5)).off + 1, none⟩ = some (.int .i64 ((rd_T50 l2_5 a0_0).f0.f1)) ∧ w25.cell? ⟨(ad113.add ((a0_0).toNat * 5)).block, (ad113.add ((a0_0).toNat * 5)).off + 2, none⟩ = some (.string ((rd_T50 l2_5 a0_0).f0.f2)) ∧ w25.cell? ⟨(ad113.add ((a0_0).toNat * 5)).block, (ad113.add ((a0_0).toNat * 5)).off + 3, none⟩ = some (.int .i64 ((rd_T50 l2_5 a0_0).f1)) ∧ w25.cell? ⟨(ad113.add ((a0_0).toNat * 5)).block, (ad113.add ((a0_0).toNat * 5)).off + 4, none⟩ = some (.int .i64 ((rd_T50 l2_5 a0_0).f2)) := hS_
     refine norm_ (a' := ?_) ?_ ?_
     rotate_left
     ·simp only [putAll, Act.put, List.setIfInBounds_toArray, List.set_cons_zero, List.set_cons_succ]
      rfl
     refine one_ (i := 23) (N := none) #[Z1,Z1,Z1,Z1,Z1,Z1,Z1,Z1,Z1,Z1,Z1,Z1,Z1,Z1,Z1,Z1,Z1,Z1,Z1,Z1,Z1,Z1,Z1,Z1,Z0] rfl rfl (one_of HT_.out (by kernel_rfl)) (by decide) (fun K hK => ?_)
     have hs26 : w25.cell? ⟨gb117, 0, none⟩ = some (.int .i64 0) := (blk_cell BK117.out 0).trans rfl
     have hfs26 := blk_frozen BK117.out 0
     have hns26_0 := NB108_117.out
     have hns26_1 := NB109_117.out
     have hns26_2 := NB110_117.out
     have hms26_0 := NB117_108.out
     have hms26_1 := NB117_109.out
     have hms26_2 := NB117_110.out
     have hs27 : w25.cell? ⟨gb117, 1, none⟩ = some (.int .i64 0) := (blk_cell BK117.out 1).trans rfl
     have hfs27 := blk_frozen BK117.out 1
     have hns27_0 := NB108_117.out
     have hns27_1 := NB109_117.out
     have hns27_2 := NB110_117.out
     have hms27_0 := NB117_108.out
     have hms27_1 := NB117_109.out
     have hms27_2 := NB117_110.out
     refine skip_ (w1 := ?_) (by rfl) rfl ?_ ?_
     rotate_left
     ·go_simp
      rfl
     refine hK.out _ _ ⟨((cell_far (p := ⟨gb117, _, none⟩) NB108_117.out _).trans (((cell_far (p := ⟨gb117, _, none⟩) NB108_117.out _).trans (hHeld.1)))), ((cell_far (p := ⟨gb117, _, none⟩) NB108_117.out _).trans (((cell_far (p := ⟨gb117, _, none⟩) NB108_117.out _).trans (hHeld.2.1)))), ((cell_far (p := ⟨gb117, _, none⟩) NB108_117.out _).trans (((cell_far (p := ⟨gb117, _, none⟩) NB108_117.out _).trans (hHeld.2.2.1)))), ((cell_far (p := ⟨gb117, _, none⟩) NB108_117.out _).trans (((cell_far (p := ⟨gb117, _, none⟩) NB108_117.out _).trans (hHeld.2.2.2.1)))), ((cell_far (p := ⟨gb117, _, none⟩) NB108_117.out _).trans (((cell_far (p := ⟨gb117, _, none⟩) NB108_117.out _).trans (hHeld.2.2.2.2.1)))), ((cell_far (p := ⟨gb117, _, none⟩) NB108_117.out _).trans (((cell_far (p := ⟨gb117, _, none⟩) NB108_117.out _).trans (hHeld.2.2.2.2.2.1)))), ((cell_far (p := ⟨gb117, _, none⟩) NB108_117.out _).trans (((cell_far (p := ⟨gb117, _, none⟩) NB108_117.out _).trans (hHeld.2.2.2.2.2.2.1)))), ((cell_far (p := ⟨gb117, _, none⟩) NB109_117.out _).trans (((cell_far (p := ⟨gb117, _, none⟩) NB109_117.out _).trans (hHeld.2.2.2.2.2.2.2.1)))), ((cell_far (p := ⟨gb117, _, none⟩) NB109_117.out _).trans (((cell_far (p := ⟨gb117, _, none⟩) NB109_117.out _).trans (hHeld.2.2.2.2.2.2.2.2.1)))), ((cell_far (p := ⟨gb117, _, none⟩) NB109_117.out _).trans (((cell_far (p := ⟨gb117, _, none⟩) NB109_117.out _).trans (hHeld.2.2.2.2.2.2.2.2.2.1)))), ((cell_far (p := ⟨gb117, _, none⟩) NB109_117.out _).trans (((cell_far (p := ⟨gb117, _, none⟩) NB109_117.out _).trans (hHeld.2.2.2.2.2.2.2.2.2.2.1)))), ((cell_far (p := ⟨gb117, _, none⟩) NB109_117.out _).trans (((cell_far (p := ⟨gb117, _, none⟩) NB109_117.out _).trans (hHeld.2.2.2.2.2.2.2.2.2.2.2.1)))), ((cell_far (p := ⟨gb117, _, none⟩) NB109_117.out _).trans (((cell_far (p := ⟨gb117, _, none⟩) NB109_117.out _).trans (hHeld.2.2.2.2.2.2.2.2.2.2.2.2.1)))), ((cell_far (p := ⟨gb117, _, none⟩) NB110_117.out _).trans (((cell_far (p := ⟨gb117, _, none⟩) NB110_117.out _).trans (hHeld.2.2.2.2.2.2.2.2.2.2.2.2.2.1)))), ((cell_far (p := ⟨gb117, _, none⟩) NB110_117.out _).trans (((cell_far (p := ⟨gb117, _, none⟩) NB110_117.out _).trans (hHeld.2.2.2.2.2.2.2.2.2.2.2.2.2.2.1)))), ((cell_far (p := ⟨gb117, _, none⟩) NB110_117.out _).trans (((cell_far (p := ⟨gb117, _, none⟩) NB110_117.out _).trans (hHeld.2.2.2.2.2.2.2.2.2.2.2.2.2.2.2.1)))), ((cell_far (p := ⟨gb117, _, none⟩) NB110_117.out _).trans (((cell_far (p := ⟨gb117, _, none⟩) NB110_117.out _).trans (hHeld.2.2.2.2.2.2.2.2.2.2.2.2.2.2.2.2.1)))), ((cell_far (p := ⟨gb117, _, none⟩) NB110_117.out _).trans (((cell_far (p := ⟨gb117, _, none⟩) NB110_117.out _).trans (hHeld.2.2.2.2.2.2.2.2.2.2.2.2.2.2.2.2.2.1)))), ((cell_far (p := ⟨gb117, _, none⟩) NB110_117.out _).trans (((cell_far (p := ⟨gb117, _, none⟩) NB110_117.out _).trans (hHeld.2.2.2.2.2.2.2.2.2.2.2.2.2.2.2.2.2.2.1)))), ((cell_far (p := ⟨gb117, _, none⟩) (by (exact Nat.ne_of_lt (Nat.lt_of_lt_of_le (by have := World.block_lt_of_cell? _ _ hw112_0; (exact this)) GW117.out))) _).trans (((cell_far (p := ⟨gb117, _, none⟩) (by (exact Nat.ne_of_lt (Nat.lt_of_lt_of_le (by have := World.block_lt_of_cell? _ _ hw112_0; (exact this)) GW117.out))) _).trans (hHeld.2.2.2.2.2.2.2.2.2.2.2.2.2.2.2.2.2.2.2.1)))), ((cell_far (p := ⟨gb117, _, none⟩) (by (exact Nat.ne_of_lt (Nat.lt_of_lt_of_le (by have := World.block_lt_of_cell? _ _ hw112_1; (exact this)) GW117.out))) _).trans (((cell_far (p := ⟨gb117, _, none⟩) (by (exact Nat.ne_of_lt (Nat.lt_of_lt_of_le (by have := World.block_lt_of_cell? _ _ hw112_1; (exact this)) GW117.out))) _).trans (hHeld.2.2.2.2.2.2.2.2.2.2.2.2.2.2.2.2.2.2.2.2.1)))), ((cell_far (p := ⟨gb117, _, none⟩) (by (exact Nat.ne_of_lt (Nat.lt_of_lt_of_le (by have := World.block_lt_of_cell? _ _ hw112_2; (exact this)) GW117.out))) _).trans (((cell_far (p := ⟨gb117, _, none⟩) (by (exact Nat.ne_of_lt (Nat.lt_of_lt_of_le (by have := World.block_lt_of_cell? _ _ hw112_2; (exact this)) GW117.out))) _).trans (hHeld.2.2.2.2.2.2.2.2.2.2.2.2.2.2.2.2.2.2.2.2.2.1)))), ((cell_far (p := ⟨gb117, _, none⟩) (by (exact Nat.ne_of_lt (Nat.lt_of_lt_of_le (by have := World.block_lt_of_cell? _ _ hw112_3; (exact this)) GW117.out))) _).trans (((cell_far (p := ⟨gb117, _, none⟩) (by (exact Nat.ne_of_lt (Nat.lt_of_lt_of_le (by have := World.block_lt_of_cell? _ _ hw112_3; (exact this)) GW117.out))) _).trans (hHeld.2.2.2.2.2.2.2.2.2.2.2.2.2.2.2.2.2.2.2.2.2.2.1)))), ((cell_far (p := ⟨gb117, _, none⟩) (by (exact Nat.ne_of_lt (Nat.lt_of_lt_of_le (by have := World.block_lt_of_cell? _ _ hw112_4; (exact this)) GW117.out))) _).trans (((cell_far (p := ⟨gb117, _, none⟩) (by (exact Nat.ne_of_lt (Nat.lt_of_lt_of_le (by have := World.block_lt_of_cell? _ _ hw112_4; (exact this)) GW117.out))) _).trans (hHeld.2.2.2.2.2.2.2.2.2.2.2.2.2.2.2.2.2.2.2.2.2.2.2.1)))), ((cell_far (p := ⟨gb117, _, none⟩) (by (exact Nat.ne_of_lt (Nat.lt_of_lt_of_le (by have := World.block_lt_of_cell? _ _ hw113_0; (exact this)) GW117.out))) _).trans (((cell_far (p := ⟨gb117, _, none⟩) (by (exact Nat.ne_of_lt (Nat.lt_of_lt_of_le (by have := World.block_lt_of_cell? _ _ hw113_0; (exact this)) GW117.out))) _).trans (hHeld.2.2.2.2.2.2.2.2.2.2.2.2.2.2.2.2.2.2.2.2.2.2.2.2.1)))), ((cell_far (p := ⟨gb117, _, none⟩) (by (exact Nat.ne_of_lt (Nat.lt_of_lt_of_le (by have := World.block_lt_of_cell? _ _ hw113_1; (exact this)) GW117.out))) _).trans (((cell_far (p := ⟨gb117, _, none⟩) (by (exact Nat.ne_of_lt (Nat.lt_of_lt_of_le (by have := World.block_lt_of_cell? _ _ hw113_1; (exact this)) GW117.out))) _).trans (hHeld.2.2.2.2.2.2.2.2.2.2.2.2.2.2.2.2.2.2.2.2.2.2.2.2.2.1)))), ((cell_far (p := ⟨gb117, _, none⟩) (by (exact Nat.ne_of_lt (Nat.lt_of_lt_of_le (by have := World.block_lt_of_cell? _ _ hw113_2; (exact this)) GW117.out))) _).trans (((cell_far (p := ⟨gb117, _, none⟩) (by (exact Nat.ne_of_lt (Nat.lt_of_lt_of_le (by have := World.block_lt_of_cell? _ _ hw113_2; (exact this)) GW117.out))) _).trans (hHeld.2.2.2.2.2.2.2.2.2.2.2.2.2.2.2.2.2.2.2.2.2.2.2.2.2.2.1)))), ((cell_far (p := ⟨gb117, _, none⟩) (by (exact Nat.ne_of_lt (Nat.lt_of_lt_of_le (by have := World.block_lt_of_cell? _ _ hw113_3; (exact this)) GW117.out))) _).trans (((cell_far (p := ⟨gb117, _, none⟩) (by (exact Nat.ne_of_lt (Nat.lt_of_lt_of_le (by have := World.block_lt_of_cell? _ _ hw113_3; (exact this)) GW117.out))) _).trans (hHeld.2.2.2.2.2.2.2.2.2.2.2.2.2.2.2.2.2.2.2.2.2.2.2.2.2.2.2.1)))), ((cell_far (p := ⟨gb117, _, none⟩) (by (exact Nat.ne_of_lt (Nat.lt_of_lt_of_le (by have := World.block_lt_of_cell? _ _ hw113_4; (exact this)) GW117.out))) _).trans (((cell_far (p := ⟨gb117, _, none⟩) (by (exact Nat.ne_of_lt (Nat.lt_of_lt_of_le (by have := World.block_lt_of_cell? _ _ hw113_4; (exact this)) GW117.out))) _).trans (hHeld.2.2.2.2.2.2.2.2.2.2.2.2.2.2.2.2.2.2.2.2.2.2.2.2.2.2.2.2))))⟩ (fun hHeld => ?_)
     clear hK K
     refine pure_ (i := 24) (N := some 8) (v := ?_) (a' := ?_) #[Z1,Z1,Z1,Z1,Z1,Z1,Z1,Z1,Z1,Z1,Z1,Z1,Z1,Z1,Z1,Z1,Z1,Z1,Z1,Z1,Z1,Z1,Z1,Z1,Z1] rfl rfl (any_of HT_.out (by kernel_rfl)) (fun _ _ _ h => h) (Or.inl ⟨by rfl, ?_⟩) ?_ ?_
     rotate_left; intro w'; go_simp; with_reducible rfl; rotate_left; simp only [Act.put, pS_, pZ_, pC_, i64_w, i32_w]; rfl
     refine done_ (done_of HT_.out (by kernel_rfl)) ?_
     have hnb28 := NB117_108.out
     have hnc28 := NB108_117.out
     have hnb29 := NB117_109.out
     have hnc29 := NB109_117.out
     have hnb30 := NB117_110.out
     have hnc30 := NB110_117.out
     have hcz31_0 := cel_ BK117.out 0 rfl
     have hcz31_1 := cel_ BK117.out 1 rfl
     have hfz31_0 := blk_frozen BK117.out 0
     have hfz31_1 := blk_frozen BK117.out 1
     have hcz32_0 := cel_ BK108.out 0 rfl
     have hcz32_1 := cel_ BK108.out 1 rfl
     have hcz32_2 := cel_ BK108.out 2 rfl
     have hcz32_3 := cel_ BK108.out 3 rfl
     have hcz32_4 := cel_ BK108.out 4 rfl
     have hcz32_5 := cel_ BK108.out 5 rfl
     have hcz32_6 := cel_ BK108.out 6 rfl
     have hfz32_0 := blk_frozen BK108.out 0
     have hfz32_1 := blk_frozen BK108.out 1
     have hfz32_2 := blk_frozen BK108.out 2
     have hfz32_3 := blk_frozen BK108.out 3
     have hfz32_4 := blk_frozen BK108.out 4
     have hfz32_5 := blk_frozen BK108.out 5
     have hfz32_6 := blk_frozen BK108.out 6
     have H := HH.out
     clear HH
     by_cases c11 : t116 = 0
     ·rw [if_pos c11] at H
      have c11b0 : (t116 == 0) = true := beq_iff_eq.mpr c11
      have c11b1 : (t116 != 0) = false := bne_eq_false_iff_eq.mpr c11
      clear c11
      replace H := Option.bind_eq_some_iff.mp H
      obtain ⟨t118, A120, H⟩ := H
      replace H : (some (decide (t118 ≥ 0))) = some r := H
      have A12 := Aside0.mk A120
      clear A120
      obtain rfl := Option.some.inj H
      try go_wp2_with (first | (go_at_call 50; (with_reducible refine (ratio_Cmp.calls k t114 t115 a0_3 a0_4 t118 _ A12.out).mono ?_); rintro e w33 ⟨rfl, hb⟩; have n0_ := Aside0.mk (blk_below (g := gb108) (o := .cells #[.int .i64 a0_0, .int .i64 a0_1, .int .i64 a0_2, .int .i64 a0_3, .int .i64 a0_4, .int .i64 a0_5, .int .i64 a0_6] 43 (0, 0)) (by refine blk_far ?_ NB108_117.out _; refine blk_far ?_ NB108_117.out _; exact BK108.out) hb); have n1_ := Aside0.mk (blk_below (g := gb109) (o := .cells #[.int .i64 a1_0, .string a1_1, .string a1_2, .int .i64 a1_3, .int .i64 a1_4, .slice (some ad112) l1_5.length c1_5] 29 (0, 0)) (by refine blk_far ?_ NB109_117.out _; refine blk_far ?_ NB109_117.out _; exact BK109.out) hb); have n2_ := Aside0.mk (blk_below (g := gb110) (o := .cells #[.int .i64 a2_0, .string a2_1, .string a2_2, .int .i64 a2_3, .int .i64 a2_4, .slice (some ad113) l2_5.length c2_5] 29 (0, 0)) (by refine blk_far ?_ NB110_117.out _; refine blk_far ?_ NB110_117.out _; exact BK110.out) hb); have n3_ := Aside0.mk (blk_below (g := gb117) (o := .cells #[.int .i64 t114, .int .i64 t115] 41 (0, 0)) (by refine blk_put (cs := #[.int .i64 t114, .int .i64 0]) ?_ 1 _ rfl; refine blk_put (cs := #[.int .i64 0, .int .i64 0]) ?_ 0 _ rfl; exact BK117.out) hb); have n4_ := Aside0.mk (below_step (by repeat ((with_reducible first | exact HB.out | refine below_set ?_ GE117.out))) hb); clear BK108; clear BK109; clear BK110; clear BK117; clear HB; have BK108 := n0_; have BK109 := n1_; have BK110 := n2_; have BK117 := n3_; have HB := n4_; clear n0_ n1_ n2_ n3_ n4_; (try clear hb)))
      go_ret
      exact ⟨by rfl, by repeat ((with_reducible (exact HB.out)))⟩
     rw [if_neg c11] at H
     have c11b0 : (t116 == 0) = false := beq_eq_false_iff_ne.mpr c11
     have c11b1 : (t116 != 0) = true := bne_iff_ne.mpr c11
     obtain rfl := Option.some.inj H
     try go_wp2
     go_ret
     exact ⟨by rfl, by repeat ((with_reducible first | exact HB.out | refine below_set ?_ GE117.out))⟩
    rw [if_neg c9] at H
    exact absurd H (by simp)
   rw [if_neg c8] at H
   exact absurd H (by simp)
  rw [if_neg c7] at H
  exact absurd H (by simp)
 replace c6 := Bool.eq_false_iff.mpr c6
 subst c6
 have H1 : (some false) = some r := by rw [if_neg (show ¬ (false = true) by decide)] at H; exact H
 clear H
 have H := H1
 clear H1
 obtain rfl := Option.some.inj H
 go_enter Tryd.func33, Tryd.ntmps33
 go_wp2_with (first | ((with_reducible refine gate_dst (N := 3) rfl ?_); refine box_event ?hg (N := 3) ?hd (cs := #[.int .i64 a0_0, .int .i64 a0_1, .int .i64 a0_2, .int .i64 a0_3, .int .i64 a0_4, .int .i64 a0_5, .int .i64 a0_6]) (t := 43) ?hr ?_; (case hd => rfl); (case hg => rfl); (case hr => (go_simp; done)); intro gb108 hg w49 hbox hb; have n0_ := Aside0.mk (below_step HB.out hb); have n1_ := Aside0.mk (hbox); clear HB; have HB := n0_; have BK108 := n1_; clear n0_ n1_; clear hb hbox hg) | ((with_reducible refine gate_dst (N := 4) rfl ?_); refine box_event ?hg (N := 4) ?hd (cs := #[.int .i64 a1_0, .string a1_1, .string a1_2, .int .i64 a1_3, .int .i64 a1_4, .slice A1_5 l1_5.length c1_5]) (t := 29) ?hr ?_; (case hd => rfl); (case hg => rfl); (case hr => (go_simp; done)); intro gb109 hg w50 hbox hb; have n0_ := Aside0.mk (blk_below (by exact BK108.out) hb); have n1_ := Aside0.mk (below_step HB.out hb); have n2_ := Aside0.mk (hbox); have n5_ := Aside0.mk ((by rw [hg]; exact Nat.ne_of_lt (blk_lt (by exact BK108.out)) : gb108 ≠ gb109)); have n6_ := Aside0.mk ((by rw [hg]; exact Nat.ne_of_gt (blk_lt (by exact BK108.out)) : gb109 ≠ gb108)); clear BK108; clear HB; have BK108 := n0_; have HB := n1_; have BK109 := n2_; have NB108_109 := n5_; have NB109_108 := n6_; clear n0_ n1_ n2_ n5_ n6_; clear hb hbox hg) | ((with_reducible refine gate_dst (N := 5) rfl ?_); refine box_event ?hg (N := 5) ?hd (cs := #[.int .i64 a2_0, .string a2_1, .string a2_2, .int .i64 a2_3, .int .i64 a2_4, .slice A2_5 l2_5.length c2_5]) (t := 29) ?hr ?_; (case hd => rfl); (case hg => rfl); (case hr => (go_simp; done)); intro gb110 hg w51 hbox hb; have n0_ := Aside0.mk (blk_below (by exact BK108.out) hb); have n1_ := Aside0.mk (blk_below (by exact BK109.out) hb); have n2_ := Aside0.mk (below_step HB.out hb); have n3_ := Aside0.mk (hbox); have n6_ := Aside0.mk ((by rw [hg]; exact Nat.ne_of_lt (blk_lt (by exact BK108.out)) : gb108 ≠ gb110)); have n7_ := Aside0.mk ((by rw [hg]; exact Nat.ne_of_gt (blk_lt (by exact BK108.out)) : gb110 ≠ gb108)); have n8_ := Aside0.mk ((by rw [hg]; exact Nat.ne_of_lt (blk_lt (by exact BK109.out)) : gb109 ≠ gb110)); have n9_ := Aside0.mk ((by rw [hg]; exact Nat.ne_of_gt (blk_lt (by exact BK109.out)) : gb110 ≠ gb109)); clear BK108; clear BK109; clear HB; have BK108 := n0_; have BK109 := n1_; have HB := n2_; have BK110 := n3_; have NB108_110 := n6_; have NB110_108 := n7_; have NB109_110 := n8_; have NB110_109 := n9_; clear n0_ n1_ n2_ n3_ n6_ n7_ n8_ n9_; clear hb hbox hg; have hnb52 := NB108_109.out; have hnc52 := NB109_108.out; have hnb53 := NB108_110.out; have hnc53 := NB110_108.out; have hcz54_0 := cel_ BK108.out 0 rfl; have hcz54_1 := cel_ BK108.out 1 rfl; have hcz54_2 := cel_ BK108.out 2 rfl; have hcz54_3 := cel_ BK108.out 3 rfl; have hcz54_4 := cel_ BK108.out 4 rfl; have hcz54_5 := cel_ BK108.out 5 rfl; have hcz54_6 := cel_ BK108.out 6 rfl; have hfz54_0 := blk_frozen BK108.out 0; have hfz54_1 := blk_frozen BK108.out 1; have hfz54_2 := blk_frozen BK108.out 2; have hfz54_3 := blk_frozen BK108.out 3; have hfz54_4 := blk_frozen BK108.out 4; have hfz54_5 := blk_frozen BK108.out 5; have hfz54_6 := blk_frozen BK108.out 6; have hnb55 := NB109_110.out; have hnc55 := NB110_109.out; have hcz56_0 := cel_ BK109.out 0 rfl; have hcz56_1 := cel_ BK109.out 1 rfl; have hcz56_2 := cel_ BK109.out 2 rfl; have hcz56_3 := cel_ BK109.out 3 rfl; have hcz56_4 := cel_ BK109.out 4 rfl; have hcz56_5 := cel_ BK109.out 5 rfl; have hfz56_0 := blk_frozen BK109.out 0; have hfz56_1 := blk_frozen BK109.out 1; have hfz56_2 := blk_frozen BK109.out 2; have hfz56_3 := blk_frozen BK109.out 3; have hfz56_4 := blk_frozen BK109.out 4; have hfz56_5 := blk_frozen BK109.out 5; have hcz57_0 := cel_ BK110.out 0 rfl; have hcz57_1 := cel_ BK110.out 1 rfl; have hcz57_2 := cel_ BK110.out 2 rfl; have hcz57_3 := cel_ BK110.out 3 rfl; have hcz57_4 := cel_ BK110.out 4 rfl; have hcz57_5 := cel_ BK110.out 5 rfl; have hfz57_0 := blk_frozen BK110.out 0; have hfz57_1 := blk_frozen BK110.out 1; have hfz57_2 := blk_frozen BK110.out 2; have hfz57_3 := blk_frozen BK110.out 3; have hfz57_4 := blk_frozen BK110.out 4; have hfz57_5 := blk_frozen BK110.out 5) | ((with_reducible refine gate_callee (f := 26) rfl ?_); refine goesL_ (some 19) rfl rfl Tryd.func26 (by kernel_rfl) rfl #[.int .i64 0, .int .i64 a0_0, .int .i64 (wrap64 ((ji4) - 1))] rfl (by (try simp only [List.map_toArray, List.map_cons, List.map_nil]); rfl) ?_; (with_reducible refine (match_between.calls 0 a0_0 (wrap64 ((ji4) - 1)) false _ A5.out).mono ?_); rintro e w' ⟨rfl, ⟨nd, rfl⟩⟩; refine ⟨_, rfl, ?_⟩))
 go_ret
 exact ⟨by rfl, by repeat ((with_reducible first | exact HB.out | apply pw_below_drewN))⟩

end Go.Proofs.YtiffkknhnmpgbaaDoor.R
end

section
/- What the contract of Of tells, in plain values. -/
namespace Go.Proofs.YtiffkknhnmpgbaaDoor.Pure
open Go Go.RowKit Go.Proofs.YtiffkknhnmpgbaaDoor.Q Go.Proofs.YtiffkknhnmpgbaaDoor.CL Go.Proofs.YtiffkknhnmpgbaaDoorW.PrintWords Go.Proofs.YtiffkknhnmpgbaaDoorW.PrintLast Go.Proofs.YtiffkknhnmpgbaaDoorW.PrintMore
set_option linter.unusedVariables false
set_option linter.unusedSimpArgs false

/-- How alike two texts are by their edit distance. -/
def alikeS (a b : List UInt8) : Int × Int := if max a.length b.length = 0 then (1, 1) else rat (max a.length b.length - dist a b) (max a.length b.length)
theorem alike_f (a b : ByteArray) (ha : a.toList.length ≤ 1000) (hb : b.toList.length ≤ 1000) : Ev (fun k => measure_Alike.f k a b) (alikeS a.toList b.toList) := by
  have e0 := tl_size a
  have e1 := tl_size b
  have hm : mx (a.size : Int) (b.size : Int) = ((max a.toList.length b.toList.length : Nat) : Int) := by rw [mx_nat, e0, e1]
  unfold alikeS
  refine Ev.congr (fun k => by unfold measure_Alike.f; rw [hm]) ?_
  by_cases h0 : max a.toList.length b.toList.length = 0
  · rw [if_pos h0]
    exact Ev.congr (fun k => by rw [if_pos (by omega)]) (Ev.now _)
  · rw [if_neg h0]
    refine Ev.congr (fun k => by rw [if_neg (by omega)]) (Ev.bind (edit_f a b ha hb) ?_)
    have hd := (dist_bounds a.toList b.toList).2.2
    have e2 : wrap64 (((max a.toList.length b.toList.length : Nat) : Int) - ((dist a.toList b.toList : Nat) : Int)) = ((max a.toList.length b.toList.length - dist a.toList b.toList : Nat) : Int) := by
      rw [i64_id (by omega) (by omega)]; omega
    rw [e2]
    exact Ev.bind (share_f _ _ (by omega) (by omega) (by omega)) (Ev.now _)
theorem alikeS_low (a b : List UInt8) (ha : a.length ≤ 1000) (hb : b.length ≤ 1000) : ∃ p q, Low (alikeS a b) p q := by
  unfold alikeS
  split
  · exact ⟨1, 1, low_one⟩
  · have hd := (dist_bounds a b).2.2
    obtain ⟨p, q, _, hl, _⟩ := rat_low (n := max a.length b.length - dist a b) (d := max a.length b.length) (by omega) (by omega) (by omega)
    exact ⟨p, q, hl⟩
def jaroB (x y : ByteArray) : Int × Int := if 200 < x.size ∨ 200 < y.size then (0, 1) else jaroN x.size y.size (jA x) (jA y)
theorem jaroB_f (x y : ByteArray) : Ev (fun k => measure_Jaro.f k x y) (jaroB x y) := by
  unfold jaroB
  by_cases h : 200 < x.size ∨ 200 < y.size
  · rw [if_pos h]; exact jaro_long x y h
  · rw [if_neg h]; exact jaro_f x y (by omega) (by omega)
theorem jaroB_low (x y : ByteArray) : ∃ p q, Low (jaroB x y) p q := by
  unfold jaroB
  split
  · exact ⟨0, 1, low_zero⟩
  · exact jaroN_low _ _ _ _ (by omega) (by omega)
theorem jac_f (a b : List ByteArray) (h : (jOk a && jOk b) = true) (hn : a.length + b.length ≤ 1000000000) : Ev (fun k => measure_Jaccard.f k a b) (jacS (dataL a) (dataL b)) := by
  unfold jacS
  refine Ev.congr (fun k => by unfold measure_Jaccard.f; rw [if_pos h]) ?_
  have hl := jac_len (dataL a) (dataL b)
  have e : (dataL a).length = a.length := by unfold dataL; rw [List.length_map]
  have e2 : (dataL b).length = b.length := by unfold dataL; rw [List.length_map]
  by_cases h0 : (jFold (dataL a) (dataL b)).2.2.1 = 0
  · rw [if_pos h0]
    exact Ev.congr (fun k => by rw [if_pos h0]) (Ev.now _)
  · rw [if_neg h0]
    refine Ev.congr (fun k => by rw [if_neg h0]) (share_f _ _ (by omega) (j_le _ _) (by omega))
/-- The measures of texts. -/
def textS (m : Int) (a b : ByteArray) : Int × Int :=
  if m = 2 then alikeS (foldL a.data.toList) (foldL b.data.toList)
  else if m = 3 then jacS (sortU (wordsL a.data.toList)) (sortU (wordsL b.data.toList))
  else jaroB (ofL (foldL a.data.toList)) (ofL (foldL b.data.toList))
theorem size_dl (a : ByteArray) : a.data.toList.length = a.size := by rw [← tl_size, Go.ByteArray.toList_eq]
theorem dl_ofL (l : List UInt8) : (ofL l).data.toList = l := by rw [← Go.ByteArray.toList_eq]; exact tl_ofL l
theorem dataL_ofL (l : List (List UInt8)) : dataL (l.map ofL) = l := by
  unfold dataL
  rw [List.map_map]
  conv => rhs; rw [← List.map_id l]
  exact List.map_congr_left (fun x _ => dl_ofL x)
theorem fold_sz (a : ByteArray) : (ofL (foldL a.data.toList)).size ≤ a.size := by
  rw [ofL_size, ← size_dl]; exact foldL_len _
theorem tokens_ok (a : ByteArray) (h : a.size ≤ 1000) : jOk ((sortU (wordsL a.data.toList)).map ofL) = true := by
  have h1 := sortU_len (wordsL a.data.toList)
  have h2 := words_len a.data.toList
  rw [size_dl] at h2
  unfold jOk
  rw [Bool.and_eq_true, decide_eq_true_eq, List.length_map, List.all_eq_true]
  refine ⟨by omega, fun x hx => ?_⟩
  obtain ⟨y, hy, rfl⟩ := List.mem_map.1 hx
  have := word_len ((mem_sortU _ _).1 hy)
  rw [size_dl] at this
  rw [decide_eq_true_eq, ofL_size]
  omega
theorem text_f1 (a b : ByteArray) (ha : a.size ≤ 1000) (hb : b.size ≤ 1000) : Ev (fun k => measure_texts_1.f k a b) (textS 2 a b) := by
  have h1 := fold_sz a
  have h2 := fold_sz b
  have e := alike_f (ofL (foldL a.data.toList)) (ofL (foldL b.data.toList)) (by rw [tl_size]; omega) (by rw [tl_size]; omega)
  rw [tl_ofL, tl_ofL] at e
  unfold textS
  rw [if_pos rfl]
  refine Ev.congr (fun k => ?_) (Ev.bind e (Ev.now _))
  unfold measure_texts_1.f words_Fold.f
  rw [if_pos (by omega), if_pos (by omega), Option.bind_some, Option.bind_some]
theorem text_f3 (a b : ByteArray) (ha : a.size ≤ 1000) (hb : b.size ≤ 1000) : Ev (fun k => measure_texts_3.f k a b) (textS 4 a b) := by
  have e := jaroB_f (ofL (foldL a.data.toList)) (ofL (foldL b.data.toList))
  unfold textS
  rw [if_neg (by decide), if_neg (by decide)]
  refine Ev.congr (fun k => ?_) (Ev.bind e (Ev.now _))
  unfold measure_texts_3.f words_Fold.f
  rw [if_pos (by omega), if_pos (by omega), Option.bind_some, Option.bind_some]
theorem text_f2 (a b : ByteArray) (ha : a.size ≤ 1000) (hb : b.size ≤ 1000) : Ev (fun k => measure_texts_2.f k a b) (textS 3 a b) := by
  have l1 := sortU_len (wordsL a.data.toList)
  have l2 := words_len a.data.toList
  have l3 := sortU_len (wordsL b.data.toList)
  have l4 := words_len b.data.toList
  rw [size_dl] at l2 l4
  have e := jac_f ((sortU (wordsL a.data.toList)).map ofL) ((sortU (wordsL b.data.toList)).map ofL) (by rw [tokens_ok a ha, tokens_ok b hb]; rfl) (by rw [List.length_map, List.length_map]; omega)
  rw [dataL_ofL, dataL_ofL] at e
  unfold textS
  rw [if_neg (by decide), if_pos rfl]
  refine Ev.congr (fun k => ?_) (Ev.bind e (Ev.now _))
  unfold measure_texts_2.f words_Tokens.f
  rw [if_pos (by omega), if_pos (by omega), Option.bind_some, Option.bind_some]
theorem textS_low (m : Int) (a b : ByteArray) (ha : a.size ≤ 1000) (hb : b.size ≤ 1000) : ∃ p q, Low (textS m a b) p q := by
  have f1 := foldL_len a.data.toList
  have f2 := foldL_len b.data.toList
  have l1 := sortU_len (wordsL a.data.toList)
  have l2 := words_len a.data.toList
  have l3 := sortU_len (wordsL b.data.toList)
  have l4 := words_len b.data.toList
  rw [size_dl] at l2 l4 f1 f2
  unfold textS
  split
  · exact alikeS_low _ _ (by omega) (by omega)
  · split
    · exact jacS_low _ _ (by omega)
    · exact jaroB_low _ _
/-- Is a value valid? -/
def valJ (c : Bool) (a0 a1 : Int) (a2 : ByteArray) : Bool :=
  if c = true then false else if a0 = 0 then (if 0 ≤ a1 then decide (a1 ≤ 0) else false) else if a0 = 1 then (if (a2.size : Int) > 200 then false else if 0 ≤ a1 then decide (a1 ≤ 0) else false)
  else if a0 = 2 then (if (-1000000000) ≤ a1 then decide (a1 ≤ 1000000000) else false) else if a0 = 3 then (if 0 ≤ a1 then decide (a1 ≤ 73048) else false) else if a0 = 4 then (if 0 ≤ a1 then decide (a1 ≤ 1) else false) else false
def valB (a0 a1 : Int) (a2 : ByteArray) : Bool := valJ (if a0 = 1 then false else a2.toList != ([] : List UInt8)) a0 a1 a2
theorem valid_f (a0 a1 : Int) (a2 : ByteArray) : Ev (fun k => value_Valid.f k a0 a1 a2) (valB a0 a1 a2) := by
  have h : ∀ c, Ev (fun k => value_Valid.j0 k c a0 a1 a2) (valJ c a0 a1 a2) := by
    intro c
    refine Ev.step (f := fun _ => some (valJ c a0 a1 a2)) (fun k => ?_) (Ev.now _)
    simp only [value_Valid.j0]
    unfold valJ
    (repeat' split) <;> first | rfl | contradiction
  unfold valB
  by_cases h1 : a0 = 1
  · rw [if_pos h1]
    exact Ev.congr (fun k => by unfold value_Valid.f; rw [if_pos h1]) (h false)
  · rw [if_neg h1]
    exact Ev.congr (fun k => by unfold value_Valid.f; rw [if_neg h1]) (h _)
def withE (r : Int × Int) : Int × Int × Int := (r.1, r.2, 0)
def ofT (m tol a0 a1 : Int) (a2 : ByteArray) (b0 b1 : Int) (b2 : ByteArray) : Int × Int × Int :=
  if m = 5 ∧ (tol < 0 ∨ 1000000000 ≤ tol) then (0, 0, 1)
  else if a0 = 0 ∨ b0 = 0 then (0, 1, 0)
  else if m = 1 then (if a0 = b0 ∧ a1 = b1 ∧ a2.toList = b2.toList then (1, 1, 0) else (0, 1, 0))
  else if a0 ≠ b0 ∨ (m = 5 ∧ a0 ≠ 2 ∧ a0 ≠ 3) ∨ (m ≠ 5 ∧ a0 ≠ 1) then (0, 0, 10)
  else if m = 5 then withE (nearS a1 b1 tol) else withE (textS m a2 b2)
/-- The similarity of two values by a measure, with the error's number. -/
def ofS (m tol a0 a1 : Int) (a2 : ByteArray) (b0 b1 : Int) (b2 : ByteArray) : Int × Int × Int :=
  if m < 1 ∨ 5 < m then (0, 0, 1) else if valB a0 a1 a2 = true then (if valB b0 b1 b2 = true then ofT m tol a0 a1 a2 b0 b1 b2 else (0, 0, 1)) else (0, 0, 1)
abbrev I64 (x : Int) : Prop := -9223372036854775808 ≤ x ∧ x < 9223372036854775808
theorem ofT_f (m tol a0 a1 : Int) (a2 : ByteArray) (b0 b1 : Int) (b2 : ByteArray) (hm : ¬ (m < 1 ∨ 5 < m)) (ht : I64 tol) (ha : I64 a1) (hb : I64 b1) (sa : a2.size ≤ 1000) (sb : b2.size ≤ 1000) :
    Ev (fun k => ofTail k m tol a0 a1 a2 b0 b1 b2) (ofT m tol a0 a1 a2 b0 b1 b2) := by
  unfold ofT
  split
  · rename_i h; exact Ev.congr (fun k => by unfold ofTail; rw [if_pos h]) (Ev.now _)
  · rename_i h1
    split
    · rename_i h; exact Ev.congr (fun k => by unfold ofTail; rw [if_neg h1, if_pos h]) (Ev.now _)
    · rename_i h2
      split
      · rename_i h3
        split
        · rename_i h; exact Ev.congr (fun k => by unfold ofTail; rw [if_neg h1, if_neg h2, if_pos h3, if_pos h]) (Ev.now _)
        · rename_i h; exact Ev.congr (fun k => by unfold ofTail; rw [if_neg h1, if_neg h2, if_pos h3, if_neg h]) (Ev.now _)
      · rename_i h3
        split
        · rename_i h; exact Ev.congr (fun k => by unfold ofTail; rw [if_neg h1, if_neg h2, if_neg h3, if_pos h]) (Ev.now _)
        · rename_i h4
          split
          · rename_i h5
            exact Ev.congr (fun k => by unfold ofTail; rw [if_neg h1, if_neg h2, if_neg h3, if_neg h4, if_pos h5]) (Ev.bind (near_f a1 b1 tol ha hb ht) (Ev.now _))
          · rename_i h5
            by_cases h6 : m = 2
            · subst h6
              exact Ev.congr (fun k => by unfold ofTail; rw [if_neg h1, if_neg h2, if_neg h3, if_neg h4, if_neg h5, if_pos rfl]) (Ev.bind (text_f1 a2 b2 sa sb) (Ev.now _))
            · by_cases h7 : m = 3
              · subst h7
                exact Ev.congr (fun k => by unfold ofTail; rw [if_neg h1, if_neg h2, if_neg h3, if_neg h4, if_neg h5, if_neg h6, if_pos rfl]) (Ev.bind (text_f2 a2 b2 sa sb) (Ev.now _))
              · obtain rfl : m = 4 := by omega
                exact Ev.congr (fun k => by unfold ofTail; rw [if_neg h1, if_neg h2, if_neg h3, if_neg h4, if_neg h5, if_neg h6, if_neg h7]) (Ev.bind (text_f3 a2 b2 sa sb) (Ev.now _))
theorem of_f (m tol a0 a1 : Int) (a2 : ByteArray) (b0 b1 : Int) (b2 : ByteArray) (hm : (Lit.int .i64 m).wf = true) (ht : I64 tol) (ha : I64 a1) (hb : I64 b1) (sa : a2.size ≤ 1000) (sb : b2.size ≤ 1000) :
    Ev (fun k => measure_Of.f k m tol a0 a1 a2 b0 b1 b2) (ofS m tol a0 a1 a2 b0 b1 b2) := by
  unfold ofS
  refine Ev.congr (fun k => by unfold measure_Of.f; rw [if_pos hm]) ?_
  by_cases h : m < 1 ∨ 5 < m
  · rw [if_pos h]
    exact Ev.congr (fun k => by rw [if_pos h]) (Ev.now _)
  · rw [if_neg h]
    refine Ev.congr (fun k => by rw [if_neg h]) (Ev.bind (valid_f a0 a1 a2) ?_)
    cases valB a0 a1 a2 with
    | false => exact Ev.congr (fun k => by rw [if_neg (by simp)]) (by rw [if_neg (by simp)]; exact Ev.now _)
    | true =>
      rw [if_pos rfl]
      refine Ev.congr (fun k => by rw [if_pos rfl]) (Ev.bind (valid_f b0 b1 b2) ?_)
      cases valB b0 b1 b2 with
      | false => exact Ev.congr (fun k => by rw [if_neg (by simp)]) (by rw [if_neg (by simp)]; exact Ev.now _)
      | true =>
        rw [if_pos rfl]
        exact Ev.congr (fun k => by rw [if_pos rfl]) (ofT_f m tol a0 a1 a2 b0 b1 b2 h ht ha hb sa sb)
theorem nearS_low (x y t : Int) : ∃ p q, Low (nearS x y t) p q := by
  unfold nearS
  split
  · rename_i h
    obtain ⟨p, q, _, hl, _⟩ := rat_low (n := t.toNat + 1 - (x - y).natAbs) (d := t.toNat + 1) (by omega) (by omega) (by omega)
    exact ⟨p, q, hl⟩
  · exact ⟨0, 1, low_zero⟩
theorem ofS_low (m tol a0 a1 : Int) (a2 : ByteArray) (b0 b1 : Int) (b2 : ByteArray) (sa : a2.size ≤ 1000) (sb : b2.size ≤ 1000) (h : (ofS m tol a0 a1 a2 b0 b1 b2).2.2 = 0) : ∃ p q, Low ((ofS m tol a0 a1 a2 b0 b1 b2).1, (ofS m tol a0 a1 a2 b0 b1 b2).2.1) p q := by
  obtain ⟨r, hr⟩ : ∃ r, ofS m tol a0 a1 a2 b0 b1 b2 = r := ⟨_, rfl⟩
  rw [hr] at h ⊢
  unfold ofS ofT withE at hr
  (repeat' split at hr) <;> subst hr <;> first | exact ⟨0, 1, low_zero⟩ | exact ⟨1, 1, low_one⟩ | (exact absurd h (by decide)) | exact nearS_low _ _ _ | exact textS_low _ _ _ sa sb
end Go.Proofs.YtiffkknhnmpgbaaDoor.Pure
end

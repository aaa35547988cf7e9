/- Parts of the proof of MRef: words, contracts and plain laws. -/
import Derived.Test.YtgomlpndoolllaaDoorMRef11
import Derived.Test.YtgomlpndoolllaaDoorMRef14
import Derived.Test.YtgomlpndoolllaaDoorMRef18
import Derived.Test.YtgomlpndoolllaaDoorMRef21
import Derived.Test.YtgomlpndoolllaaDoorMRef23
section
namespace Go.Proofs.YtgomlpndoolllaaDoor.CL
open Go.RowKit Go.Proofs.YtgomlpndoolllaaDoor.Q Go.Proofs.YtgomlpndoolllaaDoorW.PrintWords Go.Proofs.YtgomlpndoolllaaDoorW.PrintLast Go.Proofs.YtgomlpndoolllaaDoorW.PrintMore
attribute [local go_sem] max2_int min2_int max_two min_two max_three min_three max_four min_four   -- for this text's walks alone
set_option linter.unusedVariables false
set_option linter.unusedSimpArgs false

-- by hand: function 16 (measure_Alike)

-- by hand: function 51 (words_Fold)

/-! ### measure_texts_1: function 50 -/
def measure_texts_1.f (k : Nat) (a0 : ByteArray) (a1 : ByteArray) : Option (Int × Int) := (words_Fold.f a0).bind fun t102 => ((words_Fold.f a1).bind fun t103 => ((measure_Alike.f k t102 t103).bind fun bt104 => (some (bt104.1, bt104.2))))
set_option maxHeartbeats 8000000 in
set_option maxRecDepth 100000 in
theorem measure_texts_1.calls (k : Nat) (a0 : ByteArray) (a1 : ByteArray) (r1 : Int) (r2 : Int) (w : World) (hG : Gl w) (h : measure_texts_1.f k a0 a1 = some (r1, r2)) :
  Calls Tryd.prog 50 #[.string a0, .string a1] w fun e w' => e = .returned (.agg #[.int .i64 r1, .int .i64 r2]) ∧ Below w.heap.size w w' := by
 have HGl := Aside0.mk hG
 clear hG
 have hu32 := Tryd.underlying32
 have HB := Aside0.mk (Below.refl w.heap.size w)
 have H : ((words_Fold.f a0).bind fun t102 => ((words_Fold.f a1).bind fun t103 => ((measure_Alike.f k t102 t103).bind fun bt104 => (some (bt104.1, bt104.2))))) = some (r1, r2) := h
 clear h
 replace H := Option.bind_eq_some_iff.mp H
 obtain ⟨t102, A30, H⟩ := H
 replace H : ((words_Fold.f a1).bind fun t103 => ((measure_Alike.f k t102 t103).bind fun bt104 => (some (bt104.1, bt104.2)))) = some (r1, r2) := H
 have A3 := Aside0.mk A30
 clear A30
 replace H := Option.bind_eq_some_iff.mp H
 obtain ⟨t103, A40, H⟩ := H
 replace H : ((measure_Alike.f k t102 t103).bind fun bt104 => (some (bt104.1, bt104.2))) = some (r1, r2) := H
 have A4 := Aside0.mk A40
 clear A40
 replace H := Option.bind_eq_some_iff.mp H
 obtain ⟨⟨t104, t105⟩, A50, H⟩ := H
 replace H : (some (t104, t105)) = some (r1, r2) := H
 have A5 := Aside0.mk A50
 clear A50
 simp only [Option.some.injEq, Prod.mk.injEq] at H
 obtain ⟨rfl, rfl⟩ := H
 go_enter Tryd.func50, Tryd.ntmps50
 go_wp2_with (first | ((with_reducible refine gate_dst (N := 4) rfl ?_); refine box_event ?hg (N := 4) ?hd (cs := #[.int .i64 0, .int .i64 0]) (t := 32) ?hr ?_; (case hd => rfl); (case hg => rfl); (case hr => (go_simp; done)); intro gb101 hg w6 hbox hb; have n0_ := Aside0.mk (below_step HB.out hb); have n1_ := Aside0.mk (hbox); have n3_ := Aside0.mk ((by rw [hg]; exact (below_size HB.out) : w.heap.size ≤ gb101)); clear HB; have HB := n0_; have BK101 := n1_; have GE101 := n3_; clear n0_ n1_ n3_; clear hb hbox hg) | ((with_reducible refine gate_callee (f := 51) rfl ?_); refine goesL_ (some 6) rfl rfl Tryd.func51 (by kernel_rfl) rfl #[.string a0] rfl (by (try simp only [List.map_toArray, List.map_cons, List.map_nil]); rfl) ?_; (with_reducible refine (words_Fold.calls a0 t102 _ A3.out).mono ?_); rintro e w7 ⟨rfl, hb⟩; refine ⟨_, rfl, ?_⟩; have n0_ := Aside0.mk (blk_below (g := gb101) (o := .cells #[.int .i64 0, .int .i64 0] 32 (0, 0)) (by exact BK101.out) hb); have n1_ := Aside0.mk (below_step HB.out hb); clear BK101; clear HB; have BK101 := n0_; have HB := n1_; clear n0_ n1_; (try clear hb)) | ((with_reducible refine gate_callee (f := 51) rfl ?_); refine goesL_ (some 8) rfl rfl Tryd.func51 (by kernel_rfl) rfl #[.string a1] rfl (by (try simp only [List.map_toArray, List.map_cons, List.map_nil]); rfl) ?_; (with_reducible refine (words_Fold.calls a1 t103 _ A4.out).mono ?_); rintro e w8 ⟨rfl, hb⟩; refine ⟨_, rfl, ?_⟩; have n0_ := Aside0.mk (blk_below (g := gb101) (o := .cells #[.int .i64 0, .int .i64 0] 32 (0, 0)) (by exact BK101.out) hb); have n1_ := Aside0.mk (below_step HB.out hb); clear BK101; clear HB; have BK101 := n0_; have HB := n1_; clear n0_ n1_; (try clear hb)) | ((with_reducible refine gate_callee (f := 16) rfl ?_); refine goesL_ (some 9) rfl rfl Tryd.func16 (by kernel_rfl) rfl #[.string t102, .string t103] rfl (by (try simp only [List.map_toArray, List.map_cons, List.map_nil]); rfl) ?_; (with_reducible refine (measure_Alike.calls k t102 t103 t104 t105 _ ?sGl A5.out).mono ?_); (case sGl => exact Gl.below HGl.out HB.out); rintro e w9 ⟨rfl, hb⟩; refine ⟨_, rfl, ?_⟩; have n0_ := Aside0.mk (blk_below (g := gb101) (o := .cells #[.int .i64 0, .int .i64 0] 32 (0, 0)) (by exact BK101.out) hb); have n1_ := Aside0.mk (below_step HB.out hb); clear BK101; clear HB; have BK101 := n0_; have HB := n1_; clear n0_ n1_; (try clear hb); have hcz10_0 := cel_ BK101.out 0 rfl; have hcz10_1 := cel_ BK101.out 1 rfl; have hfz10_0 := blk_frozen BK101.out 0; have hfz10_1 := blk_frozen BK101.out 1))
 refine bodyPost_ret (results_cell_row rfl _ _ gb101 32 #[.int .i64 t104, .int .i64 t105] (0, 0) _ rfl (by refine blk_put (cs := #[.int .i64 t104, .int .i64 0]) ?_ 1 _ rfl; refine blk_put (cs := #[.int .i64 0, .int .i64 0]) ?_ 0 _ rfl; exact BK101.out) Tryd.underlying32 rfl (by kernel_rfl)) rfl ?_
 exact ⟨by rfl, by repeat ((with_reducible first | exact HB.out | refine below_set ?_ GE101.out))⟩

-- by hand: function 18 (measure_Jaccard)

-- by hand: function 53 (words_Tokens)

/-! ### measure_texts_2: function 52 -/
def measure_texts_2.f (k : Nat) (a0 : ByteArray) (a1 : ByteArray) : Option (Int × Int) := (words_Tokens.f a0).bind fun t107 => ((words_Tokens.f a1).bind fun t110 => ((measure_Jaccard.f k t107 t110).bind fun bt113 => (some (bt113.1, bt113.2))))
set_option maxHeartbeats 8000000 in
set_option maxRecDepth 100000 in
theorem measure_texts_2.calls (k : Nat) (a0 : ByteArray) (a1 : ByteArray) (r1 : Int) (r2 : Int) (w : World) (hG : Gl w) (h : measure_texts_2.f k a0 a1 = some (r1, r2)) :
  Calls Tryd.prog 52 #[.string a0, .string a1] w fun e w' => e = .returned (.agg #[.int .i64 r1, .int .i64 r2]) ∧ Below w.heap.size w w' := by
 have HGl := Aside0.mk hG
 clear hG
 have hu32 := Tryd.underlying32
 have HB := Aside0.mk (Below.refl w.heap.size w)
 have H : ((words_Tokens.f a0).bind fun t107 => ((words_Tokens.f a1).bind fun t110 => ((measure_Jaccard.f k t107 t110).bind fun bt113 => (some (bt113.1, bt113.2))))) = some (r1, r2) := h
 clear h
 replace H := Option.bind_eq_some_iff.mp H
 obtain ⟨t107, A30, H⟩ := H
 replace H : ((words_Tokens.f a1).bind fun t110 => ((measure_Jaccard.f k t107 t110).bind fun bt113 => (some (bt113.1, bt113.2)))) = some (r1, r2) := H
 have A3 := Aside0.mk A30
 clear A30
 replace H := Option.bind_eq_some_iff.mp H
 obtain ⟨t110, A40, H⟩ := H
 replace H : ((measure_Jaccard.f k t107 t110).bind fun bt113 => (some (bt113.1, bt113.2))) = some (r1, r2) := H
 have A4 := Aside0.mk A40
 clear A40
 replace H := Option.bind_eq_some_iff.mp H
 obtain ⟨⟨t113, t114⟩, A50, H⟩ := H
 replace H : (some (t113, t114)) = some (r1, r2) := H
 have A5 := Aside0.mk A50
 clear A50
 simp only [Option.some.injEq, Prod.mk.injEq] at H
 obtain ⟨rfl, rfl⟩ := H
 go_enter Tryd.func52, Tryd.ntmps52
 go_wp2_with (first | ((with_reducible refine gate_dst (N := 4) rfl ?_); refine box_event ?hg (N := 4) ?hd (cs := #[.int .i64 0, .int .i64 0]) (t := 32) ?hr ?_; (case hd => rfl); (case hg => rfl); (case hr => (go_simp; done)); intro gb106 hg w6 hbox hb; have n0_ := Aside0.mk (below_step HB.out hb); have n1_ := Aside0.mk (hbox); have n3_ := Aside0.mk ((by rw [hg]; exact (below_size HB.out) : w.heap.size ≤ gb106)); clear HB; have HB := n0_; have BK106 := n1_; have GE106 := n3_; clear n0_ n1_ n3_; clear hb hbox hg) | ((with_reducible refine gate_callee (f := 53) rfl ?_); refine goesL_ (some 6) rfl rfl Tryd.func53 (by kernel_rfl) rfl #[.string a0] rfl (by (try simp only [List.map_toArray, List.map_cons, List.map_nil]); rfl) ?_; (with_reducible refine (words_Tokens.calls a0 t107 _ A3.out).mono ?_); rintro e w7 ⟨v108, rfl, ho0, hb⟩; refine ⟨_, rfl, ?_⟩; have n0_ := Aside0.mk (Kd.R_lower ho0 (below_size HB.out)); have n1_ := Aside0.mk (blk_below (g := gb106) (o := .cells #[.int .i64 0, .int .i64 0] 32 (0, 0)) (by exact BK106.out) hb); have n2_ := Aside0.mk (below_step HB.out hb); clear BK106; clear HB; have HO109 := n0_; have BK106 := n1_; have HB := n2_; clear n0_ n1_ n2_; (try clear hb); (try clear ho0)) | ((with_reducible refine gate_callee (f := 53) rfl ?_); refine goesL_ (some 8) rfl rfl Tryd.func53 (by kernel_rfl) rfl #[.string a1] rfl (by (try simp only [List.map_toArray, List.map_cons, List.map_nil]); rfl) ?_; (with_reducible refine (words_Tokens.calls a1 t110 _ A4.out).mono ?_); rintro e w8 ⟨v111, rfl, ho0, hb⟩; refine ⟨_, rfl, ?_⟩; have n0_ := Aside0.mk (Kd.R_elder' (by exact HO109.out) (Kd.R_base ho0) hb); have n1_ := Aside0.mk (Kd.R_lower (Kd.R_new' ho0 (Kd.R_lt (by exact HO109.out))) (below_size HB.out)); have n2_ := Aside0.mk (blk_below (g := gb106) (o := .cells #[.int .i64 0, .int .i64 0] 32 (0, 0)) (by exact BK106.out) hb); have n3_ := Aside0.mk (below_step HB.out hb); clear HO109; clear BK106; clear HB; have HO109 := n0_; have HO112 := n1_; have BK106 := n2_; have HB := n3_; clear n0_ n1_ n2_ n3_; (try clear hb); (try clear ho0); obtain ⟨Ao9, co9, eo9⟩ := Kd.R_slice HO109.out; subst eo9; obtain ⟨Ao10, co10, eo10⟩ := Kd.R_slice HO112.out; subst eo10) | ((with_reducible refine gate_callee (f := 18) rfl ?_); refine goesL_ (some 9) rfl rfl Tryd.func18 (by kernel_rfl) rfl #[.slice Ao9 t107.length co9, .slice Ao10 t110.length co10] rfl (by (try simp only [List.map_toArray, List.map_cons, List.map_nil]); rfl) ?_; (with_reducible refine (measure_Jaccard.calls k _ _ t107 _ _ t110 t113 t114 _ ?side1 ?side2 ?side3 ?side4 ?sGl A5.out).mono ?_); (case sGl => exact Gl.below HGl.out HB.out); (case side1 => repeat ((exact (Kd.R_reads' HO109.out).2.2))); (case side2 => exact (Kd.R_reads' HO109.out).2.1); (case side3 => repeat ((exact (Kd.R_reads' HO112.out).2.2))); (case side4 => exact (Kd.R_reads' HO112.out).2.1); rintro e w11 ⟨rfl, hb⟩; refine ⟨_, rfl, ?_⟩; have n0_ := Aside0.mk (Kd.R_below (by exact HO109.out) hb); have n1_ := Aside0.mk (Kd.R_below (by exact HO112.out) hb); have n2_ := Aside0.mk (blk_below (g := gb106) (o := .cells #[.int .i64 0, .int .i64 0] 32 (0, 0)) (by exact BK106.out) hb); have n3_ := Aside0.mk (below_step HB.out hb); clear HO109; clear HO112; clear BK106; clear HB; have HO109 := n0_; have HO112 := n1_; have BK106 := n2_; have HB := n3_; clear n0_ n1_ n2_ n3_; (try clear hb); have hcz12_0 := cel_ BK106.out 0 rfl; have hcz12_1 := cel_ BK106.out 1 rfl; have hfz12_0 := blk_frozen BK106.out 0; have hfz12_1 := blk_frozen BK106.out 1))
 refine bodyPost_ret (results_cell_row rfl _ _ gb106 32 #[.int .i64 t113, .int .i64 t114] (0, 0) _ rfl (by refine blk_put (cs := #[.int .i64 t113, .int .i64 0]) ?_ 1 _ rfl; refine blk_put (cs := #[.int .i64 0, .int .i64 0]) ?_ 0 _ rfl; exact BK106.out) Tryd.underlying32 rfl (by kernel_rfl)) rfl ?_
 exact ⟨by rfl, by repeat ((with_reducible first | exact HB.out | refine below_set ?_ GE106.out))⟩

-- by hand: function 22 (measure_Jaro)

/-! ### measure_texts_3: function 54 -/
def measure_texts_3.f (k : Nat) (a0 : ByteArray) (a1 : ByteArray) : Option (Int × Int) := (words_Fold.f a0).bind fun t116 => ((words_Fold.f a1).bind fun t117 => ((measure_Jaro.f k t116 t117).bind fun bt118 => (some (bt118.1, bt118.2))))
set_option maxHeartbeats 8000000 in
set_option maxRecDepth 100000 in
theorem measure_texts_3.calls (k : Nat) (a0 : ByteArray) (a1 : ByteArray) (r1 : Int) (r2 : Int) (w : World) (hG : Gl w) (h : measure_texts_3.f k a0 a1 = some (r1, r2)) :
  Calls Tryd.prog 54 #[.string a0, .string a1] w fun e w' => e = .returned (.agg #[.int .i64 r1, .int .i64 r2]) ∧ Below w.heap.size w w' := by
 have HGl := Aside0.mk hG
 clear hG
 have hu32 := Tryd.underlying32
 have HB := Aside0.mk (Below.refl w.heap.size w)
 have H : ((words_Fold.f a0).bind fun t116 => ((words_Fold.f a1).bind fun t117 => ((measure_Jaro.f k t116 t117).bind fun bt118 => (some (bt118.1, bt118.2))))) = some (r1, r2) := h
 clear h
 replace H := Option.bind_eq_some_iff.mp H
 obtain ⟨t116, A30, H⟩ := H
 replace H : ((words_Fold.f a1).bind fun t117 => ((measure_Jaro.f k t116 t117).bind fun bt118 => (some (bt118.1, bt118.2)))) = some (r1, r2) := H
 have A3 := Aside0.mk A30
 clear A30
 replace H := Option.bind_eq_some_iff.mp H
 obtain ⟨t117, A40, H⟩ := H
 replace H : ((measure_Jaro.f k t116 t117).bind fun bt118 => (some (bt118.1, bt118.2))) = some (r1, r2) := H
 have A4 := Aside0.mk A40
 clear A40
 replace H := Option.bind_eq_some_iff.mp H
 obtain ⟨⟨t118, t119⟩, A50, H⟩ := H
 replace H : (some (t118, t119)) = some (r1, r2) := H
 have A5 := Aside0.mk A50
 clear A50
 simp only [Option.some.injEq, Prod.mk.injEq] at H
 obtain ⟨rfl, rfl⟩ := H
 go_enter Tryd.func54, Tryd.ntmps54
 go_wp2_with (first | ((with_reducible refine gate_dst (N := 4) rfl ?_); refine box_event ?hg (N := 4) ?hd (cs := #[.int .i64 0, .int .i64 0]) (t := 32) ?hr ?_; (case hd => rfl); (case hg => rfl); (case hr => (go_simp; done)); intro gb115 hg w6 hbox hb; have n0_ := Aside0.mk (below_step HB.out hb); have n1_ := Aside0.mk (hbox); have n3_ := Aside0.mk ((by rw [hg]; exact (below_size HB.out) : w.heap.size ≤ gb115)); clear HB; have HB := n0_; have BK115 := n1_; have GE115 := n3_; clear n0_ n1_ n3_; clear hb hbox hg) | ((with_reducible refine gate_callee (f := 51) rfl ?_); refine goesL_ (some 6) rfl rfl Tryd.func51 (by kernel_rfl) rfl #[.string a0] rfl (by (try simp only [List.map_toArray, List.map_cons, List.map_nil]); rfl) ?_; (with_reducible refine (words_Fold.calls a0 t116 _ A3.out).mono ?_); rintro e w7 ⟨rfl, hb⟩; refine ⟨_, rfl, ?_⟩; have n0_ := Aside0.mk (blk_below (g := gb115) (o := .cells #[.int .i64 0, .int .i64 0] 32 (0, 0)) (by exact BK115.out) hb); have n1_ := Aside0.mk (below_step HB.out hb); clear BK115; clear HB; have BK115 := n0_; have HB := n1_; clear n0_ n1_; (try clear hb)) | ((with_reducible refine gate_callee (f := 51) rfl ?_); refine goesL_ (some 8) rfl rfl Tryd.func51 (by kernel_rfl) rfl #[.string a1] rfl (by (try simp only [List.map_toArray, List.map_cons, List.map_nil]); rfl) ?_; (with_reducible refine (words_Fold.calls a1 t117 _ A4.out).mono ?_); rintro e w8 ⟨rfl, hb⟩; refine ⟨_, rfl, ?_⟩; have n0_ := Aside0.mk (blk_below (g := gb115) (o := .cells #[.int .i64 0, .int .i64 0] 32 (0, 0)) (by exact BK115.out) hb); have n1_ := Aside0.mk (below_step HB.out hb); clear BK115; clear HB; have BK115 := n0_; have HB := n1_; clear n0_ n1_; (try clear hb)) | ((with_reducible refine gate_callee (f := 22) rfl ?_); refine goesL_ (some 9) rfl rfl Tryd.func22 (by kernel_rfl) rfl #[.string t116, .string t117] rfl (by (try simp only [List.map_toArray, List.map_cons, List.map_nil]); rfl) ?_; (with_reducible refine (measure_Jaro.calls k t116 t117 t118 t119 _ ?sGl A5.out).mono ?_); (case sGl => exact Gl.below HGl.out HB.out); rintro e w9 ⟨rfl, hb⟩; refine ⟨_, rfl, ?_⟩; have n0_ := Aside0.mk (blk_below (g := gb115) (o := .cells #[.int .i64 0, .int .i64 0] 32 (0, 0)) (by exact BK115.out) hb); have n1_ := Aside0.mk (below_step HB.out hb); clear BK115; clear HB; have BK115 := n0_; have HB := n1_; clear n0_ n1_; (try clear hb); have hcz10_0 := cel_ BK115.out 0 rfl; have hcz10_1 := cel_ BK115.out 1 rfl; have hfz10_0 := blk_frozen BK115.out 0; have hfz10_1 := blk_frozen BK115.out 1))
 refine bodyPost_ret (results_cell_row rfl _ _ gb115 32 #[.int .i64 t118, .int .i64 t119] (0, 0) _ rfl (by refine blk_put (cs := #[.int .i64 t118, .int .i64 0]) ?_ 1 _ rfl; refine blk_put (cs := #[.int .i64 0, .int .i64 0]) ?_ 0 _ rfl; exact BK115.out) Tryd.underlying32 rfl (by kernel_rfl)) rfl ?_
 exact ⟨by rfl, by repeat ((with_reducible first | exact HB.out | refine below_set ?_ GE115.out))⟩

end Go.Proofs.YtgomlpndoolllaaDoor.CL
end

section
/- measure.Of: for every measure, tolerance and two values: what it answers, by the printed contracts of value.Valid, measure.Near and the three functions of texts. -/
namespace Go.Proofs.YtgomlpndoolllaaDoor
open Go Go.RowKit Go.Shelf Go.Proofs.YtgomlpndoolllaaDoorW.PrintWords Go.Proofs.YtgomlpndoolllaaDoorW.PrintLast
attribute [local go_sem] Oper.semAt_some
set_option linter.unusedVariables false
set_option linter.unusedSimpArgs false

def ofTail (k : Nat) (m tol a0 a1 : Int) (a2 : ByteArray) (b0 b1 : Int) (b2 : ByteArray) : Option (Int × Int × Int) :=
 if m = 5 ∧ (tol < 0 ∨ 1000000000 ≤ tol) then some (0, 0, 1)
 else if a0 = 0 ∨ b0 = 0 then some (0, 1, 0)
 else if m = 1 then (if a0 = b0 ∧ a1 = b1 ∧ a2.toList = b2.toList then some (1, 1, 0) else some (0, 1, 0))
 else if a0 ≠ b0 ∨ (m = 5 ∧ a0 ≠ 2 ∧ a0 ≠ 3) ∨ (m ≠ 5 ∧ a0 ≠ 1) then some (0, 0, 10)
 else if m = 5 then (Q.measure_Near.f k a1 b1 tol).bind fun r => some (r.1, r.2, 0)
 else if m = 2 then (CL.measure_texts_1.f k a2 b2).bind fun r => some (r.1, r.2, 0)
 else if m = 3 then (CL.measure_texts_2.f k a2 b2).bind fun r => some (r.1, r.2, 0)
 else (CL.measure_texts_3.f k a2 b2).bind fun r => some (r.1, r.2, 0)
def measure_Of.f (k : Nat) (m tol a0 a1 : Int) (a2 : ByteArray) (b0 b1 : Int) (b2 : ByteArray) : Option (Int × Int × Int) :=
 if (Lit.int .i64 m).wf = true then (if m < 1 ∨ 5 < m then some (0, 0, 1) else
  (Q.value_Valid.f k a0 a1 a2).bind fun va => if va = true then ((Q.value_Valid.f k b0 b1 b2).bind fun vb => if vb = true then ofTail k m tol a0 a1 a2 b0 b1 b2 else some (0, 0, 1)) else some (0, 0, 1)) else none
theorem eqF_nn (d : Nat) (w : World) : (Op.equalIn (d + 1) 33 .nilFunc .nilFunc).run Tryd.prog w = .ok true w := by
 have hu := Tryd.underlying33
 unfold Op.equalIn
 go_simp
theorem eqF_fn (d : Nat) (f : FuncId) (w : World) : (Op.equalIn (d + 1) 33 (.func (.func f) #[] #[]) .nilFunc).run Tryd.prog w = .ok false w := by
 have hu := Tryd.underlying33
 unfold Op.equalIn
 go_simp
theorem eq_nil_nil (w : World) : (binOp .eql 33 .nilFunc .nilFunc).run Tryd.prog w = .ok (.bool true) w := by
 have h := eqF_nn 9999 w
 simp only [binOp, Op.equal, Op.maxDepth, Sem.run_bind]
 rw [h]
 rfl
theorem eq_func_nil (f : FuncId) (w : World) : (binOp .eql 33 (.func (.func f) #[] #[]) .nilFunc).run Tryd.prog w = .ok (.bool false) w := by
 have h := eqF_fn 9999 f w
 simp only [binOp, Op.equal, Op.maxDepth, Sem.run_bind]
 rw [h]
 rfl
theorem eq_val (x0 x1 : Int) (x2 : ByteArray) (y0 y1 : Int) (y2 : ByteArray) (w : World) : (binOp .eql 26 (.agg #[.int .i64 x0, .int .i64 x1, .string x2]) (.agg #[.int .i64 y0, .int .i64 y1, .string y2])).run Tryd.prog w = .ok (.bool (x0 == y0 && (x1 == y1 && (x2.toList == y2.toList)))) w := by
 have h := Q.eqA26 9998 w x0 y0 x1 y1 x2 y2
 simp only [binOp, Op.equal, Op.maxDepth, Sem.run_bind]
 rw [h]
 rfl
section
variable (a0 a1 : Int) (a2 : ByteArray) (b0 b1 : Int) (b2 : ByteArray) (w : World)
/-- What the walk keeps: the two values and the result in their blocks, the package's variables. -/
def OfS (W : World) : Prop := W.heap[w.heap.size]? = some (.cells #[.int .i64 a0, .int .i64 a1, .string a2] 26 (0, 0)) ∧ W.heap[w.heap.size + 1]? = some (.cells #[.int .i64 b0, .int .i64 b1, .string b2] 26 (0, 0)) ∧
 W.heap[w.heap.size + 1 + 1]? = some (.cells #[.int .i64 0, .int .i64 0] 32 (0, 0)) ∧ Below w.heap.size w W ∧ Gl W
variable {a0 a1 a2 b0 b1 b2 w}
theorem OfS.below {W W' : World} (h : OfS a0 a1 a2 b0 b1 b2 w W) (hb : Below W.heap.size W W') : OfS a0 a1 a2 b0 b1 b2 w W' :=
 ⟨blk_below h.1 hb, blk_below h.2.1 hb, blk_below h.2.2.1 hb, h.2.2.2.1.trans (hb.mono h.2.2.2.1.size), h.2.2.2.2.below hb⟩
theorem OfS.gl {W : World} (h : OfS a0 a1 a2 b0 b1 b2 w W) : Gl W := h.2.2.2.2
theorem OfS.start (hG : Gl w) : OfS a0 a1 a2 b0 b1 b2 w (((w.alloc (.cells #[.int .i64 a0, .int .i64 a1, .string a2] 26)).alloc (.cells #[.int .i64 b0, .int .i64 b1, .string b2] 26)).alloc (.cells #[.int .i64 0, .int .i64 0] 32)) := by
 have hb : Below w.heap.size w (((w.alloc (.cells #[.int .i64 a0, .int .i64 a1, .string a2] 26)).alloc (.cells #[.int .i64 b0, .int .i64 b1, .string b2] 26)).alloc (.cells #[.int .i64 0, .int .i64 0] 32)) :=
  (((Below.refl _ w).alloc (Nat.le_refl _) _).alloc (by simp) _).alloc (by simp; omega) _
 refine ⟨blk_alloc (blk_alloc (blk_new w _) _) _, blk_alloc ?_ _, ?_, hb, hG.below hb⟩
 ·have := blk_new (w.alloc (.cells #[.int .i64 a0, .int .i64 a1, .string a2] 26)) (.cells #[.int .i64 b0, .int .i64 b1, .string b2] 26)
  rwa [World.size_alloc] at this
 have := blk_new ((w.alloc (.cells #[.int .i64 a0, .int .i64 a1, .string a2] 26)).alloc (.cells #[.int .i64 b0, .int .i64 b1, .string b2] 26)) (.cells #[.int .i64 0, .int .i64 0] 32)
 rwa [World.size_alloc, World.size_alloc] at this
theorem OfS.cells {W : World} (h : OfS a0 a1 a2 b0 b1 b2 w W) :
  W.cell? ⟨w.heap.size, 0, none⟩ = some (.int .i64 a0) ∧ W.cell? ⟨w.heap.size, 1, none⟩ = some (.int .i64 a1) ∧ W.cell? ⟨w.heap.size, 2, none⟩ = some (.string a2) ∧
  W.cell? ⟨w.heap.size + 1, 0, none⟩ = some (.int .i64 b0) ∧ W.cell? ⟨w.heap.size + 1, 1, none⟩ = some (.int .i64 b1) ∧ W.cell? ⟨w.heap.size + 1, 2, none⟩ = some (.string b2) ∧
  W.cell? ⟨w.heap.size + 1 + 1, 0, none⟩ = some (.int .i64 0) ∧ W.cell? ⟨w.heap.size + 1 + 1, 1, none⟩ = some (.int .i64 0) ∧ W.frozen? ⟨w.heap.size + 1 + 1, 0, none⟩ = false ∧ W.frozen? ⟨w.heap.size + 1 + 1, 1, none⟩ = false :=
 ⟨(blk_cell h.1 0).trans rfl, (blk_cell h.1 1).trans rfl, (blk_cell h.1 2).trans rfl, (blk_cell h.2.1 0).trans rfl, (blk_cell h.2.1 1).trans rfl, (blk_cell h.2.1 2).trans rfl,
   (blk_cell h.2.2.1 0).trans rfl, (blk_cell h.2.2.1 1).trans rfl, blk_frozen h.2.2.1 0, blk_frozen h.2.2.1 1⟩
end

set_option maxRecDepth 100000 in
set_option maxHeartbeats 4000000 in
theorem of_other (k : Nat) (m : Int) (tol a0 a1 : Int) (a2 : ByteArray) (b0 b1 : Int) (b2 : ByteArray) (w : World) (hG : Gl w) (hwf : (Lit.int .i64 m).wf = true) (hnil : ofF m = .nilFunc) (h5 : (m == 5) = false) (h1 : (m != 1) = true) :
  Calls Tryd.prog 20 #[.int .i64 m, .int .i64 tol, .agg #[.int .i64 a0, .int .i64 a1, .string a2], .agg #[.int .i64 b0, .int .i64 b1, .string b2]] w fun e w' => e = .returned (.tuple #[.agg #[.int .i64 0, .int .i64 0], .int .i64 1]) ∧ Below w.heap.size w w' := by
 have HS0 := Aside0.mk (OfS.start (a0 := a0) (a1 := a1) (a2 := a2) (b0 := b0) (b1 := b1) (b2 := b2) hG)
 clear hG
 have hu := Tryd.underlying32
 have hu2 := Tryd.underlying26
 have hnn := eq_nil_nil
 have hfn := eq_func_nil
 have hev := eq_val
 go_enter Tryd.func20, Tryd.ntmps20
 go_wp2_with ((go_at_call 38; with_reducible refine (texts_calls _).mono ?_; rintro e w1 ⟨b, rfl, hb1, hlk⟩; have hl1 := hlk m hwf; rw [show ofF m = .nilFunc from hnil] at hl1; clear hlk; have HS1 := Aside0.mk (HS0.out.below hb1); clear hb1; obtain ⟨ca0, ca1, ca2, cb0, cb1, cb2, cr0, cr1, fr0, fr1⟩ := HS1.out.cells))
 refine bodyPost_ret (results_ct rfl _ _ (w.heap.size + 1 + 1) 32 #[.int .i64 0, .int .i64 0] (0, 0) _ rfl (by refine blk_put (cs := #[.int .i64 0, .int .i64 0]) ?_ 1 _ rfl; refine blk_put (cs := #[.int .i64 0, .int .i64 0]) ?_ 0 _ rfl; exact HS1.out.2.2.1) Tryd.underlying32 rfl (by kernel_rfl)) rfl ?_
 have HBX := HS1.out.2.2.2.1
 exact ⟨rfl, by repeat (first | exact HBX | refine below_set ?_ (by omega))⟩
set_option maxRecDepth 100000 in
set_option maxHeartbeats 4000000 in
theorem of_1_va (k : Nat) (tol a0 a1 : Int) (a2 : ByteArray) (b0 b1 : Int) (b2 : ByteArray) (w : World) (hG : Gl w) (hva : Q.value_Valid.f k a0 a1 a2 = some false) :
  Calls Tryd.prog 20 #[.int .i64 1, .int .i64 tol, .agg #[.int .i64 a0, .int .i64 a1, .string a2], .agg #[.int .i64 b0, .int .i64 b1, .string b2]] w fun e w' => e = .returned (.tuple #[.agg #[.int .i64 0, .int .i64 0], .int .i64 1]) ∧ Below w.heap.size w w' := by
 have HS0 := Aside0.mk (OfS.start (a0 := a0) (a1 := a1) (a2 := a2) (b0 := b0) (b1 := b1) (b2 := b2) hG)
 clear hG
 have hu := Tryd.underlying32
 have hu2 := Tryd.underlying26
 have hnn := eq_nil_nil
 have hfn := eq_func_nil
 have hev := eq_val
 go_enter Tryd.func20, Tryd.ntmps20
 go_wp2_with (first | (go_at_call 38; with_reducible refine (texts_calls _).mono ?_; rintro e w1 ⟨b, rfl, hb1, hlk⟩; have hl1 := hlk 1 (by decide); rw [show ofF 1 = .nilFunc from rfl] at hl1; clear hlk; have HS1 := Aside0.mk (HS0.out.below hb1); clear hb1; obtain ⟨ca0, ca1, ca2, cb0, cb1, cb2, cr0, cr1, fr0, fr1⟩ := HS1.out.cells) | (go_at_call 39; with_reducible refine (Q.value_Valid.calls k a0 a1 a2 _ _ hva).mono ?_; rintro e w2 ⟨rfl, hb2⟩; have HS2 := Aside0.mk (HS1.out.below hb2); clear hb2; clear ca0 ca1 ca2 cb0 cb1 cb2 cr0 cr1 fr0 fr1; obtain ⟨ca0, ca1, ca2, cb0, cb1, cb2, cr0, cr1, fr0, fr1⟩ := HS2.out.cells))
 refine bodyPost_ret (results_ct rfl _ _ (w.heap.size + 1 + 1) 32 #[.int .i64 0, .int .i64 0] (0, 0) _ rfl (by refine blk_put (cs := #[.int .i64 0, .int .i64 0]) ?_ 1 _ rfl; refine blk_put (cs := #[.int .i64 0, .int .i64 0]) ?_ 0 _ rfl; exact HS2.out.2.2.1) Tryd.underlying32 rfl (by kernel_rfl)) rfl ?_
 have HBX := HS2.out.2.2.2.1
 exact ⟨rfl, by repeat (first | exact HBX | refine below_set ?_ (by omega))⟩
set_option maxRecDepth 100000 in
set_option maxHeartbeats 4000000 in
theorem of_1_vb (k : Nat) (tol a0 a1 : Int) (a2 : ByteArray) (b0 b1 : Int) (b2 : ByteArray) (w : World) (hG : Gl w) (hva : Q.value_Valid.f k a0 a1 a2 = some true) (hvb : Q.value_Valid.f k b0 b1 b2 = some false) :
  Calls Tryd.prog 20 #[.int .i64 1, .int .i64 tol, .agg #[.int .i64 a0, .int .i64 a1, .string a2], .agg #[.int .i64 b0, .int .i64 b1, .string b2]] w fun e w' => e = .returned (.tuple #[.agg #[.int .i64 0, .int .i64 0], .int .i64 1]) ∧ Below w.heap.size w w' := by
 have HS0 := Aside0.mk (OfS.start (a0 := a0) (a1 := a1) (a2 := a2) (b0 := b0) (b1 := b1) (b2 := b2) hG)
 clear hG
 have hu := Tryd.underlying32
 have hu2 := Tryd.underlying26
 have hnn := eq_nil_nil
 have hfn := eq_func_nil
 have hev := eq_val
 go_enter Tryd.func20, Tryd.ntmps20
 go_wp2_with (first | (go_at_call 38; with_reducible refine (texts_calls _).mono ?_; rintro e w1 ⟨b, rfl, hb1, hlk⟩; have hl1 := hlk 1 (by decide); rw [show ofF 1 = .nilFunc from rfl] at hl1; clear hlk; have HS1 := Aside0.mk (HS0.out.below hb1); clear hb1; obtain ⟨ca0, ca1, ca2, cb0, cb1, cb2, cr0, cr1, fr0, fr1⟩ := HS1.out.cells) | (go_at_call 39; with_reducible refine (Q.value_Valid.calls k a0 a1 a2 _ _ hva).mono ?_; rintro e w2 ⟨rfl, hb2⟩; have HS2 := Aside0.mk (HS1.out.below hb2); clear hb2; clear ca0 ca1 ca2 cb0 cb1 cb2 cr0 cr1 fr0 fr1; obtain ⟨ca0, ca1, ca2, cb0, cb1, cb2, cr0, cr1, fr0, fr1⟩ := HS2.out.cells) | (go_at_call 39; with_reducible refine (Q.value_Valid.calls k b0 b1 b2 _ _ hvb).mono ?_; rintro e w3 ⟨rfl, hb3⟩; have HS3 := Aside0.mk (HS2.out.below hb3); clear hb3; clear ca0 ca1 ca2 cb0 cb1 cb2 cr0 cr1 fr0 fr1; obtain ⟨ca0, ca1, ca2, cb0, cb1, cb2, cr0, cr1, fr0, fr1⟩ := HS3.out.cells))
 refine bodyPost_ret (results_ct rfl _ _ (w.heap.size + 1 + 1) 32 #[.int .i64 0, .int .i64 0] (0, 0) _ rfl (by refine blk_put (cs := #[.int .i64 0, .int .i64 0]) ?_ 1 _ rfl; refine blk_put (cs := #[.int .i64 0, .int .i64 0]) ?_ 0 _ rfl; exact HS3.out.2.2.1) Tryd.underlying32 rfl (by kernel_rfl)) rfl ?_
 have HBX := HS3.out.2.2.2.1
 exact ⟨rfl, by repeat (first | exact HBX | refine below_set ?_ (by omega))⟩
set_option maxRecDepth 100000 in
set_option maxHeartbeats 4000000 in
theorem of_1_na (k : Nat) (tol a0 a1 : Int) (a2 : ByteArray) (b0 b1 : Int) (b2 : ByteArray) (w : World) (hG : Gl w) (hva : Q.value_Valid.f k a0 a1 a2 = some true) (hvb : Q.value_Valid.f k b0 b1 b2 = some true) (ha : (a0 == 0) = true) :
  Calls Tryd.prog 20 #[.int .i64 1, .int .i64 tol, .agg #[.int .i64 a0, .int .i64 a1, .string a2], .agg #[.int .i64 b0, .int .i64 b1, .string b2]] w fun e w' => e = .returned (.tuple #[.agg #[.int .i64 0, .int .i64 1], .int .i64 0]) ∧ Below w.heap.size w w' := by
 have HS0 := Aside0.mk (OfS.start (a0 := a0) (a1 := a1) (a2 := a2) (b0 := b0) (b1 := b1) (b2 := b2) hG)
 clear hG
 have hu := Tryd.underlying32
 have hu2 := Tryd.underlying26
 have hnn := eq_nil_nil
 have hfn := eq_func_nil
 have hev := eq_val
 go_enter Tryd.func20, Tryd.ntmps20
 go_wp2_with (first | (go_at_call 38; with_reducible refine (texts_calls _).mono ?_; rintro e w1 ⟨b, rfl, hb1, hlk⟩; have hl1 := hlk 1 (by decide); rw [show ofF 1 = .nilFunc from rfl] at hl1; clear hlk; have HS1 := Aside0.mk (HS0.out.below hb1); clear hb1; obtain ⟨ca0, ca1, ca2, cb0, cb1, cb2, cr0, cr1, fr0, fr1⟩ := HS1.out.cells) | (go_at_call 39; with_reducible refine (Q.value_Valid.calls k a0 a1 a2 _ _ hva).mono ?_; rintro e w2 ⟨rfl, hb2⟩; have HS2 := Aside0.mk (HS1.out.below hb2); clear hb2; clear ca0 ca1 ca2 cb0 cb1 cb2 cr0 cr1 fr0 fr1; obtain ⟨ca0, ca1, ca2, cb0, cb1, cb2, cr0, cr1, fr0, fr1⟩ := HS2.out.cells) | (go_at_call 39; with_reducible refine (Q.value_Valid.calls k b0 b1 b2 _ _ hvb).mono ?_; rintro e w3 ⟨rfl, hb3⟩; have HS3 := Aside0.mk (HS2.out.below hb3); clear hb3; clear ca0 ca1 ca2 cb0 cb1 cb2 cr0 cr1 fr0 fr1; obtain ⟨ca0, ca1, ca2, cb0, cb1, cb2, cr0, cr1, fr0, fr1⟩ := HS3.out.cells) | ((with_reducible refine gate_op (op := .load 32 (.global 1)) rfl ?_); refine gl1_event rfl rfl rfl ?hGl ?_; (case hGl => exact HS3.out.2.2.2.2)))
 refine bodyPost_ret (results_ct rfl _ _ (w.heap.size + 1 + 1) 32 #[.int .i64 0, .int .i64 1] (0, 0) _ rfl (by refine blk_put (cs := #[.int .i64 0, .int .i64 0]) ?_ 1 _ rfl; refine blk_put (cs := #[.int .i64 0, .int .i64 0]) ?_ 0 _ rfl; exact HS3.out.2.2.1) Tryd.underlying32 rfl (by kernel_rfl)) rfl ?_
 have HBX := HS3.out.2.2.2.1
 exact ⟨rfl, by repeat (first | exact HBX | refine below_set ?_ (by omega))⟩
set_option maxRecDepth 100000 in
set_option maxHeartbeats 4000000 in
theorem of_1_nb (k : Nat) (tol a0 a1 : Int) (a2 : ByteArray) (b0 b1 : Int) (b2 : ByteArray) (w : World) (hG : Gl w) (hva : Q.value_Valid.f k a0 a1 a2 = some true) (hvb : Q.value_Valid.f k b0 b1 b2 = some true) (ha : (a0 == 0) = false) (hb : (b0 == 0) = true) :
  Calls Tryd.prog 20 #[.int .i64 1, .int .i64 tol, .agg #[.int .i64 a0, .int .i64 a1, .string a2], .agg #[.int .i64 b0, .int .i64 b1, .string b2]] w fun e w' => e = .returned (.tuple #[.agg #[.int .i64 0, .int .i64 1], .int .i64 0]) ∧ Below w.heap.size w w' := by
 have HS0 := Aside0.mk (OfS.start (a0 := a0) (a1 := a1) (a2 := a2) (b0 := b0) (b1 := b1) (b2 := b2) hG)
 clear hG
 have hu := Tryd.underlying32
 have hu2 := Tryd.underlying26
 have hnn := eq_nil_nil
 have hfn := eq_func_nil
 have hev := eq_val
 go_enter Tryd.func20, Tryd.ntmps20
 go_wp2_with (first | (go_at_call 38; with_reducible refine (texts_calls _).mono ?_; rintro e w1 ⟨b, rfl, hb1, hlk⟩; have hl1 := hlk 1 (by decide); rw [show ofF 1 = .nilFunc from rfl] at hl1; clear hlk; have HS1 := Aside0.mk (HS0.out.below hb1); clear hb1; obtain ⟨ca0, ca1, ca2, cb0, cb1, cb2, cr0, cr1, fr0, fr1⟩ := HS1.out.cells) | (go_at_call 39; with_reducible refine (Q.value_Valid.calls k a0 a1 a2 _ _ hva).mono ?_; rintro e w2 ⟨rfl, hb2⟩; have HS2 := Aside0.mk (HS1.out.below hb2); clear hb2; clear ca0 ca1 ca2 cb0 cb1 cb2 cr0 cr1 fr0 fr1; obtain ⟨ca0, ca1, ca2, cb0, cb1, cb2, cr0, cr1, fr0, fr1⟩ := HS2.out.cells) | (go_at_call 39; with_reducible refine (Q.value_Valid.calls k b0 b1 b2 _ _ hvb).mono ?_; rintro e w3 ⟨rfl, hb3⟩; have HS3 := Aside0.mk (HS2.out.below hb3); clear hb3; clear ca0 ca1 ca2 cb0 cb1 cb2 cr0 cr1 fr0 fr1; obtain ⟨ca0, ca1, ca2, cb0, cb1, cb2, cr0, cr1, fr0, fr1⟩ := HS3.out.cells) | ((with_reducible refine gate_op (op := .load 32 (.global 1)) rfl ?_); refine gl1_event rfl rfl rfl ?hGl ?_; (case hGl => exact HS3.out.2.2.2.2)))
 refine bodyPost_ret (results_ct rfl _ _ (w.heap.size + 1 + 1) 32 #[.int .i64 0, .int .i64 1] (0, 0) _ rfl (by refine blk_put (cs := #[.int .i64 0, .int .i64 0]) ?_ 1 _ rfl; refine blk_put (cs := #[.int .i64 0, .int .i64 0]) ?_ 0 _ rfl; exact HS3.out.2.2.1) Tryd.underlying32 rfl (by kernel_rfl)) rfl ?_
 have HBX := HS3.out.2.2.2.1
 exact ⟨rfl, by repeat (first | exact HBX | refine below_set ?_ (by omega))⟩
set_option maxRecDepth 100000 in
set_option maxHeartbeats 4000000 in
theorem of_1_eq (k : Nat) (tol a0 a1 : Int) (a2 : ByteArray) (b0 b1 : Int) (b2 : ByteArray) (w : World) (hG : Gl w) (hva : Q.value_Valid.f k a0 a1 a2 = some true) (hvb : Q.value_Valid.f k b0 b1 b2 = some true) (ha : (a0 == 0) = false) (hb : (b0 == 0) = false) (e0 : (a0 == b0) = true) (e1 : (a1 == b1) = true) (e2 : (a2.toList == b2.toList) = true) :
  Calls Tryd.prog 20 #[.int .i64 1, .int .i64 tol, .agg #[.int .i64 a0, .int .i64 a1, .string a2], .agg #[.int .i64 b0, .int .i64 b1, .string b2]] w fun e w' => e = .returned (.tuple #[.agg #[.int .i64 1, .int .i64 1], .int .i64 0]) ∧ Below w.heap.size w w' := by
 have HS0 := Aside0.mk (OfS.start (a0 := a0) (a1 := a1) (a2 := a2) (b0 := b0) (b1 := b1) (b2 := b2) hG)
 clear hG
 have hu := Tryd.underlying32
 have hu2 := Tryd.underlying26
 have hnn := eq_nil_nil
 have hfn := eq_func_nil
 have hev := eq_val
 go_enter Tryd.func20, Tryd.ntmps20
 go_wp2_with (first | (go_at_call 38; with_reducible refine (texts_calls _).mono ?_; rintro e w1 ⟨b, rfl, hb1, hlk⟩; have hl1 := hlk 1 (by decide); rw [show ofF 1 = .nilFunc from rfl] at hl1; clear hlk; have HS1 := Aside0.mk (HS0.out.below hb1); clear hb1; obtain ⟨ca0, ca1, ca2, cb0, cb1, cb2, cr0, cr1, fr0, fr1⟩ := HS1.out.cells) | (go_at_call 39; with_reducible refine (Q.value_Valid.calls k a0 a1 a2 _ _ hva).mono ?_; rintro e w2 ⟨rfl, hb2⟩; have HS2 := Aside0.mk (HS1.out.below hb2); clear hb2; clear ca0 ca1 ca2 cb0 cb1 cb2 cr0 cr1 fr0 fr1; obtain ⟨ca0, ca1, ca2, cb0, cb1, cb2, cr0, cr1, fr0, fr1⟩ := HS2.out.cells) | (go_at_call 39; with_reducible refine (Q.value_Valid.calls k b0 b1 b2 _ _ hvb).mono ?_; rintro e w3 ⟨rfl, hb3⟩; have HS3 := Aside0.mk (HS2.out.below hb3); clear hb3; clear ca0 ca1 ca2 cb0 cb1 cb2 cr0 cr1 fr0 fr1; obtain ⟨ca0, ca1, ca2, cb0, cb1, cb2, cr0, cr1, fr0, fr1⟩ := HS3.out.cells) | ((with_reducible refine gate_op (op := .load 32 (.global 0)) rfl ?_); refine gl0_event rfl rfl rfl ?hGl ?_; (case hGl => exact HS3.out.2.2.2.2)))
 refine bodyPost_ret (results_ct rfl _ _ (w.heap.size + 1 + 1) 32 #[.int .i64 1, .int .i64 1] (0, 0) _ rfl (by refine blk_put (cs := #[.int .i64 1, .int .i64 0]) ?_ 1 _ rfl; refine blk_put (cs := #[.int .i64 0, .int .i64 0]) ?_ 0 _ rfl; exact HS3.out.2.2.1) Tryd.underlying32 rfl (by kernel_rfl)) rfl ?_
 have HBX := HS3.out.2.2.2.1
 exact ⟨rfl, by repeat (first | exact HBX | refine below_set ?_ (by omega))⟩
set_option maxRecDepth 100000 in
set_option maxHeartbeats 4000000 in
theorem of_1_n0 (k : Nat) (tol a0 a1 : Int) (a2 : ByteArray) (b0 b1 : Int) (b2 : ByteArray) (w : World) (hG : Gl w) (hva : Q.value_Valid.f k a0 a1 a2 = some true) (hvb : Q.value_Valid.f k b0 b1 b2 = some true) (ha : (a0 == 0) = false) (hb : (b0 == 0) = false) (e0 : (a0 == b0) = false) :
  Calls Tryd.prog 20 #[.int .i64 1, .int .i64 tol, .agg #[.int .i64 a0, .int .i64 a1, .string a2], .agg #[.int .i64 b0, .int .i64 b1, .string b2]] w fun e w' => e = .returned (.tuple #[.agg #[.int .i64 0, .int .i64 1], .int .i64 0]) ∧ Below w.heap.size w w' := by
 have HS0 := Aside0.mk (OfS.start (a0 := a0) (a1 := a1) (a2 := a2) (b0 := b0) (b1 := b1) (b2 := b2) hG)
 clear hG
 have hu := Tryd.underlying32
 have hu2 := Tryd.underlying26
 have hnn := eq_nil_nil
 have hfn := eq_func_nil
 have hev := eq_val
 go_enter Tryd.func20, Tryd.ntmps20
 go_wp2_with (first | (go_at_call 38; with_reducible refine (texts_calls _).mono ?_; rintro e w1 ⟨b, rfl, hb1, hlk⟩; have hl1 := hlk 1 (by decide); rw [show ofF 1 = .nilFunc from rfl] at hl1; clear hlk; have HS1 := Aside0.mk (HS0.out.below hb1); clear hb1; obtain ⟨ca0, ca1, ca2, cb0, cb1, cb2, cr0, cr1, fr0, fr1⟩ := HS1.out.cells) | (go_at_call 39; with_reducible refine (Q.value_Valid.calls k a0 a1 a2 _ _ hva).mono ?_; rintro e w2 ⟨rfl, hb2⟩; have HS2 := Aside0.mk (HS1.out.below hb2); clear hb2; clear ca0 ca1 ca2 cb0 cb1 cb2 cr0 cr1 fr0 fr1; obtain ⟨ca0, ca1, ca2, cb0, cb1, cb2, cr0, cr1, fr0, fr1⟩ := HS2.out.cells) | (go_at_call 39; with_reducible refine (Q.value_Valid.calls k b0 b1 b2 _ _ hvb).mono ?_; rintro e w3 ⟨rfl, hb3⟩; have HS3 := Aside0.mk (HS2.out.below hb3); clear hb3; clear ca0 ca1 ca2 cb0 cb1 cb2 cr0 cr1 fr0 fr1; obtain ⟨ca0, ca1, ca2, cb0, cb1, cb2, cr0, cr1, fr0, fr1⟩ := HS3.out.cells) | ((with_reducible refine gate_op (op := .load 32 (.global 1)) rfl ?_); refine gl1_event rfl rfl rfl ?hGl ?_; (case hGl => exact HS3.out.2.2.2.2)))
 refine bodyPost_ret (results_ct rfl _ _ (w.heap.size + 1 + 1) 32 #[.int .i64 0, .int .i64 1] (0, 0) _ rfl (by refine blk_put (cs := #[.int .i64 0, .int .i64 0]) ?_ 1 _ rfl; refine blk_put (cs := #[.int .i64 0, .int .i64 0]) ?_ 0 _ rfl; exact HS3.out.2.2.1) Tryd.underlying32 rfl (by kernel_rfl)) rfl ?_
 have HBX := HS3.out.2.2.2.1
 exact ⟨rfl, by repeat (first | exact HBX | refine below_set ?_ (by omega))⟩
set_option maxRecDepth 100000 in
set_option maxHeartbeats 4000000 in
theorem of_1_n1 (k : Nat) (tol a0 a1 : Int) (a2 : ByteArray) (b0 b1 : Int) (b2 : ByteArray) (w : World) (hG : Gl w) (hva : Q.value_Valid.f k a0 a1 a2 = some true) (hvb : Q.value_Valid.f k b0 b1 b2 = some true) (ha : (a0 == 0) = false) (hb : (b0 == 0) = false) (e0 : (a0 == b0) = true) (e1 : (a1 == b1) = false) :
  Calls Tryd.prog 20 #[.int .i64 1, .int .i64 tol, .agg #[.int .i64 a0, .int .i64 a1, .string a2], .agg #[.int .i64 b0, .int .i64 b1, .string b2]] w fun e w' => e = .returned (.tuple #[.agg #[.int .i64 0, .int .i64 1], .int .i64 0]) ∧ Below w.heap.size w w' := by
 have HS0 := Aside0.mk (OfS.start (a0 := a0) (a1 := a1) (a2 := a2) (b0 := b0) (b1 := b1) (b2 := b2) hG)
 clear hG
 have hu := Tryd.underlying32
 have hu2 := Tryd.underlying26
 have hnn := eq_nil_nil
 have hfn := eq_func_nil
 have hev := eq_val
 go_enter Tryd.func20, Tryd.ntmps20
 go_wp2_with (first | (go_at_call 38; with_reducible refine (texts_calls _).mono ?_; rintro e w1 ⟨b, rfl, hb1, hlk⟩; have hl1 := hlk 1 (by decide); rw [show ofF 1 = .nilFunc from rfl] at hl1; clear hlk; have HS1 := Aside0.mk (HS0.out.below hb1); clear hb1; obtain ⟨ca0, ca1, ca2, cb0, cb1, cb2, cr0, cr1, fr0, fr1⟩ := HS1.out.cells) | (go_at_call 39; with_reducible refine (Q.value_Valid.calls k a0 a1 a2 _ _ hva).mono ?_; rintro e w2 ⟨rfl, hb2⟩; have HS2 := Aside0.mk (HS1.out.below hb2); clear hb2; clear ca0 ca1 ca2 cb0 cb1 cb2 cr0 cr1 fr0 fr1; obtain ⟨ca0, ca1, ca2, cb0, cb1, cb2, cr0, cr1, fr0, fr1⟩ := HS2.out.cells) | (go_at_call 39; with_reducible refine (Q.value_Valid.calls k b0 b1 b2 _ _ hvb).mono ?_; rintro e w3 ⟨rfl, hb3⟩; have HS3 := Aside0.mk (HS2.out.below hb3); clear hb3; clear ca0 ca1 ca2 cb0 cb1 cb2 cr0 cr1 fr0 fr1; obtain ⟨ca0, ca1, ca2, cb0, cb1, cb2, cr0, cr1, fr0, fr1⟩ := HS3.out.cells) | ((with_reducible refine gate_op (op := .load 32 (.global 1)) rfl ?_); refine gl1_event rfl rfl rfl ?hGl ?_; (case hGl => exact HS3.out.2.2.2.2)))
 refine bodyPost_ret (results_ct rfl _ _ (w.heap.size + 1 + 1) 32 #[.int .i64 0, .int .i64 1] (0, 0) _ rfl (by refine blk_put (cs := #[.int .i64 0, .int .i64 0]) ?_ 1 _ rfl; refine blk_put (cs := #[.int .i64 0, .int .i64 0]) ?_ 0 _ rfl; exact HS3.out.2.2.1) Tryd.underlying32 rfl (by kernel_rfl)) rfl ?_
 have HBX := HS3.out.2.2.2.1
 exact ⟨rfl, by repeat (first | exact HBX | refine below_set ?_ (by omega))⟩
set_option maxRecDepth 100000 in
set_option maxHeartbeats 4000000 in
theorem of_1_n2 (k : Nat) (tol a0 a1 : Int) (a2 : ByteArray) (b0 b1 : Int) (b2 : ByteArray) (w : World) (hG : Gl w) (hva : Q.value_Valid.f k a0 a1 a2 = some true) (hvb : Q.value_Valid.f k b0 b1 b2 = some true) (ha : (a0 == 0) = false) (hb : (b0 == 0) = false) (e0 : (a0 == b0) = true) (e1 : (a1 == b1) = true) (e2 : (a2.toList == b2.toList) = false) :
  Calls Tryd.prog 20 #[.int .i64 1, .int .i64 tol, .agg #[.int .i64 a0, .int .i64 a1, .string a2], .agg #[.int .i64 b0, .int .i64 b1, .string b2]] w fun e w' => e = .returned (.tuple #[.agg #[.int .i64 0, .int .i64 1], .int .i64 0]) ∧ Below w.heap.size w w' := by
 have HS0 := Aside0.mk (OfS.start (a0 := a0) (a1 := a1) (a2 := a2) (b0 := b0) (b1 := b1) (b2 := b2) hG)
 clear hG
 have hu := Tryd.underlying32
 have hu2 := Tryd.underlying26
 have hnn := eq_nil_nil
 have hfn := eq_func_nil
 have hev := eq_val
 go_enter Tryd.func20, Tryd.ntmps20
 go_wp2_with (first | (go_at_call 38; with_reducible refine (texts_calls _).mono ?_; rintro e w1 ⟨b, rfl, hb1, hlk⟩; have hl1 := hlk 1 (by decide); rw [show ofF 1 = .nilFunc from rfl] at hl1; clear hlk; have HS1 := Aside0.mk (HS0.out.below hb1); clear hb1; obtain ⟨ca0, ca1, ca2, cb0, cb1, cb2, cr0, cr1, fr0, fr1⟩ := HS1.out.cells) | (go_at_call 39; with_reducible refine (Q.value_Valid.calls k a0 a1 a2 _ _ hva).mono ?_; rintro e w2 ⟨rfl, hb2⟩; have HS2 := Aside0.mk (HS1.out.below hb2); clear hb2; clear ca0 ca1 ca2 cb0 cb1 cb2 cr0 cr1 fr0 fr1; obtain ⟨ca0, ca1, ca2, cb0, cb1, cb2, cr0, cr1, fr0, fr1⟩ := HS2.out.cells) | (go_at_call 39; with_reducible refine (Q.value_Valid.calls k b0 b1 b2 _ _ hvb).mono ?_; rintro e w3 ⟨rfl, hb3⟩; have HS3 := Aside0.mk (HS2.out.below hb3); clear hb3; clear ca0 ca1 ca2 cb0 cb1 cb2 cr0 cr1 fr0 fr1; obtain ⟨ca0, ca1, ca2, cb0, cb1, cb2, cr0, cr1, fr0, fr1⟩ := HS3.out.cells) | ((with_reducible refine gate_op (op := .load 32 (.global 1)) rfl ?_); refine gl1_event rfl rfl rfl ?hGl ?_; (case hGl => exact HS3.out.2.2.2.2)))
 refine bodyPost_ret (results_ct rfl _ _ (w.heap.size + 1 + 1) 32 #[.int .i64 0, .int .i64 1] (0, 0) _ rfl (by refine blk_put (cs := #[.int .i64 0, .int .i64 0]) ?_ 1 _ rfl; refine blk_put (cs := #[.int .i64 0, .int .i64 0]) ?_ 0 _ rfl; exact HS3.out.2.2.1) Tryd.underlying32 rfl (by kernel_rfl)) rfl ?_
 have HBX := HS3.out.2.2.2.1
 exact ⟨rfl, by repeat (first | exact HBX | refine below_set ?_ (by omega))⟩
set_option maxRecDepth 100000 in
set_option maxHeartbeats 4000000 in
theorem of_2_va (k : Nat) (tol a0 a1 : Int) (a2 : ByteArray) (b0 b1 : Int) (b2 : ByteArray) (w : World) (hG : Gl w) (hva : Q.value_Valid.f k a0 a1 a2 = some false) :
  Calls Tryd.prog 20 #[.int .i64 2, .int .i64 tol, .agg #[.int .i64 a0, .int .i64 a1, .string a2], .agg #[.int .i64 b0, .int .i64 b1, .string b2]] w fun e w' => e = .returned (.tuple #[.agg #[.int .i64 0, .int .i64 0], .int .i64 1]) ∧ Below w.heap.size w w' := by
 have HS0 := Aside0.mk (OfS.start (a0 := a0) (a1 := a1) (a2 := a2) (b0 := b0) (b1 := b1) (b2 := b2) hG)
 clear hG
 have hu := Tryd.underlying32
 have hu2 := Tryd.underlying26
 have hnn := eq_nil_nil
 have hfn := eq_func_nil
 have hev := eq_val
 go_enter Tryd.func20, Tryd.ntmps20
 go_wp2_with (first | (go_at_call 38; with_reducible refine (texts_calls _).mono ?_; rintro e w1 ⟨b, rfl, hb1, hlk⟩; have hl1 := hlk 2 (by decide); rw [show ofF 2 = .func (.func 50) #[] #[] from rfl] at hl1; clear hlk; have HS1 := Aside0.mk (HS0.out.below hb1); clear hb1; obtain ⟨ca0, ca1, ca2, cb0, cb1, cb2, cr0, cr1, fr0, fr1⟩ := HS1.out.cells) | (go_at_call 39; with_reducible refine (Q.value_Valid.calls k a0 a1 a2 _ _ hva).mono ?_; rintro e w2 ⟨rfl, hb2⟩; have HS2 := Aside0.mk (HS1.out.below hb2); clear hb2; clear ca0 ca1 ca2 cb0 cb1 cb2 cr0 cr1 fr0 fr1; obtain ⟨ca0, ca1, ca2, cb0, cb1, cb2, cr0, cr1, fr0, fr1⟩ := HS2.out.cells))
 refine bodyPost_ret (results_ct rfl _ _ (w.heap.size + 1 + 1) 32 #[.int .i64 0, .int .i64 0] (0, 0) _ rfl (by refine blk_put (cs := #[.int .i64 0, .int .i64 0]) ?_ 1 _ rfl; refine blk_put (cs := #[.int .i64 0, .int .i64 0]) ?_ 0 _ rfl; exact HS2.out.2.2.1) Tryd.underlying32 rfl (by kernel_rfl)) rfl ?_
 have HBX := HS2.out.2.2.2.1
 exact ⟨rfl, by repeat (first | exact HBX | refine below_set ?_ (by omega))⟩
set_option maxRecDepth 100000 in
set_option maxHeartbeats 4000000 in
theorem of_2_vb (k : Nat) (tol a0 a1 : Int) (a2 : ByteArray) (b0 b1 : Int) (b2 : ByteArray) (w : World) (hG : Gl w) (hva : Q.value_Valid.f k a0 a1 a2 = some true) (hvb : Q.value_Valid.f k b0 b1 b2 = some false) :
  Calls Tryd.prog 20 #[.int .i64 2, .int .i64 tol, .agg #[.int .i64 a0, .int .i64 a1, .string a2], .agg #[.int .i64 b0, .int .i64 b1, .string b2]] w fun e w' => e = .returned (.tuple #[.agg #[.int .i64 0, .int .i64 0], .int .i64 1]) ∧ Below w.heap.size w w' := by
 have HS0 := Aside0.mk (OfS.start (a0 := a0) (a1 := a1) (a2 := a2) (b0 := b0) (b1 := b1) (b2 := b2) hG)
 clear hG
 have hu := Tryd.underlying32
 have hu2 := Tryd.underlying26
 have hnn := eq_nil_nil
 have hfn := eq_func_nil
 have hev := eq_val
 go_enter Tryd.func20, Tryd.ntmps20
 go_wp2_with (first | (go_at_call 38; with_reducible refine (texts_calls _).mono ?_; rintro e w1 ⟨b, rfl, hb1, hlk⟩; have hl1 := hlk 2 (by decide); rw [show ofF 2 = .func (.func 50) #[] #[] from rfl] at hl1; clear hlk; have HS1 := Aside0.mk (HS0.out.below hb1); clear hb1; obtain ⟨ca0, ca1, ca2, cb0, cb1, cb2, cr0, cr1, fr0, fr1⟩ := HS1.out.cells) | (go_at_call 39; with_reducible refine (Q.value_Valid.calls k a0 a1 a2 _ _ hva).mono ?_; rintro e w2 ⟨rfl, hb2⟩; have HS2 := Aside0.mk (HS1.out.below hb2); clear hb2; clear ca0 ca1 ca2 cb0 cb1 cb2 cr0 cr1 fr0 fr1; obtain ⟨ca0, ca1, ca2, cb0, cb1, cb2, cr0, cr1, fr0, fr1⟩ := HS2.out.cells) | (go_at_call 39; with_reducible refine (Q.value_Valid.calls k b0 b1 b2 _ _ hvb).mono ?_; rintro e w3 ⟨rfl, hb3⟩; have HS3 := Aside0.mk (HS2.out.below hb3); clear hb3; clear ca0 ca1 ca2 cb0 cb1 cb2 cr0 cr1 fr0 fr1; obtain ⟨ca0, ca1, ca2, cb0, cb1, cb2, cr0, cr1, fr0, fr1⟩ := HS3.out.cells))
 refine bodyPost_ret (results_ct rfl _ _ (w.heap.size + 1 + 1) 32 #[.int .i64 0, .int .i64 0] (0, 0) _ rfl (by refine blk_put (cs := #[.int .i64 0, .int .i64 0]) ?_ 1 _ rfl; refine blk_put (cs := #[.int .i64 0, .int .i64 0]) ?_ 0 _ rfl; exact HS3.out.2.2.1) Tryd.underlying32 rfl (by kernel_rfl)) rfl ?_
 have HBX := HS3.out.2.2.2.1
 exact ⟨rfl, by repeat (first | exact HBX | refine below_set ?_ (by omega))⟩
set_option maxRecDepth 100000 in
set_option maxHeartbeats 4000000 in
theorem of_2_na (k : Nat) (tol a0 a1 : Int) (a2 : ByteArray) (b0 b1 : Int) (b2 : ByteArray) (w : World) (hG : Gl w) (hva : Q.value_Valid.f k a0 a1 a2 = some true) (hvb : Q.value_Valid.f k b0 b1 b2 = some true) (ha : (a0 == 0) = true) :
  Calls Tryd.prog 20 #[.int .i64 2, .int .i64 tol, .agg #[.int .i64 a0, .int .i64 a1, .string a2], .agg #[.int .i64 b0, .int .i64 b1, .string b2]] w fun e w' => e = .returned (.tuple #[.agg #[.int .i64 0, .int .i64 1], .int .i64 0]) ∧ Below w.heap.size w w' := by
 have HS0 := Aside0.mk (OfS.start (a0 := a0) (a1 := a1) (a2 := a2) (b0 := b0) (b1 := b1) (b2 := b2) hG)
 clear hG
 have hu := Tryd.underlying32
 have hu2 := Tryd.underlying26
 have hnn := eq_nil_nil
 have hfn := eq_func_nil
 have hev := eq_val
 go_enter Tryd.func20, Tryd.ntmps20
 go_wp2_with (first | (go_at_call 38; with_reducible refine (texts_calls _).mono ?_; rintro e w1 ⟨b, rfl, hb1, hlk⟩; have hl1 := hlk 2 (by decide); rw [show ofF 2 = .func (.func 50) #[] #[] from rfl] at hl1; clear hlk; have HS1 := Aside0.mk (HS0.out.below hb1); clear hb1; obtain ⟨ca0, ca1, ca2, cb0, cb1, cb2, cr0, cr1, fr0, fr1⟩ := HS1.out.cells) | (go_at_call 39; with_reducible refine (Q.value_Valid.calls k a0 a1 a2 _ _ hva).mono ?_; rintro e w2 ⟨rfl, hb2⟩; have HS2 := Aside0.mk (HS1.out.below hb2); clear hb2; clear ca0 ca1 ca2 cb0 cb1 cb2 cr0 cr1 fr0 fr1; obtain ⟨ca0, ca1, ca2, cb0, cb1, cb2, cr0, cr1, fr0, fr1⟩ := HS2.out.cells) | (go_at_call 39; with_reducible refine (Q.value_Valid.calls k b0 b1 b2 _ _ hvb).mono ?_; rintro e w3 ⟨rfl, hb3⟩; have HS3 := Aside0.mk (HS2.out.below hb3); clear hb3; clear ca0 ca1 ca2 cb0 cb1 cb2 cr0 cr1 fr0 fr1; obtain ⟨ca0, ca1, ca2, cb0, cb1, cb2, cr0, cr1, fr0, fr1⟩ := HS3.out.cells) | ((with_reducible refine gate_op (op := .load 32 (.global 1)) rfl ?_); refine gl1_event rfl rfl rfl ?hGl ?_; (case hGl => exact HS3.out.2.2.2.2)))
 refine bodyPost_ret (results_ct rfl _ _ (w.heap.size + 1 + 1) 32 #[.int .i64 0, .int .i64 1] (0, 0) _ rfl (by refine blk_put (cs := #[.int .i64 0, .int .i64 0]) ?_ 1 _ rfl; refine blk_put (cs := #[.int .i64 0, .int .i64 0]) ?_ 0 _ rfl; exact HS3.out.2.2.1) Tryd.underlying32 rfl (by kernel_rfl)) rfl ?_
 have HBX := HS3.out.2.2.2.1
 exact ⟨rfl, by repeat (first | exact HBX | refine below_set ?_ (by omega))⟩
set_option maxRecDepth 100000 in
set_option maxHeartbeats 4000000 in
theorem of_2_nb (k : Nat) (tol a0 a1 : Int) (a2 : ByteArray) (b0 b1 : Int) (b2 : ByteArray) (w : World) (hG : Gl w) (hva : Q.value_Valid.f k a0 a1 a2 = some true) (hvb : Q.value_Valid.f k b0 b1 b2 = some true) (ha : (a0 == 0) = false) (hb : (b0 == 0) = true) :
  Calls Tryd.prog 20 #[.int .i64 2, .int .i64 tol, .agg #[.int .i64 a0, .int .i64 a1, .string a2], .agg #[.int .i64 b0, .int .i64 b1, .string b2]] w fun e w' => e = .returned (.tuple #[.agg #[.int .i64 0, .int .i64 1], .int .i64 0]) ∧ Below w.heap.size w w' := by
 have HS0 := Aside0.mk (OfS.start (a0 := a0) (a1 := a1) (a2 := a2) (b0 := b0) (b1 := b1) (b2 := b2) hG)
 clear hG
 have hu := Tryd.underlying32
 have hu2 := Tryd.underlying26
 have hnn := eq_nil_nil
 have hfn := eq_func_nil
 have hev := eq_val
 go_enter Tryd.func20, Tryd.ntmps20
 go_wp2_with (first | (go_at_call 38; with_reducible refine (texts_calls _).mono ?_; rintro e w1 ⟨b, rfl, hb1, hlk⟩; have hl1 := hlk 2 (by decide); rw [show ofF 2 = .func (.func 50) #[] #[] from rfl] at hl1; clear hlk; have HS1 := Aside0.mk (HS0.out.below hb1); clear hb1; obtain ⟨ca0, ca1, ca2, cb0, cb1, cb2, cr0, cr1, fr0, fr1⟩ := HS1.out.cells) | (go_at_call 39; with_reducible refine (Q.value_Valid.calls k a0 a1 a2 _ _ hva).mono ?_; rintro e w2 ⟨rfl, hb2⟩; have HS2 := Aside0.mk (HS1.out.below hb2); clear hb2; clear ca0 ca1 ca2 cb0 cb1 cb2 cr0 cr1 fr0 fr1; obtain ⟨ca0, ca1, ca2, cb0, cb1, cb2, cr0, cr1, fr0, fr1⟩ := HS2.out.cells) | (go_at_call 39; with_reducible refine (Q.value_Valid.calls k b0 b1 b2 _ _ hvb).mono ?_; rintro e w3 ⟨rfl, hb3⟩; have HS3 := Aside0.mk (HS2.out.below hb3); clear hb3; clear ca0 ca1 ca2 cb0 cb1 cb2 cr0 cr1 fr0 fr1; obtain ⟨ca0, ca1, ca2, cb0, cb1, cb2, cr0, cr1, fr0, fr1⟩ := HS3.out.cells) | ((with_reducible refine gate_op (op := .load 32 (.global 1)) rfl ?_); refine gl1_event rfl rfl rfl ?hGl ?_; (case hGl => exact HS3.out.2.2.2.2)))
 refine bodyPost_ret (results_ct rfl _ _ (w.heap.size + 1 + 1) 32 #[.int .i64 0, .int .i64 1] (0, 0) _ rfl (by refine blk_put (cs := #[.int .i64 0, .int .i64 0]) ?_ 1 _ rfl; refine blk_put (cs := #[.int .i64 0, .int .i64 0]) ?_ 0 _ rfl; exact HS3.out.2.2.1) Tryd.underlying32 rfl (by kernel_rfl)) rfl ?_
 have HBX := HS3.out.2.2.2.1
 exact ⟨rfl, by repeat (first | exact HBX | refine below_set ?_ (by omega))⟩
set_option maxRecDepth 100000 in
set_option maxHeartbeats 4000000 in
theorem of_2_kd (k : Nat) (tol a0 a1 : Int) (a2 : ByteArray) (b0 b1 : Int) (b2 : ByteArray) (w : World) (hG : Gl w) (hva : Q.value_Valid.f k a0 a1 a2 = some true) (hvb : Q.value_Valid.f k b0 b1 b2 = some true) (ha : (a0 == 0) = false) (hb : (b0 == 0) = false) (e0 : (a0 != b0) = true) :
  Calls Tryd.prog 20 #[.int .i64 2, .int .i64 tol, .agg #[.int .i64 a0, .int .i64 a1, .string a2], .agg #[.int .i64 b0, .int .i64 b1, .string b2]] w fun e w' => e = .returned (.tuple #[.agg #[.int .i64 0, .int .i64 0], .int .i64 10]) ∧ Below w.heap.size w w' := by
 have HS0 := Aside0.mk (OfS.start (a0 := a0) (a1 := a1) (a2 := a2) (b0 := b0) (b1 := b1) (b2 := b2) hG)
 clear hG
 have hu := Tryd.underlying32
 have hu2 := Tryd.underlying26
 have hnn := eq_nil_nil
 have hfn := eq_func_nil
 have hev := eq_val
 go_enter Tryd.func20, Tryd.ntmps20
 go_wp2_with (first | (go_at_call 38; with_reducible refine (texts_calls _).mono ?_; rintro e w1 ⟨b, rfl, hb1, hlk⟩; have hl1 := hlk 2 (by decide); rw [show ofF 2 = .func (.func 50) #[] #[] from rfl] at hl1; clear hlk; have HS1 := Aside0.mk (HS0.out.below hb1); clear hb1; obtain ⟨ca0, ca1, ca2, cb0, cb1, cb2, cr0, cr1, fr0, fr1⟩ := HS1.out.cells) | (go_at_call 39; with_reducible refine (Q.value_Valid.calls k a0 a1 a2 _ _ hva).mono ?_; rintro e w2 ⟨rfl, hb2⟩; have HS2 := Aside0.mk (HS1.out.below hb2); clear hb2; clear ca0 ca1 ca2 cb0 cb1 cb2 cr0 cr1 fr0 fr1; obtain ⟨ca0, ca1, ca2, cb0, cb1, cb2, cr0, cr1, fr0, fr1⟩ := HS2.out.cells) | (go_at_call 39; with_reducible refine (Q.value_Valid.calls k b0 b1 b2 _ _ hvb).mono ?_; rintro e w3 ⟨rfl, hb3⟩; have HS3 := Aside0.mk (HS2.out.below hb3); clear hb3; clear ca0 ca1 ca2 cb0 cb1 cb2 cr0 cr1 fr0 fr1; obtain ⟨ca0, ca1, ca2, cb0, cb1, cb2, cr0, cr1, fr0, fr1⟩ := HS3.out.cells))
 refine bodyPost_ret (results_ct rfl _ _ (w.heap.size + 1 + 1) 32 #[.int .i64 0, .int .i64 0] (0, 0) _ rfl (by refine blk_put (cs := #[.int .i64 0, .int .i64 0]) ?_ 1 _ rfl; refine blk_put (cs := #[.int .i64 0, .int .i64 0]) ?_ 0 _ rfl; exact HS3.out.2.2.1) Tryd.underlying32 rfl (by kernel_rfl)) rfl ?_
 have HBX := HS3.out.2.2.2.1
 exact ⟨rfl, by repeat (first | exact HBX | refine below_set ?_ (by omega))⟩
set_option maxRecDepth 100000 in
set_option maxHeartbeats 4000000 in
theorem of_2_ty (k : Nat) (tol a0 a1 : Int) (a2 : ByteArray) (b0 b1 : Int) (b2 : ByteArray) (w : World) (hG : Gl w) (hva : Q.value_Valid.f k a0 a1 a2 = some true) (hvb : Q.value_Valid.f k b0 b1 b2 = some true) (ha : (a0 == 0) = false) (hb : (b0 == 0) = false) (e0 : (a0 != b0) = false) (e1 : (a0 != 1) = true) :
  Calls Tryd.prog 20 #[.int .i64 2, .int .i64 tol, .agg #[.int .i64 a0, .int .i64 a1, .string a2], .agg #[.int .i64 b0, .int .i64 b1, .string b2]] w fun e w' => e = .returned (.tuple #[.agg #[.int .i64 0, .int .i64 0], .int .i64 10]) ∧ Below w.heap.size w w' := by
 have HS0 := Aside0.mk (OfS.start (a0 := a0) (a1 := a1) (a2 := a2) (b0 := b0) (b1 := b1) (b2 := b2) hG)
 clear hG
 have hu := Tryd.underlying32
 have hu2 := Tryd.underlying26
 have hnn := eq_nil_nil
 have hfn := eq_func_nil
 have hev := eq_val
 go_enter Tryd.func20, Tryd.ntmps20
 go_wp2_with (first | (go_at_call 38; with_reducible refine (texts_calls _).mono ?_; rintro e w1 ⟨b, rfl, hb1, hlk⟩; have hl1 := hlk 2 (by decide); rw [show ofF 2 = .func (.func 50) #[] #[] from rfl] at hl1; clear hlk; have HS1 := Aside0.mk (HS0.out.below hb1); clear hb1; obtain ⟨ca0, ca1, ca2, cb0, cb1, cb2, cr0, cr1, fr0, fr1⟩ := HS1.out.cells) | (go_at_call 39; with_reducible refine (Q.value_Valid.calls k a0 a1 a2 _ _ hva).mono ?_; rintro e w2 ⟨rfl, hb2⟩; have HS2 := Aside0.mk (HS1.out.below hb2); clear hb2; clear ca0 ca1 ca2 cb0 cb1 cb2 cr0 cr1 fr0 fr1; obtain ⟨ca0, ca1, ca2, cb0, cb1, cb2, cr0, cr1, fr0, fr1⟩ := HS2.out.cells) | (go_at_call 39; with_reducible refine (Q.value_Valid.calls k b0 b1 b2 _ _ hvb).mono ?_; rintro e w3 ⟨rfl, hb3⟩; have HS3 := Aside0.mk (HS2.out.below hb3); clear hb3; clear ca0 ca1 ca2 cb0 cb1 cb2 cr0 cr1 fr0 fr1; obtain ⟨ca0, ca1, ca2, cb0, cb1, cb2, cr0, cr1, fr0, fr1⟩ := HS3.out.cells))
 refine bodyPost_ret (results_ct rfl _ _ (w.heap.size + 1 + 1) 32 #[.int .i64 0, .int .i64 0] (0, 0) _ rfl (by refine blk_put (cs := #[.int .i64 0, .int .i64 0]) ?_ 1 _ rfl; refine blk_put (cs := #[.int .i64 0, .int .i64 0]) ?_ 0 _ rfl; exact HS3.out.2.2.1) Tryd.underlying32 rfl (by kernel_rfl)) rfl ?_
 have HBX := HS3.out.2.2.2.1
 exact ⟨rfl, by repeat (first | exact HBX | refine below_set ?_ (by omega))⟩
set_option maxRecDepth 100000 in
set_option maxHeartbeats 4000000 in
theorem of_2_c (k : Nat) (tol a0 a1 : Int) (a2 : ByteArray) (b0 b1 : Int) (b2 : ByteArray) (w : World) (hG : Gl w) (hva : Q.value_Valid.f k a0 a1 a2 = some true) (hvb : Q.value_Valid.f k b0 b1 b2 = some true) (ha : (a0 == 0) = false) (hb : (b0 == 0) = false) (e0 : (a0 != b0) = false) (e1 : (a0 != 1) = false) (r1 r2 : Int) (hN : CL.measure_texts_1.f k a2 b2 = some (r1, r2)) :
  Calls Tryd.prog 20 #[.int .i64 2, .int .i64 tol, .agg #[.int .i64 a0, .int .i64 a1, .string a2], .agg #[.int .i64 b0, .int .i64 b1, .string b2]] w fun e w' => e = .returned (.tuple #[.agg #[.int .i64 r1, .int .i64 r2], .int .i64 0]) ∧ Below w.heap.size w w' := by
 have HS0 := Aside0.mk (OfS.start (a0 := a0) (a1 := a1) (a2 := a2) (b0 := b0) (b1 := b1) (b2 := b2) hG)
 clear hG
 have hu := Tryd.underlying32
 have hu2 := Tryd.underlying26
 have hnn := eq_nil_nil
 have hfn := eq_func_nil
 have hev := eq_val
 go_enter Tryd.func20, Tryd.ntmps20
 go_wp2_with (first | (go_at_call 38; with_reducible refine (texts_calls _).mono ?_; rintro e w1 ⟨b, rfl, hb1, hlk⟩; have hl1 := hlk 2 (by decide); rw [show ofF 2 = .func (.func 50) #[] #[] from rfl] at hl1; clear hlk; have HS1 := Aside0.mk (HS0.out.below hb1); clear hb1; obtain ⟨ca0, ca1, ca2, cb0, cb1, cb2, cr0, cr1, fr0, fr1⟩ := HS1.out.cells) | (go_at_call 39; with_reducible refine (Q.value_Valid.calls k a0 a1 a2 _ _ hva).mono ?_; rintro e w2 ⟨rfl, hb2⟩; have HS2 := Aside0.mk (HS1.out.below hb2); clear hb2; clear ca0 ca1 ca2 cb0 cb1 cb2 cr0 cr1 fr0 fr1; obtain ⟨ca0, ca1, ca2, cb0, cb1, cb2, cr0, cr1, fr0, fr1⟩ := HS2.out.cells) | (go_at_call 39; with_reducible refine (Q.value_Valid.calls k b0 b1 b2 _ _ hvb).mono ?_; rintro e w3 ⟨rfl, hb3⟩; have HS3 := Aside0.mk (HS2.out.below hb3); clear hb3; clear ca0 ca1 ca2 cb0 cb1 cb2 cr0 cr1 fr0 fr1; obtain ⟨ca0, ca1, ca2, cb0, cb1, cb2, cr0, cr1, fr0, fr1⟩ := HS3.out.cells) | (go_at_call 50; with_reducible refine (CL.measure_texts_1.calls k a2 b2 r1 r2 _ HS3.out.gl hN).mono ?_; rintro e w4 ⟨rfl, hb4⟩; have HS4 := Aside0.mk (HS3.out.below hb4); clear hb4; clear ca0 ca1 ca2 cb0 cb1 cb2 cr0 cr1 fr0 fr1; obtain ⟨ca0, ca1, ca2, cb0, cb1, cb2, cr0, cr1, fr0, fr1⟩ := HS4.out.cells))
 refine bodyPost_ret (results_ct rfl _ _ (w.heap.size + 1 + 1) 32 #[.int .i64 r1, .int .i64 r2] (0, 0) _ rfl (by refine blk_put (cs := #[.int .i64 r1, .int .i64 0]) ?_ 1 _ rfl; refine blk_put (cs := #[.int .i64 0, .int .i64 0]) ?_ 0 _ rfl; exact HS4.out.2.2.1) Tryd.underlying32 rfl (by kernel_rfl)) rfl ?_
 have HBX := HS4.out.2.2.2.1
 exact ⟨rfl, by repeat (first | exact HBX | refine below_set ?_ (by omega))⟩
set_option maxRecDepth 100000 in
set_option maxHeartbeats 4000000 in
theorem of_3_va (k : Nat) (tol a0 a1 : Int) (a2 : ByteArray) (b0 b1 : Int) (b2 : ByteArray) (w : World) (hG : Gl w) (hva : Q.value_Valid.f k a0 a1 a2 = some false) :
  Calls Tryd.prog 20 #[.int .i64 3, .int .i64 tol, .agg #[.int .i64 a0, .int .i64 a1, .string a2], .agg #[.int .i64 b0, .int .i64 b1, .string b2]] w fun e w' => e = .returned (.tuple #[.agg #[.int .i64 0, .int .i64 0], .int .i64 1]) ∧ Below w.heap.size w w' := by
 have HS0 := Aside0.mk (OfS.start (a0 := a0) (a1 := a1) (a2 := a2) (b0 := b0) (b1 := b1) (b2 := b2) hG)
 clear hG
 have hu := Tryd.underlying32
 have hu2 := Tryd.underlying26
 have hnn := eq_nil_nil
 have hfn := eq_func_nil
 have hev := eq_val
 go_enter Tryd.func20, Tryd.ntmps20
 go_wp2_with (first | (go_at_call 38; with_reducible refine (texts_calls _).mono ?_; rintro e w1 ⟨b, rfl, hb1, hlk⟩; have hl1 := hlk 3 (by decide); rw [show ofF 3 = .func (.func 52) #[] #[] from rfl] at hl1; clear hlk; have HS1 := Aside0.mk (HS0.out.below hb1); clear hb1; obtain ⟨ca0, ca1, ca2, cb0, cb1, cb2, cr0, cr1, fr0, fr1⟩ := HS1.out.cells) | (go_at_call 39; with_reducible refine (Q.value_Valid.calls k a0 a1 a2 _ _ hva).mono ?_; rintro e w2 ⟨rfl, hb2⟩; have HS2 := Aside0.mk (HS1.out.below hb2); clear hb2; clear ca0 ca1 ca2 cb0 cb1 cb2 cr0 cr1 fr0 fr1; obtain ⟨ca0, ca1, ca2, cb0, cb1, cb2, cr0, cr1, fr0, fr1⟩ := HS2.out.cells))
 refine bodyPost_ret (results_ct rfl _ _ (w.heap.size + 1 + 1) 32 #[.int .i64 0, .int .i64 0] (0, 0) _ rfl (by refine blk_put (cs := #[.int .i64 0, .int .i64 0]) ?_ 1 _ rfl; refine blk_put (cs := #[.int .i64 0, .int .i64 0]) ?_ 0 _ rfl; exact HS2.out.2.2.1) Tryd.underlying32 rfl (by kernel_rfl)) rfl ?_
 have HBX := HS2.out.2.2.2.1
 exact ⟨rfl, by repeat (first | exact HBX | refine below_set ?_ (by omega))⟩
set_option maxRecDepth 100000 in
set_option maxHeartbeats 4000000 in
theorem of_3_vb (k : Nat) (tol a0 a1 : Int) (a2 : ByteArray) (b0 b1 : Int) (b2 : ByteArray) (w : World) (hG : Gl w) (hva : Q.value_Valid.f k a0 a1 a2 = some true) (hvb : Q.value_Valid.f k b0 b1 b2 = some false) :
  Calls Tryd.prog 20 #[.int .i64 3, .int .i64 tol, .agg #[.int .i64 a0, .int .i64 a1, .string a2], .agg #[.int .i64 b0, .int .i64 b1, .string b2]] w fun e w' => e = .returned (.tuple #[.agg #[.int .i64 0, .int .i64 0], .int .i64 1]) ∧ Below w.heap.size w w' := by
 have HS0 := Aside0.mk (OfS.start (a0 := a0) (a1 := a1) (a2 := a2) (b0 := b0) (b1 := b1) (b2 := b2) hG)
 clear hG
 have hu := Tryd.underlying32
 have hu2 := Tryd.underlying26
 have hnn := eq_nil_nil
 have hfn := eq_func_nil
 have hev := eq_val
 go_enter Tryd.func20, Tryd.ntmps20
 go_wp2_with (first | (go_at_call 38; with_reducible refine (texts_calls _).mono ?_; rintro e w1 ⟨b, rfl, hb1, hlk⟩; have hl1 := hlk 3 (by decide); rw [show ofF 3 = .func (.func 52) #[] #[] from rfl] at hl1; clear hlk; have HS1 := Aside0.mk (HS0.out.below hb1); clear hb1; obtain ⟨ca0, ca1, ca2, cb0, cb1, cb2, cr0, cr1, fr0, fr1⟩ := HS1.out.cells) | (go_at_call 39; with_reducible refine (Q.value_Valid.calls k a0 a1 a2 _ _ hva).mono ?_; rintro e w2 ⟨rfl, hb2⟩; have HS2 := Aside0.mk (HS1.out.below hb2); clear hb2; clear ca0 ca1 ca2 cb0 cb1 cb2 cr0 cr1 fr0 fr1; obtain ⟨ca0, ca1, ca2, cb0, cb1, cb2, cr0, cr1, fr0, fr1⟩ := HS2.out.cells) | (go_at_call 39; with_reducible refine (Q.value_Valid.calls k b0 b1 b2 _ _ hvb).mono ?_; rintro e w3 ⟨rfl, hb3⟩; have HS3 := Aside0.mk (HS2.out.below hb3); clear hb3; clear ca0 ca1 ca2 cb0 cb1 cb2 cr0 cr1 fr0 fr1; obtain ⟨ca0, ca1, ca2, cb0, cb1, cb2, cr0, cr1, fr0, fr1⟩ := HS3.out.cells))
 refine bodyPost_ret (results_ct rfl _ _ (w.heap.size + 1 + 1) 32 #[.int .i64 0, .int .i64 0] (0, 0) _ rfl (by refine blk_put (cs := #[.int .i64 0, .int .i64 0]) ?_ 1 _ rfl; refine blk_put (cs := #[.int .i64 0, .int .i64 0]) ?_ 0 _ rfl; exact HS3.out.2.2.1) Tryd.underlying32 rfl (by kernel_rfl)) rfl ?_
 have HBX := HS3.out.2.2.2.1
 exact ⟨rfl, by repeat (first | exact HBX | refine below_set ?_ (by omega))⟩
set_option maxRecDepth 100000 in
set_option maxHeartbeats 4000000 in
theorem of_3_na (k : Nat) (tol a0 a1 : Int) (a2 : ByteArray) (b0 b1 : Int) (b2 : ByteArray) (w : World) (hG : Gl w) (hva : Q.value_Valid.f k a0 a1 a2 = some true) (hvb : Q.value_Valid.f k b0 b1 b2 = some true) (ha : (a0 == 0) = true) :
  Calls Tryd.prog 20 #[.int .i64 3, .int .i64 tol, .agg #[.int .i64 a0, .int .i64 a1, .string a2], .agg #[.int .i64 b0, .int .i64 b1, .string b2]] w fun e w' => e = .returned (.tuple #[.agg #[.int .i64 0, .int .i64 1], .int .i64 0]) ∧ Below w.heap.size w w' := by
 have HS0 := Aside0.mk (OfS.start (a0 := a0) (a1 := a1) (a2 := a2) (b0 := b0) (b1 := b1) (b2 := b2) hG)
 clear hG
 have hu := Tryd.underlying32
 have hu2 := Tryd.underlying26
 have hnn := eq_nil_nil
 have hfn := eq_func_nil
 have hev := eq_val
 go_enter Tryd.func20, Tryd.ntmps20
 go_wp2_with (first | (go_at_call 38; with_reducible refine (texts_calls _).mono ?_; rintro e w1 ⟨b, rfl, hb1, hlk⟩; have hl1 := hlk 3 (by decide); rw [show ofF 3 = .func (.func 52) #[] #[] from rfl] at hl1; clear hlk; have HS1 := Aside0.mk (HS0.out.below hb1); clear hb1; obtain ⟨ca0, ca1, ca2, cb0, cb1, cb2, cr0, cr1, fr0, fr1⟩ := HS1.out.cells) | (go_at_call 39; with_reducible refine (Q.value_Valid.calls k a0 a1 a2 _ _ hva).mono ?_; rintro e w2 ⟨rfl, hb2⟩; have HS2 := Aside0.mk (HS1.out.below hb2); clear hb2; clear ca0 ca1 ca2 cb0 cb1 cb2 cr0 cr1 fr0 fr1; obtain ⟨ca0, ca1, ca2, cb0, cb1, cb2, cr0, cr1, fr0, fr1⟩ := HS2.out.cells) | (go_at_call 39; with_reducible refine (Q.value_Valid.calls k b0 b1 b2 _ _ hvb).mono ?_; rintro e w3 ⟨rfl, hb3⟩; have HS3 := Aside0.mk (HS2.out.below hb3); clear hb3; clear ca0 ca1 ca2 cb0 cb1 cb2 cr0 cr1 fr0 fr1; obtain ⟨ca0, ca1, ca2, cb0, cb1, cb2, cr0, cr1, fr0, fr1⟩ := HS3.out.cells) | ((with_reducible refine gate_op (op := .load 32 (.global 1)) rfl ?_); refine gl1_event rfl rfl rfl ?hGl ?_; (case hGl => exact HS3.out.2.2.2.2)))
 refine bodyPost_ret (results_ct rfl _ _ (w.heap.size + 1 + 1) 32 #[.int .i64 0, .int .i64 1] (0, 0) _ rfl (by refine blk_put (cs := #[.int .i64 0, .int .i64 0]) ?_ 1 _ rfl; refine blk_put (cs := #[.int .i64 0, .int .i64 0]) ?_ 0 _ rfl; exact HS3.out.2.2.1) Tryd.underlying32 rfl (by kernel_rfl)) rfl ?_
 have HBX := HS3.out.2.2.2.1
 exact ⟨rfl, by repeat (first | exact HBX | refine below_set ?_ (by omega))⟩
set_option maxRecDepth 100000 in
set_option maxHeartbeats 4000000 in
theorem of_3_nb (k : Nat) (tol a0 a1 : Int) (a2 : ByteArray) (b0 b1 : Int) (b2 : ByteArray) (w : World) (hG : Gl w) (hva : Q.value_Valid.f k a0 a1 a2 = some true) (hvb : Q.value_Valid.f k b0 b1 b2 = some true) (ha : (a0 == 0) = false) (hb : (b0 == 0) = true) :
  Calls Tryd.prog 20 #[.int .i64 3, .int .i64 tol, .agg #[.int .i64 a0, .int .i64 a1, .string a2], .agg #[.int .i64 b0, .int .i64 b1, .string b2]] w fun e w' => e = .returned (.tuple #[.agg #[.int .i64 0, .int .i64 1], .int .i64 0]) ∧ Below w.heap.size w w' := by
 have HS0 := Aside0.mk (OfS.start (a0 := a0) (a1 := a1) (a2 := a2) (b0 := b0) (b1 := b1) (b2 := b2) hG)
 clear hG
 have hu := Tryd.underlying32
 have hu2 := Tryd.underlying26
 have hnn := eq_nil_nil
 have hfn := eq_func_nil
 have hev := eq_val
 go_enter Tryd.func20, Tryd.ntmps20
 go_wp2_with (first | (go_at_call 38; with_reducible refine (texts_calls _).mono ?_; rintro e w1 ⟨b, rfl, hb1, hlk⟩; have hl1 := hlk 3 (by decide); rw [show ofF 3 = .func (.func 52) #[] #[] from rfl] at hl1; clear hlk; have HS1 := Aside0.mk (HS0.out.below hb1); clear hb1; obtain ⟨ca0, ca1, ca2, cb0, cb1, cb2, cr0, cr1, fr0, fr1⟩ := HS1.out.cells) | (go_at_call 39; with_reducible refine (Q.value_Valid.calls k a0 a1 a2 _ _ hva).mono ?_; rintro e w2 ⟨rfl, hb2⟩; have HS2 := Aside0.mk (HS1.out.below hb2); clear hb2; clear ca0 ca1 ca2 cb0 cb1 cb2 cr0 cr1 fr0 fr1; obtain ⟨ca0, ca1, ca2, cb0, cb1, cb2, cr0, cr1, fr0, fr1⟩ := HS2.out.cells) | (go_at_call 39; with_reducible refine (Q.value_Valid.calls k b0 b1 b2 _ _ hvb).mono ?_; rintro e w3 ⟨rfl, hb3⟩; have HS3 := Aside0.mk (HS2.out.below hb3); clear hb3; clear ca0 ca1 ca2 cb0 cb1 cb2 cr0 cr1 fr0 fr1; obtain ⟨ca0, ca1, ca2, cb0, cb1, cb2, cr0, cr1, fr0, fr1⟩ := HS3.out.cells) | ((with_reducible refine gate_op (op := .load 32 (.global 1)) rfl ?_); refine gl1_event rfl rfl rfl ?hGl ?_; (case hGl => exact HS3.out.2.2.2.2)))
 refine bodyPost_ret (results_ct rfl _ _ (w.heap.size + 1 + 1) 32 #[.int .i64 0, .int .i64 1] (0, 0) _ rfl (by refine blk_put (cs := #[.int .i64 0, .int .i64 0]) ?_ 1 _ rfl; refine blk_put (cs := #[.int .i64 0, .int .i64 0]) ?_ 0 _ rfl; exact HS3.out.2.2.1) Tryd.underlying32 rfl (by kernel_rfl)) rfl ?_
 have HBX := HS3.out.2.2.2.1
 exact ⟨rfl, by repeat (first | exact HBX | refine below_set ?_ (by omega))⟩
set_option maxRecDepth 100000 in
set_option maxHeartbeats 4000000 in
theorem of_3_kd (k : Nat) (tol a0 a1 : Int) (a2 : ByteArray) (b0 b1 : Int) (b2 : ByteArray) (w : World) (hG : Gl w) (hva : Q.value_Valid.f k a0 a1 a2 = some true) (hvb : Q.value_Valid.f k b0 b1 b2 = some true) (ha : (a0 == 0) = false) (hb : (b0 == 0) = false) (e0 : (a0 != b0) = true) :
  Calls Tryd.prog 20 #[.int .i64 3, .int .i64 tol, .agg #[.int .i64 a0, .int .i64 a1, .string a2], .agg #[.int .i64 b0, .int .i64 b1, .string b2]] w fun e w' => e = .returned (.tuple #[.agg #[.int .i64 0, .int .i64 0], .int .i64 10]) ∧ Below w.heap.size w w' := by
 have HS0 := Aside0.mk (OfS.start (a0 := a0) (a1 := a1) (a2 := a2) (b0 := b0) (b1 := b1) (b2 := b2) hG)
 clear hG
 have hu := Tryd.underlying32
 have hu2 := Tryd.underlying26
 have hnn := eq_nil_nil
 have hfn := eq_func_nil
 have hev := eq_val
 go_enter Tryd.func20, Tryd.ntmps20
 go_wp2_with (first | (go_at_call 38; with_reducible refine (texts_calls _).mono ?_; rintro e w1 ⟨b, rfl, hb1, hlk⟩; have hl1 := hlk 3 (by decide); rw [show ofF 3 = .func (.func 52) #[] #[] from rfl] at hl1; clear hlk; have HS1 := Aside0.mk (HS0.out.below hb1); clear hb1; obtain ⟨ca0, ca1, ca2, cb0, cb1, cb2, cr0, cr1, fr0, fr1⟩ := HS1.out.cells) | (go_at_call 39; with_reducible refine (Q.value_Valid.calls k a0 a1 a2 _ _ hva).mono ?_; rintro e w2 ⟨rfl, hb2⟩; have HS2 := Aside0.mk (HS1.out.below hb2); clear hb2; clear ca0 ca1 ca2 cb0 cb1 cb2 cr0 cr1 fr0 fr1; obtain ⟨ca0, ca1, ca2, cb0, cb1, cb2, cr0, cr1, fr0, fr1⟩ := HS2.out.cells) | (go_at_call 39; with_reducible refine (Q.value_Valid.calls k b0 b1 b2 _ _ hvb).mono ?_; rintro e w3 ⟨rfl, hb3⟩; have HS3 := Aside0.mk (HS2.out.below hb3); clear hb3; clear ca0 ca1 ca2 cb0 cb1 cb2 cr0 cr1 fr0 fr1; obtain ⟨ca0, ca1, ca2, cb0, cb1, cb2, cr0, cr1, fr0, fr1⟩ := HS3.out.cells))
 refine bodyPost_ret (results_ct rfl _ _ (w.heap.size + 1 + 1) 32 #[.int .i64 0, .int .i64 0] (0, 0) _ rfl (by refine blk_put (cs := #[.int .i64 0, .int .i64 0]) ?_ 1 _ rfl; refine blk_put (cs := #[.int .i64 0, .int .i64 0]) ?_ 0 _ rfl; exact HS3.out.2.2.1) Tryd.underlying32 rfl (by kernel_rfl)) rfl ?_
 have HBX := HS3.out.2.2.2.1
 exact ⟨rfl, by repeat (first | exact HBX | refine below_set ?_ (by omega))⟩
set_option maxRecDepth 100000 in
set_option maxHeartbeats 4000000 in
theorem of_3_ty (k : Nat) (tol a0 a1 : Int) (a2 : ByteArray) (b0 b1 : Int) (b2 : ByteArray) (w : World) (hG : Gl w) (hva : Q.value_Valid.f k a0 a1 a2 = some true) (hvb : Q.value_Valid.f k b0 b1 b2 = some true) (ha : (a0 == 0) = false) (hb : (b0 == 0) = false) (e0 : (a0 != b0) = false) (e1 : (a0 != 1) = true) :
  Calls Tryd.prog 20 #[.int .i64 3, .int .i64 tol, .agg #[.int .i64 a0, .int .i64 a1, .string a2], .agg #[.int .i64 b0, .int .i64 b1, .string b2]] w fun e w' => e = .returned (.tuple #[.agg #[.int .i64 0, .int .i64 0], .int .i64 10]) ∧ Below w.heap.size w w' := by
 have HS0 := Aside0.mk (OfS.start (a0 := a0) (a1 := a1) (a2 := a2) (b0 := b0) (b1 := b1) (b2 := b2) hG)
 clear hG
 have hu := Tryd.underlying32
 have hu2 := Tryd.underlying26
 have hnn := eq_nil_nil
 have hfn := eq_func_nil
 have hev := eq_val
 go_enter Tryd.func20, Tryd.ntmps20
 go_wp2_with (first | (go_at_call 38; with_reducible refine (texts_calls _).mono ?_; rintro e w1 ⟨b, rfl, hb1, hlk⟩; have hl1 := hlk 3 (by decide); rw [show ofF 3 = .func (.func 52) #[] #[] from rfl] at hl1; clear hlk; have HS1 := Aside0.mk (HS0.out.below hb1); clear hb1; obtain ⟨ca0, ca1, ca2, cb0, cb1, cb2, cr0, cr1, fr0, fr1⟩ := HS1.out.cells) | (go_at_call 39; with_reducible refine (Q.value_Valid.calls k a0 a1 a2 _ _ hva).mono ?_; rintro e w2 ⟨rfl, hb2⟩; have HS2 := Aside0.mk (HS1.out.below hb2); clear hb2; clear ca0 ca1 ca2 cb0 cb1 cb2 cr0 cr1 fr0 fr1; obtain ⟨ca0, ca1, ca2, cb0, cb1, cb2, cr0, cr1, fr0, fr1⟩ := HS2.out.cells) | (go_at_call 39; with_reducible refine (Q.value_Valid.calls k b0 b1 b2 _ _ hvb).mono ?_; rintro e w3 ⟨rfl, hb3⟩; have HS3 := Aside0.mk (HS2.out.below hb3); clear hb3; clear ca0 ca1 ca2 cb0 cb1 cb2 cr0 cr1 fr0 fr1; obtain ⟨ca0, ca1, ca2, cb0, cb1, cb2, cr0, cr1, fr0, fr1⟩ := HS3.out.cells))
 refine bodyPost_ret (results_ct rfl _ _ (w.heap.size + 1 + 1) 32 #[.int .i64 0, .int .i64 0] (0, 0) _ rfl (by refine blk_put (cs := #[.int .i64 0, .int .i64 0]) ?_ 1 _ rfl; refine blk_put (cs := #[.int .i64 0, .int .i64 0]) ?_ 0 _ rfl; exact HS3.out.2.2.1) Tryd.underlying32 rfl (by kernel_rfl)) rfl ?_
 have HBX := HS3.out.2.2.2.1
 exact ⟨rfl, by repeat (first | exact HBX | refine below_set ?_ (by omega))⟩
set_option maxRecDepth 100000 in
set_option maxHeartbeats 4000000 in
theorem of_3_c (k : Nat) (tol a0 a1 : Int) (a2 : ByteArray) (b0 b1 : Int) (b2 : ByteArray) (w : World) (hG : Gl w) (hva : Q.value_Valid.f k a0 a1 a2 = some true) (hvb : Q.value_Valid.f k b0 b1 b2 = some true) (ha : (a0 == 0) = false) (hb : (b0 == 0) = false) (e0 : (a0 != b0) = false) (e1 : (a0 != 1) = false) (r1 r2 : Int) (hN : CL.measure_texts_2.f k a2 b2 = some (r1, r2)) :
  Calls Tryd.prog 20 #[.int .i64 3, .int .i64 tol, .agg #[.int .i64 a0, .int .i64 a1, .string a2], .agg #[.int .i64 b0, .int .i64 b1, .string b2]] w fun e w' => e = .returned (.tuple #[.agg #[.int .i64 r1, .int .i64 r2], .int .i64 0]) ∧ Below w.heap.size w w' := by
 have HS0 := Aside0.mk (OfS.start (a0 := a0) (a1 := a1) (a2 := a2) (b0 := b0) (b1 := b1) (b2 := b2) hG)
 clear hG
 have hu := Tryd.underlying32
 have hu2 := Tryd.underlying26
 have hnn := eq_nil_nil
 have hfn := eq_func_nil
 have hev := eq_val
 go_enter Tryd.func20, Tryd.ntmps20
 go_wp2_with (first | (go_at_call 38; with_reducible refine (texts_calls _).mono ?_; rintro e w1 ⟨b, rfl, hb1, hlk⟩; have hl1 := hlk 3 (by decide); rw [show ofF 3 = .func (.func 52) #[] #[] from rfl] at hl1; clear hlk; have HS1 := Aside0.mk (HS0.out.below hb1); clear hb1; obtain ⟨ca0, ca1, ca2, cb0, cb1, cb2, cr0, cr1, fr0, fr1⟩ := HS1.out.cells) | (go_at_call 39; with_reducible refine (Q.value_Valid.calls k a0 a1 a2 _ _ hva).mono ?_; rintro e w2 ⟨rfl, hb2⟩; have HS2 := Aside0.mk (HS1.out.below hb2); clear hb2; clear ca0 ca1 ca2 cb0 cb1 cb2 cr0 cr1 fr0 fr1; obtain ⟨ca0, ca1, ca2, cb0, cb1, cb2, cr0, cr1, fr0, fr1⟩ := HS2.out.cells) | (go_at_call 39; with_reducible refine (Q.value_Valid.calls k b0 b1 b2 _ _ hvb).mono ?_; rintro e w3 ⟨rfl, hb3⟩; have HS3 := Aside0.mk (HS2.out.below hb3); clear hb3; clear ca0 ca1 ca2 cb0 cb1 cb2 cr0 cr1 fr0 fr1; obtain ⟨ca0, ca1, ca2, cb0, cb1, cb2, cr0, cr1, fr0, fr1⟩ := HS3.out.cells) | (go_at_call 52; with_reducible refine (CL.measure_texts_2.calls k a2 b2 r1 r2 _ HS3.out.gl hN).mono ?_; rintro e w4 ⟨rfl, hb4⟩; have HS4 := Aside0.mk (HS3.out.below hb4); clear hb4; clear ca0 ca1 ca2 cb0 cb1 cb2 cr0 cr1 fr0 fr1; obtain ⟨ca0, ca1, ca2, cb0, cb1, cb2, cr0, cr1, fr0, fr1⟩ := HS4.out.cells))
 refine bodyPost_ret (results_ct rfl _ _ (w.heap.size + 1 + 1) 32 #[.int .i64 r1, .int .i64 r2] (0, 0) _ rfl (by refine blk_put (cs := #[.int .i64 r1, .int .i64 0]) ?_ 1 _ rfl; refine blk_put (cs := #[.int .i64 0, .int .i64 0]) ?_ 0 _ rfl; exact HS4.out.2.2.1) Tryd.underlying32 rfl (by kernel_rfl)) rfl ?_
 have HBX := HS4.out.2.2.2.1
 exact ⟨rfl, by repeat (first | exact HBX | refine below_set ?_ (by omega))⟩
set_option maxRecDepth 100000 in
set_option maxHeartbeats 4000000 in
theorem of_4_va (k : Nat) (tol a0 a1 : Int) (a2 : ByteArray) (b0 b1 : Int) (b2 : ByteArray) (w : World) (hG : Gl w) (hva : Q.value_Valid.f k a0 a1 a2 = some false) :
  Calls Tryd.prog 20 #[.int .i64 4, .int .i64 tol, .agg #[.int .i64 a0, .int .i64 a1, .string a2], .agg #[.int .i64 b0, .int .i64 b1, .string b2]] w fun e w' => e = .returned (.tuple #[.agg #[.int .i64 0, .int .i64 0], .int .i64 1]) ∧ Below w.heap.size w w' := by
 have HS0 := Aside0.mk (OfS.start (a0 := a0) (a1 := a1) (a2 := a2) (b0 := b0) (b1 := b1) (b2 := b2) hG)
 clear hG
 have hu := Tryd.underlying32
 have hu2 := Tryd.underlying26
 have hnn := eq_nil_nil
 have hfn := eq_func_nil
 have hev := eq_val
 go_enter Tryd.func20, Tryd.ntmps20
 go_wp2_with (first | (go_at_call 38; with_reducible refine (texts_calls _).mono ?_; rintro e w1 ⟨b, rfl, hb1, hlk⟩; have hl1 := hlk 4 (by decide); rw [show ofF 4 = .func (.func 54) #[] #[] from rfl] at hl1; clear hlk; have HS1 := Aside0.mk (HS0.out.below hb1); clear hb1; obtain ⟨ca0, ca1, ca2, cb0, cb1, cb2, cr0, cr1, fr0, fr1⟩ := HS1.out.cells) | (go_at_call 39; with_reducible refine (Q.value_Valid.calls k a0 a1 a2 _ _ hva).mono ?_; rintro e w2 ⟨rfl, hb2⟩; have HS2 := Aside0.mk (HS1.out.below hb2); clear hb2; clear ca0 ca1 ca2 cb0 cb1 cb2 cr0 cr1 fr0 fr1; obtain ⟨ca0, ca1, ca2, cb0, cb1, cb2, cr0, cr1, fr0, fr1⟩ := HS2.out.cells))
 refine bodyPost_ret (results_ct rfl _ _ (w.heap.size + 1 + 1) 32 #[.int .i64 0, .int .i64 0] (0, 0) _ rfl (by refine blk_put (cs := #[.int .i64 0, .int .i64 0]) ?_ 1 _ rfl; refine blk_put (cs := #[.int .i64 0, .int .i64 0]) ?_ 0 _ rfl; exact HS2.out.2.2.1) Tryd.underlying32 rfl (by kernel_rfl)) rfl ?_
 have HBX := HS2.out.2.2.2.1
 exact ⟨rfl, by repeat (first | exact HBX | refine below_set ?_ (by omega))⟩
set_option maxRecDepth 100000 in
set_option maxHeartbeats 4000000 in
theorem of_4_vb (k : Nat) (tol a0 a1 : Int) (a2 : ByteArray) (b0 b1 : Int) (b2 : ByteArray) (w : World) (hG : Gl w) (hva : Q.value_Valid.f k a0 a1 a2 = some true) (hvb : Q.value_Valid.f k b0 b1 b2 = some false) :
  Calls Tryd.prog 20 #[.int .i64 4, .int .i64 tol, .agg #[.int .i64 a0, .int .i64 a1, .string a2], .agg #[.int .i64 b0, .int .i64 b1, .string b2]] w fun e w' => e = .returned (.tuple #[.agg #[.int .i64 0, .int .i64 0], .int .i64 1]) ∧ Below w.heap.size w w' := by
 have HS0 := Aside0.mk (OfS.start (a0 := a0) (a1 := a1) (a2 := a2) (b0 := b0) (b1 := b1) (b2 := b2) hG)
 clear hG
 have hu := Tryd.underlying32
 have hu2 := Tryd.underlying26
 have hnn := eq_nil_nil
 have hfn := eq_func_nil
 have hev := eq_val
 go_enter Tryd.func20, Tryd.ntmps20
 go_wp2_with (first | (go_at_call 38; with_reducible refine (texts_calls _).mono ?_; rintro e w1 ⟨b, rfl, hb1, hlk⟩; have hl1 := hlk 4 (by decide); rw [show ofF 4 = .func (.func 54) #[] #[] from rfl] at hl1; clear hlk; have HS1 := Aside0.mk (HS0.out.below hb1); clear hb1; obtain ⟨ca0, ca1, ca2, cb0, cb1, cb2, cr0, cr1, fr0, fr1⟩ := HS1.out.cells) | (go_at_call 39; with_reducible refine (Q.value_Valid.calls k a0 a1 a2 _ _ hva).mono ?_; rintro e w2 ⟨rfl, hb2⟩; have HS2 := Aside0.mk (HS1.out.below hb2); clear hb2; clear ca0 ca1 ca2 cb0 cb1 cb2 cr0 cr1 fr0 fr1; obtain ⟨ca0, ca1, ca2, cb0, cb1, cb2, cr0, cr1, fr0, fr1⟩ := HS2.out.cells) | (go_at_call 39; with_reducible refine (Q.value_Valid.calls k b0 b1 b2 _ _ hvb).mono ?_; rintro e w3 ⟨rfl, hb3⟩; have HS3 := Aside0.mk (HS2.out.below hb3); clear hb3; clear ca0 ca1 ca2 cb0 cb1 cb2 cr0 cr1 fr0 fr1; obtain ⟨ca0, ca1, ca2, cb0, cb1, cb2, cr0, cr1, fr0, fr1⟩ := HS3.out.cells))
 refine bodyPost_ret (results_ct rfl _ _ (w.heap.size + 1 + 1) 32 #[.int .i64 0, .int .i64 0] (0, 0) _ rfl (by refine blk_put (cs := #[.int .i64 0, .int .i64 0]) ?_ 1 _ rfl; refine blk_put (cs := #[.int .i64 0, .int .i64 0]) ?_ 0 _ rfl; exact HS3.out.2.2.1) Tryd.underlying32 rfl (by kernel_rfl)) rfl ?_
 have HBX := HS3.out.2.2.2.1
 exact ⟨rfl, by repeat (first | exact HBX | refine below_set ?_ (by omega))⟩
set_option maxRecDepth 100000 in
set_option maxHeartbeats 4000000 in
theorem of_4_na (k : Nat) (tol a0 a1 : Int) (a2 : ByteArray) (b0 b1 : Int) (b2 : ByteArray) (w : World) (hG : Gl w) (hva : Q.value_Valid.f k a0 a1 a2 = some true) (hvb : Q.value_Valid.f k b0 b1 b2 = some true) (ha : (a0 == 0) = true) :
  Calls Tryd.prog 20 #[.int .i64 4, .int .i64 tol, .agg #[.int .i64 a0, .int .i64 a1, .string a2], .agg #[.int .i64 b0, .int .i64 b1, .string b2]] w fun e w' => e = .returned (.tuple #[.agg #[.int .i64 0, .int .i64 1], .int .i64 0]) ∧ Below w.heap.size w w' := by
 have HS0 := Aside0.mk (OfS.start (a0 := a0) (a1 := a1) (a2 := a2) (b0 := b0) (b1 := b1) (b2 := b2) hG)
 clear hG
 have hu := Tryd.underlying32
 have hu2 := Tryd.underlying26
 have hnn := eq_nil_nil
 have hfn := eq_func_nil
 have hev := eq_val
 go_enter Tryd.func20, Tryd.ntmps20
 go_wp2_with (first | (go_at_call 38; with_reducible refine (texts_calls _).mono ?_; rintro e w1 ⟨b, rfl, hb1, hlk⟩; have hl1 := hlk 4 (by decide); rw [show ofF 4 = .func (.func 54) #[] #[] from rfl] at hl1; clear hlk; have HS1 := Aside0.mk (HS0.out.below hb1); clear hb1; obtain ⟨ca0, ca1, ca2, cb0, cb1, cb2, cr0, cr1, fr0, fr1⟩ := HS1.out.cells) | (go_at_call 39; with_reducible refine (Q.value_Valid.calls k a0 a1 a2 _ _ hva).mono ?_; rintro e w2 ⟨rfl, hb2⟩; have HS2 := Aside0.mk (HS1.out.below hb2); clear hb2; clear ca0 ca1 ca2 cb0 cb1 cb2 cr0 cr1 fr0 fr1; obtain ⟨ca0, ca1, ca2, cb0, cb1, cb2, cr0, cr1, fr0, fr1⟩ := HS2.out.cells) | (go_at_call 39; with_reducible refine (Q.value_Valid.calls k b0 b1 b2 _ _ hvb).mono ?_; rintro e w3 ⟨rfl, hb3⟩; have HS3 := Aside0.mk (HS2.out.below hb3); clear hb3; clear ca0 ca1 ca2 cb0 cb1 cb2 cr0 cr1 fr0 fr1; obtain ⟨ca0, ca1, ca2, cb0, cb1, cb2, cr0, cr1, fr0, fr1⟩ := HS3.out.cells) | ((with_reducible refine gate_op (op := .load 32 (.global 1)) rfl ?_); refine gl1_event rfl rfl rfl ?hGl ?_; (case hGl => exact HS3.out.2.2.2.2)))
 refine bodyPost_ret (results_ct rfl _ _ (w.heap.size + 1 + 1) 32 #[.int .i64 0, .int .i64 1] (0, 0) _ rfl (by refine blk_put (cs := #[.int .i64 0, .int .i64 0]) ?_ 1 _ rfl; refine blk_put (cs := #[.int .i64 0, .int .i64 0]) ?_ 0 _ rfl; exact HS3.out.2.2.1) Tryd.underlying32 rfl (by kernel_rfl)) rfl ?_
 have HBX := HS3.out.2.2.2.1
 exact ⟨rfl, by repeat (first | exact HBX | refine below_set ?_ (by omega))⟩
set_option maxRecDepth 100000 in
set_option maxHeartbeats 4000000 in
theorem of_4_nb (k : Nat) (tol a0 a1 : Int) (a2 : ByteArray) (b0 b1 : Int) (b2 : ByteArray) (w : World) (hG : Gl w) (hva : Q.value_Valid.f k a0 a1 a2 = some true) (hvb : Q.value_Valid.f k b0 b1 b2 = some true) (ha : (a0 == 0) = false) (hb : (b0 == 0) = true) :
  Calls Tryd.prog 20 #[.int .i64 4, .int .i64 tol, .agg #[.int .i64 a0, .int .i64 a1, .string a2], .agg #[.int .i64 b0, .int .i64 b1, .string b2]] w fun e w' => e = .returned (.tuple #[.agg #[.int .i64 0, .int .i64 1], .int .i64 0]) ∧ Below w.heap.size w w' := by
 have HS0 := Aside0.mk (OfS.start (a0 := a0) (a1 := a1) (a2 := a2) (b0 := b0) (b1 := b1) (b2 := b2) hG)
 clear hG
 have hu := Tryd.underlying32
 have hu2 := Tryd.underlying26
 have hnn := eq_nil_nil
 have hfn := eq_func_nil
 have hev := eq_val
 go_enter Tryd.func20, Tryd.ntmps20
 go_wp2_with (first | (go_at_call 38; with_reducible refine (texts_calls _).mono ?_; rintro e w1 ⟨b, rfl, hb1, hlk⟩; have hl1 := hlk 4 (by decide); rw [show ofF 4 = .func (.func 54) #[] #[] from rfl] at hl1; clear hlk; have HS1 := Aside0.mk (HS0.out.below hb1); clear hb1; obtain ⟨ca0, ca1, ca2, cb0, cb1, cb2, cr0, cr1, fr0, fr1⟩ := HS1.out.cells) | (go_at_call 39; with_reducible refine (Q.value_Valid.calls k a0 a1 a2 _ _ hva).mono ?_; rintro e w2 ⟨rfl, hb2⟩; have HS2 := Aside0.mk (HS1.out.below hb2); clear hb2; clear ca0 ca1 ca2 cb0 cb1 cb2 cr0 cr1 fr0 fr1; obtain ⟨ca0, ca1, ca2, cb0, cb1, cb2, cr0, cr1, fr0, fr1⟩ := HS2.out.cells) | (go_at_call 39; with_reducible refine (Q.value_Valid.calls k b0 b1 b2 _ _ hvb).mono ?_; rintro e w3 ⟨rfl, hb3⟩; have HS3 := Aside0.mk (HS2.out.below hb3); clear hb3; clear ca0 ca1 ca2 cb0 cb1 cb2 cr0 cr1 fr0 fr1; obtain ⟨ca0, ca1, ca2, cb0, cb1, cb2, cr0, cr1, fr0, fr1⟩ := HS3.out.cells) | ((with_reducible refine gate_op (op := .load 32 (.global 1)) rfl ?_); refine gl1_event rfl rfl rfl ?hGl ?_; (case hGl => exact HS3.out.2.2.2.2)))
 refine bodyPost_ret (results_ct rfl _ _ (w.heap.size + 1 + 1) 32 #[.int .i64 0, .int .i64 1] (0, 0) _ rfl (by refine blk_put (cs := #[.int .i64 0, .int .i64 0]) ?_ 1 _ rfl; refine blk_put (cs := #[.int .i64 0, .int .i64 0]) ?_ 0 _ rfl; exact HS3.out.2.2.1) Tryd.underlying32 rfl (by kernel_rfl)) rfl ?_
 have HBX := HS3.out.2.2.2.1
 exact ⟨rfl, by repeat (first | exact HBX | refine below_set ?_ (by omega))⟩
set_option maxRecDepth 100000 in
set_option maxHeartbeats 4000000 in
theorem of_4_kd (k : Nat) (tol a0 a1 : Int) (a2 : ByteArray) (b0 b1 : Int) (b2 : ByteArray) (w : World) (hG : Gl w) (hva : Q.value_Valid.f k a0 a1 a2 = some true) (hvb : Q.value_Valid.f k b0 b1 b2 = some true) (ha : (a0 == 0) = false) (hb : (b0 == 0) = false) (e0 : (a0 != b0) = true) :
  Calls Tryd.prog 20 #[.int .i64 4, .int .i64 tol, .agg #[.int .i64 a0, .int .i64 a1, .string a2], .agg #[.int .i64 b0, .int .i64 b1, .string b2]] w fun e w' => e = .returned (.tuple #[.agg #[.int .i64 0, .int .i64 0], .int .i64 10]) ∧ Below w.heap.size w w' := by
 have HS0 := Aside0.mk (OfS.start (a0 := a0) (a1 := a1) (a2 := a2) (b0 := b0) (b1 := b1) (b2 := b2) hG)
 clear hG
 have hu := Tryd.underlying32
 have hu2 := Tryd.underlying26
 have hnn := eq_nil_nil
 have hfn := eq_func_nil
 have hev := eq_val
 go_enter Tryd.func20, Tryd.ntmps20
 go_wp2_with (first | (go_at_call 38; with_reducible refine (texts_calls _).mono ?_; rintro e w1 ⟨b, rfl, hb1, hlk⟩; have hl1 := hlk 4 (by decide); rw [show ofF 4 = .func (.func 54) #[] #[] from rfl] at hl1; clear hlk; have HS1 := Aside0.mk (HS0.out.below hb1); clear hb1; obtain ⟨ca0, ca1, ca2, cb0, cb1, cb2, cr0, cr1, fr0, fr1⟩ := HS1.out.cells) | (go_at_call 39; with_reducible refine (Q.value_Valid.calls k a0 a1 a2 _ _ hva).mono ?_; rintro e w2 ⟨rfl, hb2⟩; have HS2 := Aside0.mk (HS1.out.below hb2); clear hb2; clear ca0 ca1 ca2 cb0 cb1 cb2 cr0 cr1 fr0 fr1; obtain ⟨ca0, ca1, ca2, cb0, cb1, cb2, cr0, cr1, fr0, fr1⟩ := HS2.out.cells) | (go_at_call 39; with_reducible refine (Q.value_Valid.calls k b0 b1 b2 _ _ hvb).mono ?_; rintro e w3 ⟨rfl, hb3⟩; have HS3 := Aside0.mk (HS2.out.below hb3); clear hb3; clear ca0 ca1 ca2 cb0 cb1 cb2 cr0 cr1 fr0 fr1; obtain ⟨ca0, ca1, ca2, cb0, cb1, cb2, cr0, cr1, fr0, fr1⟩ := HS3.out.cells))
 refine bodyPost_ret (results_ct rfl _ _ (w.heap.size + 1 + 1) 32 #[.int .i64 0, .int .i64 0] (0, 0) _ rfl (by refine blk_put (cs := #[.int .i64 0, .int .i64 0]) ?_ 1 _ rfl; refine blk_put (cs := #[.int .i64 0, .int .i64 0]) ?_ 0 _ rfl; exact HS3.out.2.2.1) Tryd.underlying32 rfl (by kernel_rfl)) rfl ?_
 have HBX := HS3.out.2.2.2.1
 exact ⟨rfl, by repeat (first | exact HBX | refine below_set ?_ (by omega))⟩
set_option maxRecDepth 100000 in
set_option maxHeartbeats 4000000 in
theorem of_4_ty (k : Nat) (tol a0 a1 : Int) (a2 : ByteArray) (b0 b1 : Int) (b2 : ByteArray) (w : World) (hG : Gl w) (hva : Q.value_Valid.f k a0 a1 a2 = some true) (hvb : Q.value_Valid.f k b0 b1 b2 = some true) (ha : (a0 == 0) = false) (hb : (b0 == 0) = false) (e0 : (a0 != b0) = false) (e1 : (a0 != 1) = true) :
  Calls Tryd.prog 20 #[.int .i64 4, .int .i64 tol, .agg #[.int .i64 a0, .int .i64 a1, .string a2], .agg #[.int .i64 b0, .int .i64 b1, .string b2]] w fun e w' => e = .returned (.tuple #[.agg #[.int .i64 0, .int .i64 0], .int .i64 10]) ∧ Below w.heap.size w w' := by
 have HS0 := Aside0.mk (OfS.start (a0 := a0) (a1 := a1) (a2 := a2) (b0 := b0) (b1 := b1) (b2 := b2) hG)
 clear hG
 have hu := Tryd.underlying32
 have hu2 := Tryd.underlying26
 have hnn := eq_nil_nil
 have hfn := eq_func_nil
 have hev := eq_val
 go_enter Tryd.func20, Tryd.ntmps20
 go_wp2_with (first | (go_at_call 38; with_reducible refine (texts_calls _).mono ?_; rintro e w1 ⟨b, rfl, hb1, hlk⟩; have hl1 := hlk 4 (by decide); rw [show ofF 4 = .func (.func 54) #[] #[] from rfl] at hl1; clear hlk; have HS1 := Aside0.mk (HS0.out.below hb1); clear hb1; obtain ⟨ca0, ca1, ca2, cb0, cb1, cb2, cr0, cr1, fr0, fr1⟩ := HS1.out.cells) | (go_at_call 39; with_reducible refine (Q.value_Valid.calls k a0 a1 a2 _ _ hva).mono ?_; rintro e w2 ⟨rfl, hb2⟩; have HS2 := Aside0.mk (HS1.out.below hb2); clear hb2; clear ca0 ca1 ca2 cb0 cb1 cb2 cr0 cr1 fr0 fr1; obtain ⟨ca0, ca1, ca2, cb0, cb1, cb2, cr0, cr1, fr0, fr1⟩ := HS2.out.cells) | (go_at_call 39; with_reducible refine (Q.value_Valid.calls k b0 b1 b2 _ _ hvb).mono ?_; rintro e w3 ⟨rfl, hb3⟩; have HS3 := Aside0.mk (HS2.out.below hb3); clear hb3; clear ca0 ca1 ca2 cb0 cb1 cb2 cr0 cr1 fr0 fr1; obtain ⟨ca0, ca1, ca2, cb0, cb1, cb2, cr0, cr1, fr0, fr1⟩ := HS3.out.cells))
 refine bodyPost_ret (results_ct rfl _ _ (w.heap.size + 1 + 1) 32 #[.int .i64 0, .int .i64 0] (0, 0) _ rfl (by refine blk_put (cs := #[.int .i64 0, .int .i64 0]) ?_ 1 _ rfl; refine blk_put (cs := #[.int .i64 0, .int .i64 0]) ?_ 0 _ rfl; exact HS3.out.2.2.1) Tryd.underlying32 rfl (by kernel_rfl)) rfl ?_
 have HBX := HS3.out.2.2.2.1
 exact ⟨rfl, by repeat (first | exact HBX | refine below_set ?_ (by omega))⟩
set_option maxRecDepth 100000 in
set_option maxHeartbeats 4000000 in
theorem of_4_c (k : Nat) (tol a0 a1 : Int) (a2 : ByteArray) (b0 b1 : Int) (b2 : ByteArray) (w : World) (hG : Gl w) (hva : Q.value_Valid.f k a0 a1 a2 = some true) (hvb : Q.value_Valid.f k b0 b1 b2 = some true) (ha : (a0 == 0) = false) (hb : (b0 == 0) = false) (e0 : (a0 != b0) = false) (e1 : (a0 != 1) = false) (r1 r2 : Int) (hN : CL.measure_texts_3.f k a2 b2 = some (r1, r2)) :
  Calls Tryd.prog 20 #[.int .i64 4, .int .i64 tol, .agg #[.int .i64 a0, .int .i64 a1, .string a2], .agg #[.int .i64 b0, .int .i64 b1, .string b2]] w fun e w' => e = .returned (.tuple #[.agg #[.int .i64 r1, .int .i64 r2], .int .i64 0]) ∧ Below w.heap.size w w' := by
 have HS0 := Aside0.mk (OfS.start (a0 := a0) (a1 := a1) (a2 := a2) (b0 := b0) (b1 := b1) (b2 := b2) hG)
 clear hG
 have hu := Tryd.underlying32
 have hu2 := Tryd.underlying26
 have hnn := eq_nil_nil
 have hfn := eq_func_nil
 have hev := eq_val
 go_enter Tryd.func20, Tryd.ntmps20
 go_wp2_with (first | (go_at_call 38; with_reducible refine (texts_calls _).mono ?_; rintro e w1 ⟨b, rfl, hb1, hlk⟩; have hl1 := hlk 4 (by decide); rw [show ofF 4 = .func (.func 54) #[] #[] from rfl] at hl1; clear hlk; have HS1 := Aside0.mk (HS0.out.below hb1); clear hb1; obtain ⟨ca0, ca1, ca2, cb0, cb1, cb2, cr0, cr1, fr0, fr1⟩ := HS1.out.cells) | (go_at_call 39; with_reducible refine (Q.value_Valid.calls k a0 a1 a2 _ _ hva).mono ?_; rintro e w2 ⟨rfl, hb2⟩; have HS2 := Aside0.mk (HS1.out.below hb2); clear hb2; clear ca0 ca1 ca2 cb0 cb1 cb2 cr0 cr1 fr0 fr1; obtain ⟨ca0, ca1, ca2, cb0, cb1, cb2, cr0, cr1, fr0, fr1⟩ := HS2.out.cells) | (go_at_call 39; with_reducible refine (Q.value_Valid.calls k b0 b1 b2 _ _ hvb).mono ?_; rintro e w3 ⟨rfl, hb3⟩; have HS3 := Aside0.mk (HS2.out.below hb3); clear hb3; clear ca0 ca1 ca2 cb0 cb1 cb2 cr0 cr1 fr0 fr1; obtain ⟨ca0, ca1, ca2, cb0, cb1, cb2, cr0, cr1, fr0, fr1⟩ := HS3.out.cells) | (go_at_call 54; with_reducible refine (CL.measure_texts_3.calls k a2 b2 r1 r2 _ HS3.out.gl hN).mono ?_; rintro e w4 ⟨rfl, hb4⟩; have HS4 := Aside0.mk (HS3.out.below hb4); clear hb4; clear ca0 ca1 ca2 cb0 cb1 cb2 cr0 cr1 fr0 fr1; obtain ⟨ca0, ca1, ca2, cb0, cb1, cb2, cr0, cr1, fr0, fr1⟩ := HS4.out.cells))
 refine bodyPost_ret (results_ct rfl _ _ (w.heap.size + 1 + 1) 32 #[.int .i64 r1, .int .i64 r2] (0, 0) _ rfl (by refine blk_put (cs := #[.int .i64 r1, .int .i64 0]) ?_ 1 _ rfl; refine blk_put (cs := #[.int .i64 0, .int .i64 0]) ?_ 0 _ rfl; exact HS4.out.2.2.1) Tryd.underlying32 rfl (by kernel_rfl)) rfl ?_
 have HBX := HS4.out.2.2.2.1
 exact ⟨rfl, by repeat (first | exact HBX | refine below_set ?_ (by omega))⟩
set_option maxRecDepth 100000 in
set_option maxHeartbeats 4000000 in
theorem of_5_va (k : Nat) (tol a0 a1 : Int) (a2 : ByteArray) (b0 b1 : Int) (b2 : ByteArray) (w : World) (hG : Gl w) (hva : Q.value_Valid.f k a0 a1 a2 = some false) :
  Calls Tryd.prog 20 #[.int .i64 5, .int .i64 tol, .agg #[.int .i64 a0, .int .i64 a1, .string a2], .agg #[.int .i64 b0, .int .i64 b1, .string b2]] w fun e w' => e = .returned (.tuple #[.agg #[.int .i64 0, .int .i64 0], .int .i64 1]) ∧ Below w.heap.size w w' := by
 have HS0 := Aside0.mk (OfS.start (a0 := a0) (a1 := a1) (a2 := a2) (b0 := b0) (b1 := b1) (b2 := b2) hG)
 clear hG
 have hu := Tryd.underlying32
 have hu2 := Tryd.underlying26
 have hnn := eq_nil_nil
 have hfn := eq_func_nil
 have hev := eq_val
 go_enter Tryd.func20, Tryd.ntmps20
 go_wp2_with (first | (go_at_call 38; with_reducible refine (texts_calls _).mono ?_; rintro e w1 ⟨b, rfl, hb1, hlk⟩; have hl1 := hlk 5 (by decide); rw [show ofF 5 = .nilFunc from rfl] at hl1; clear hlk; have HS1 := Aside0.mk (HS0.out.below hb1); clear hb1; obtain ⟨ca0, ca1, ca2, cb0, cb1, cb2, cr0, cr1, fr0, fr1⟩ := HS1.out.cells) | (go_at_call 39; with_reducible refine (Q.value_Valid.calls k a0 a1 a2 _ _ hva).mono ?_; rintro e w2 ⟨rfl, hb2⟩; have HS2 := Aside0.mk (HS1.out.below hb2); clear hb2; clear ca0 ca1 ca2 cb0 cb1 cb2 cr0 cr1 fr0 fr1; obtain ⟨ca0, ca1, ca2, cb0, cb1, cb2, cr0, cr1, fr0, fr1⟩ := HS2.out.cells))
 refine bodyPost_ret (results_ct rfl _ _ (w.heap.size + 1 + 1) 32 #[.int .i64 0, .int .i64 0] (0, 0) _ rfl (by refine blk_put (cs := #[.int .i64 0, .int .i64 0]) ?_ 1 _ rfl; refine blk_put (cs := #[.int .i64 0, .int .i64 0]) ?_ 0 _ rfl; exact HS2.out.2.2.1) Tryd.underlying32 rfl (by kernel_rfl)) rfl ?_
 have HBX := HS2.out.2.2.2.1
 exact ⟨rfl, by repeat (first | exact HBX | refine below_set ?_ (by omega))⟩
set_option maxRecDepth 100000 in
set_option maxHeartbeats 4000000 in
theorem of_5_vb (k : Nat) (tol a0 a1 : Int) (a2 : ByteArray) (b0 b1 : Int) (b2 : ByteArray) (w : World) (hG : Gl w) (hva : Q.value_Valid.f k a0 a1 a2 = some true) (hvb : Q.value_Valid.f k b0 b1 b2 = some false) :
  Calls Tryd.prog 20 #[.int .i64 5, .int .i64 tol, .agg #[.int .i64 a0, .int .i64 a1, .string a2], .agg #[.int .i64 b0, .int .i64 b1, .string b2]] w fun e w' => e = .returned (.tuple #[.agg #[.int .i64 0, .int .i64 0], .int .i64 1]) ∧ Below w.heap.size w w' := by
 have HS0 := Aside0.mk (OfS.start (a0 := a0) (a1 := a1) (a2 := a2) (b0 := b0) (b1 := b1) (b2 := b2) hG)
 clear hG
 have hu := Tryd.underlying32
 have hu2 := Tryd.underlying26
 have hnn := eq_nil_nil
 have hfn := eq_func_nil
 have hev := eq_val
 go_enter Tryd.func20, Tryd.ntmps20
 go_wp2_with (first | (go_at_call 38; with_reducible refine (texts_calls _).mono ?_; rintro e w1 ⟨b, rfl, hb1, hlk⟩; have hl1 := hlk 5 (by decide); rw [show ofF 5 = .nilFunc from rfl] at hl1; clear hlk; have HS1 := Aside0.mk (HS0.out.below hb1); clear hb1; obtain ⟨ca0, ca1, ca2, cb0, cb1, cb2, cr0, cr1, fr0, fr1⟩ := HS1.out.cells) | (go_at_call 39; with_reducible refine (Q.value_Valid.calls k a0 a1 a2 _ _ hva).mono ?_; rintro e w2 ⟨rfl, hb2⟩; have HS2 := Aside0.mk (HS1.out.below hb2); clear hb2; clear ca0 ca1 ca2 cb0 cb1 cb2 cr0 cr1 fr0 fr1; obtain ⟨ca0, ca1, ca2, cb0, cb1, cb2, cr0, cr1, fr0, fr1⟩ := HS2.out.cells) | (go_at_call 39; with_reducible refine (Q.value_Valid.calls k b0 b1 b2 _ _ hvb).mono ?_; rintro e w3 ⟨rfl, hb3⟩; have HS3 := Aside0.mk (HS2.out.below hb3); clear hb3; clear ca0 ca1 ca2 cb0 cb1 cb2 cr0 cr1 fr0 fr1; obtain ⟨ca0, ca1, ca2, cb0, cb1, cb2, cr0, cr1, fr0, fr1⟩ := HS3.out.cells))
 refine bodyPost_ret (results_ct rfl _ _ (w.heap.size + 1 + 1) 32 #[.int .i64 0, .int .i64 0] (0, 0) _ rfl (by refine blk_put (cs := #[.int .i64 0, .int .i64 0]) ?_ 1 _ rfl; refine blk_put (cs := #[.int .i64 0, .int .i64 0]) ?_ 0 _ rfl; exact HS3.out.2.2.1) Tryd.underlying32 rfl (by kernel_rfl)) rfl ?_
 have HBX := HS3.out.2.2.2.1
 exact ⟨rfl, by repeat (first | exact HBX | refine below_set ?_ (by omega))⟩
set_option maxRecDepth 100000 in
set_option maxHeartbeats 4000000 in
theorem of_5_t0 (k : Nat) (tol a0 a1 : Int) (a2 : ByteArray) (b0 b1 : Int) (b2 : ByteArray) (w : World) (hG : Gl w) (hva : Q.value_Valid.f k a0 a1 a2 = some true) (hvb : Q.value_Valid.f k b0 b1 b2 = some true) (ht : decide (tol < 0) = true) :
  Calls Tryd.prog 20 #[.int .i64 5, .int .i64 tol, .agg #[.int .i64 a0, .int .i64 a1, .string a2], .agg #[.int .i64 b0, .int .i64 b1, .string b2]] w fun e w' => e = .returned (.tuple #[.agg #[.int .i64 0, .int .i64 0], .int .i64 1]) ∧ Below w.heap.size w w' := by
 have HS0 := Aside0.mk (OfS.start (a0 := a0) (a1 := a1) (a2 := a2) (b0 := b0) (b1 := b1) (b2 := b2) hG)
 clear hG
 have hu := Tryd.underlying32
 have hu2 := Tryd.underlying26
 have hnn := eq_nil_nil
 have hfn := eq_func_nil
 have hev := eq_val
 go_enter Tryd.func20, Tryd.ntmps20
 go_wp2_with (first | (go_at_call 38; with_reducible refine (texts_calls _).mono ?_; rintro e w1 ⟨b, rfl, hb1, hlk⟩; have hl1 := hlk 5 (by decide); rw [show ofF 5 = .nilFunc from rfl] at hl1; clear hlk; have HS1 := Aside0.mk (HS0.out.below hb1); clear hb1; obtain ⟨ca0, ca1, ca2, cb0, cb1, cb2, cr0, cr1, fr0, fr1⟩ := HS1.out.cells) | (go_at_call 39; with_reducible refine (Q.value_Valid.calls k a0 a1 a2 _ _ hva).mono ?_; rintro e w2 ⟨rfl, hb2⟩; have HS2 := Aside0.mk (HS1.out.below hb2); clear hb2; clear ca0 ca1 ca2 cb0 cb1 cb2 cr0 cr1 fr0 fr1; obtain ⟨ca0, ca1, ca2, cb0, cb1, cb2, cr0, cr1, fr0, fr1⟩ := HS2.out.cells) | (go_at_call 39; with_reducible refine (Q.value_Valid.calls k b0 b1 b2 _ _ hvb).mono ?_; rintro e w3 ⟨rfl, hb3⟩; have HS3 := Aside0.mk (HS2.out.below hb3); clear hb3; clear ca0 ca1 ca2 cb0 cb1 cb2 cr0 cr1 fr0 fr1; obtain ⟨ca0, ca1, ca2, cb0, cb1, cb2, cr0, cr1, fr0, fr1⟩ := HS3.out.cells))
 refine bodyPost_ret (results_ct rfl _ _ (w.heap.size + 1 + 1) 32 #[.int .i64 0, .int .i64 0] (0, 0) _ rfl (by refine blk_put (cs := #[.int .i64 0, .int .i64 0]) ?_ 1 _ rfl; refine blk_put (cs := #[.int .i64 0, .int .i64 0]) ?_ 0 _ rfl; exact HS3.out.2.2.1) Tryd.underlying32 rfl (by kernel_rfl)) rfl ?_
 have HBX := HS3.out.2.2.2.1
 exact ⟨rfl, by repeat (first | exact HBX | refine below_set ?_ (by omega))⟩
set_option maxRecDepth 100000 in
set_option maxHeartbeats 4000000 in
theorem of_5_t1 (k : Nat) (tol a0 a1 : Int) (a2 : ByteArray) (b0 b1 : Int) (b2 : ByteArray) (w : World) (hG : Gl w) (hva : Q.value_Valid.f k a0 a1 a2 = some true) (hvb : Q.value_Valid.f k b0 b1 b2 = some true) (ht : decide (tol < 0) = false) (ht1 : decide (1000000000 ≤ tol) = true) :
  Calls Tryd.prog 20 #[.int .i64 5, .int .i64 tol, .agg #[.int .i64 a0, .int .i64 a1, .string a2], .agg #[.int .i64 b0, .int .i64 b1, .string b2]] w fun e w' => e = .returned (.tuple #[.agg #[.int .i64 0, .int .i64 0], .int .i64 1]) ∧ Below w.heap.size w w' := by
 have HS0 := Aside0.mk (OfS.start (a0 := a0) (a1 := a1) (a2 := a2) (b0 := b0) (b1 := b1) (b2 := b2) hG)
 clear hG
 have hu := Tryd.underlying32
 have hu2 := Tryd.underlying26
 have hnn := eq_nil_nil
 have hfn := eq_func_nil
 have hev := eq_val
 go_enter Tryd.func20, Tryd.ntmps20
 go_wp2_with (first | (go_at_call 38; with_reducible refine (texts_calls _).mono ?_; rintro e w1 ⟨b, rfl, hb1, hlk⟩; have hl1 := hlk 5 (by decide); rw [show ofF 5 = .nilFunc from rfl] at hl1; clear hlk; have HS1 := Aside0.mk (HS0.out.below hb1); clear hb1; obtain ⟨ca0, ca1, ca2, cb0, cb1, cb2, cr0, cr1, fr0, fr1⟩ := HS1.out.cells) | (go_at_call 39; with_reducible refine (Q.value_Valid.calls k a0 a1 a2 _ _ hva).mono ?_; rintro e w2 ⟨rfl, hb2⟩; have HS2 := Aside0.mk (HS1.out.below hb2); clear hb2; clear ca0 ca1 ca2 cb0 cb1 cb2 cr0 cr1 fr0 fr1; obtain ⟨ca0, ca1, ca2, cb0, cb1, cb2, cr0, cr1, fr0, fr1⟩ := HS2.out.cells) | (go_at_call 39; with_reducible refine (Q.value_Valid.calls k b0 b1 b2 _ _ hvb).mono ?_; rintro e w3 ⟨rfl, hb3⟩; have HS3 := Aside0.mk (HS2.out.below hb3); clear hb3; clear ca0 ca1 ca2 cb0 cb1 cb2 cr0 cr1 fr0 fr1; obtain ⟨ca0, ca1, ca2, cb0, cb1, cb2, cr0, cr1, fr0, fr1⟩ := HS3.out.cells))
 refine bodyPost_ret (results_ct rfl _ _ (w.heap.size + 1 + 1) 32 #[.int .i64 0, .int .i64 0] (0, 0) _ rfl (by refine blk_put (cs := #[.int .i64 0, .int .i64 0]) ?_ 1 _ rfl; refine blk_put (cs := #[.int .i64 0, .int .i64 0]) ?_ 0 _ rfl; exact HS3.out.2.2.1) Tryd.underlying32 rfl (by kernel_rfl)) rfl ?_
 have HBX := HS3.out.2.2.2.1
 exact ⟨rfl, by repeat (first | exact HBX | refine below_set ?_ (by omega))⟩
set_option maxRecDepth 100000 in
set_option maxHeartbeats 4000000 in
theorem of_5_na (k : Nat) (tol a0 a1 : Int) (a2 : ByteArray) (b0 b1 : Int) (b2 : ByteArray) (w : World) (hG : Gl w) (hva : Q.value_Valid.f k a0 a1 a2 = some true) (hvb : Q.value_Valid.f k b0 b1 b2 = some true) (ht : decide (tol < 0) = false) (ht1 : decide (1000000000 ≤ tol) = false) (ha : (a0 == 0) = true) :
  Calls Tryd.prog 20 #[.int .i64 5, .int .i64 tol, .agg #[.int .i64 a0, .int .i64 a1, .string a2], .agg #[.int .i64 b0, .int .i64 b1, .string b2]] w fun e w' => e = .returned (.tuple #[.agg #[.int .i64 0, .int .i64 1], .int .i64 0]) ∧ Below w.heap.size w w' := by
 have HS0 := Aside0.mk (OfS.start (a0 := a0) (a1 := a1) (a2 := a2) (b0 := b0) (b1 := b1) (b2 := b2) hG)
 clear hG
 have hu := Tryd.underlying32
 have hu2 := Tryd.underlying26
 have hnn := eq_nil_nil
 have hfn := eq_func_nil
 have hev := eq_val
 go_enter Tryd.func20, Tryd.ntmps20
 go_wp2_with (first | (go_at_call 38; with_reducible refine (texts_calls _).mono ?_; rintro e w1 ⟨b, rfl, hb1, hlk⟩; have hl1 := hlk 5 (by decide); rw [show ofF 5 = .nilFunc from rfl] at hl1; clear hlk; have HS1 := Aside0.mk (HS0.out.below hb1); clear hb1; obtain ⟨ca0, ca1, ca2, cb0, cb1, cb2, cr0, cr1, fr0, fr1⟩ := HS1.out.cells) | (go_at_call 39; with_reducible refine (Q.value_Valid.calls k a0 a1 a2 _ _ hva).mono ?_; rintro e w2 ⟨rfl, hb2⟩; have HS2 := Aside0.mk (HS1.out.below hb2); clear hb2; clear ca0 ca1 ca2 cb0 cb1 cb2 cr0 cr1 fr0 fr1; obtain ⟨ca0, ca1, ca2, cb0, cb1, cb2, cr0, cr1, fr0, fr1⟩ := HS2.out.cells) | (go_at_call 39; with_reducible refine (Q.value_Valid.calls k b0 b1 b2 _ _ hvb).mono ?_; rintro e w3 ⟨rfl, hb3⟩; have HS3 := Aside0.mk (HS2.out.below hb3); clear hb3; clear ca0 ca1 ca2 cb0 cb1 cb2 cr0 cr1 fr0 fr1; obtain ⟨ca0, ca1, ca2, cb0, cb1, cb2, cr0, cr1, fr0, fr1⟩ := HS3.out.cells) | ((with_reducible refine gate_op (op := .load 32 (.global 1)) rfl ?_); refine gl1_event rfl rfl rfl ?hGl ?_; (case hGl => exact HS3.out.2.2.2.2)))
 refine bodyPost_ret (results_ct rfl _ _ (w.heap.size + 1 + 1) 32 #[.int .i64 0, .int .i64 1] (0, 0) _ rfl (by refine blk_put (cs := #[.int .i64 0, .int .i64 0]) ?_ 1 _ rfl; refine blk_put (cs := #[.int .i64 0, .int .i64 0]) ?_ 0 _ rfl; exact HS3.out.2.2.1) Tryd.underlying32 rfl (by kernel_rfl)) rfl ?_
 have HBX := HS3.out.2.2.2.1
 exact ⟨rfl, by repeat (first | exact HBX | refine below_set ?_ (by omega))⟩
set_option maxRecDepth 100000 in
set_option maxHeartbeats 4000000 in
theorem of_5_nb (k : Nat) (tol a0 a1 : Int) (a2 : ByteArray) (b0 b1 : Int) (b2 : ByteArray) (w : World) (hG : Gl w) (hva : Q.value_Valid.f k a0 a1 a2 = some true) (hvb : Q.value_Valid.f k b0 b1 b2 = some true) (ht : decide (tol < 0) = false) (ht1 : decide (1000000000 ≤ tol) = false) (ha : (a0 == 0) = false) (hb : (b0 == 0) = true) :
  Calls Tryd.prog 20 #[.int .i64 5, .int .i64 tol, .agg #[.int .i64 a0, .int .i64 a1, .string a2], .agg #[.int .i64 b0, .int .i64 b1, .string b2]] w fun e w' => e = .returned (.tuple #[.agg #[.int .i64 0, .int .i64 1], .int .i64 0]) ∧ Below w.heap.size w w' := by
 have HS0 := Aside0.mk (OfS.start (a0 := a0) (a1 := a1) (a2 := a2) (b0 := b0) (b1 := b1) (b2 := b2) hG)
 clear hG
 have hu := Tryd.underlying32
 have hu2 := Tryd.underlying26
 have hnn := eq_nil_nil
 have hfn := eq_func_nil
 have hev := eq_val
 go_enter Tryd.func20, Tryd.ntmps20
 go_wp2_with (first | (go_at_call 38; with_reducible refine (texts_calls _).mono ?_; rintro e w1 ⟨b, rfl, hb1, hlk⟩; have hl1 := hlk 5 (by decide); rw [show ofF 5 = .nilFunc from rfl] at hl1; clear hlk; have HS1 := Aside0.mk (HS0.out.below hb1); clear hb1; obtain ⟨ca0, ca1, ca2, cb0, cb1, cb2, cr0, cr1, fr0, fr1⟩ := HS1.out.cells) | (go_at_call 39; with_reducible refine (Q.value_Valid.calls k a0 a1 a2 _ _ hva).mono ?_; rintro e w2 ⟨rfl, hb2⟩; have HS2 := Aside0.mk (HS1.out.below hb2); clear hb2; clear ca0 ca1 ca2 cb0 cb1 cb2 cr0 cr1 fr0 fr1; obtain ⟨ca0, ca1, ca2, cb0, cb1, cb2, cr0, cr1, fr0, fr1⟩ := HS2.out.cells) | (go_at_call 39; with_reducible refine (Q.value_Valid.calls k b0 b1 b2 _ _ hvb).mono ?_; rintro e w3 ⟨rfl, hb3⟩; have HS3 := Aside0.mk (HS2.out.below hb3); clear hb3; clear ca0 ca1 ca2 cb0 cb1 cb2 cr0 cr1 fr0 fr1; obtain ⟨ca0, ca1, ca2, cb0, cb1, cb2, cr0, cr1, fr0, fr1⟩ := HS3.out.cells) | ((with_reducible refine gate_op (op := .load 32 (.global 1)) rfl ?_); refine gl1_event rfl rfl rfl ?hGl ?_; (case hGl => exact HS3.out.2.2.2.2)))
 refine bodyPost_ret (results_ct rfl _ _ (w.heap.size + 1 + 1) 32 #[.int .i64 0, .int .i64 1] (0, 0) _ rfl (by refine blk_put (cs := #[.int .i64 0, .int .i64 0]) ?_ 1 _ rfl; refine blk_put (cs := #[.int .i64 0, .int .i64 0]) ?_ 0 _ rfl; exact HS3.out.2.2.1) Tryd.underlying32 rfl (by kernel_rfl)) rfl ?_
 have HBX := HS3.out.2.2.2.1
 exact ⟨rfl, by repeat (first | exact HBX | refine below_set ?_ (by omega))⟩
set_option maxRecDepth 100000 in
set_option maxHeartbeats 4000000 in
theorem of_5_kd (k : Nat) (tol a0 a1 : Int) (a2 : ByteArray) (b0 b1 : Int) (b2 : ByteArray) (w : World) (hG : Gl w) (hva : Q.value_Valid.f k a0 a1 a2 = some true) (hvb : Q.value_Valid.f k b0 b1 b2 = some true) (ht : decide (tol < 0) = false) (ht1 : decide (1000000000 ≤ tol) = false) (ha : (a0 == 0) = false) (hb : (b0 == 0) = false) (e0 : (a0 != b0) = true) :
  Calls Tryd.prog 20 #[.int .i64 5, .int .i64 tol, .agg #[.int .i64 a0, .int .i64 a1, .string a2], .agg #[.int .i64 b0, .int .i64 b1, .string b2]] w fun e w' => e = .returned (.tuple #[.agg #[.int .i64 0, .int .i64 0], .int .i64 10]) ∧ Below w.heap.size w w' := by
 have HS0 := Aside0.mk (OfS.start (a0 := a0) (a1 := a1) (a2 := a2) (b0 := b0) (b1 := b1) (b2 := b2) hG)
 clear hG
 have hu := Tryd.underlying32
 have hu2 := Tryd.underlying26
 have hnn := eq_nil_nil
 have hfn := eq_func_nil
 have hev := eq_val
 go_enter Tryd.func20, Tryd.ntmps20
 go_wp2_with (first | (go_at_call 38; with_reducible refine (texts_calls _).mono ?_; rintro e w1 ⟨b, rfl, hb1, hlk⟩; have hl1 := hlk 5 (by decide); rw [show ofF 5 = .nilFunc from rfl] at hl1; clear hlk; have HS1 := Aside0.mk (HS0.out.below hb1); clear hb1; obtain ⟨ca0, ca1, ca2, cb0, cb1, cb2, cr0, cr1, fr0, fr1⟩ := HS1.out.cells) | (go_at_call 39; with_reducible refine (Q.value_Valid.calls k a0 a1 a2 _ _ hva).mono ?_; rintro e w2 ⟨rfl, hb2⟩; have HS2 := Aside0.mk (HS1.out.below hb2); clear hb2; clear ca0 ca1 ca2 cb0 cb1 cb2 cr0 cr1 fr0 fr1; obtain ⟨ca0, ca1, ca2, cb0, cb1, cb2, cr0, cr1, fr0, fr1⟩ := HS2.out.cells) | (go_at_call 39; with_reducible refine (Q.value_Valid.calls k b0 b1 b2 _ _ hvb).mono ?_; rintro e w3 ⟨rfl, hb3⟩; have HS3 := Aside0.mk (HS2.out.below hb3); clear hb3; clear ca0 ca1 ca2 cb0 cb1 cb2 cr0 cr1 fr0 fr1; obtain ⟨ca0, ca1, ca2, cb0, cb1, cb2, cr0, cr1, fr0, fr1⟩ := HS3.out.cells))
 refine bodyPost_ret (results_ct rfl _ _ (w.heap.size + 1 + 1) 32 #[.int .i64 0, .int .i64 0] (0, 0) _ rfl (by refine blk_put (cs := #[.int .i64 0, .int .i64 0]) ?_ 1 _ rfl; refine blk_put (cs := #[.int .i64 0, .int .i64 0]) ?_ 0 _ rfl; exact HS3.out.2.2.1) Tryd.underlying32 rfl (by kernel_rfl)) rfl ?_
 have HBX := HS3.out.2.2.2.1
 exact ⟨rfl, by repeat (first | exact HBX | refine below_set ?_ (by omega))⟩
set_option maxRecDepth 100000 in
set_option maxHeartbeats 4000000 in
theorem of_5_ty (k : Nat) (tol a0 a1 : Int) (a2 : ByteArray) (b0 b1 : Int) (b2 : ByteArray) (w : World) (hG : Gl w) (hva : Q.value_Valid.f k a0 a1 a2 = some true) (hvb : Q.value_Valid.f k b0 b1 b2 = some true) (ht : decide (tol < 0) = false) (ht1 : decide (1000000000 ≤ tol) = false) (ha : (a0 == 0) = false) (hb : (b0 == 0) = false) (e0 : (a0 != b0) = false) (e2 : (a0 != 2) = true) (e3 : (a0 != 3) = true) :
  Calls Tryd.prog 20 #[.int .i64 5, .int .i64 tol, .agg #[.int .i64 a0, .int .i64 a1, .string a2], .agg #[.int .i64 b0, .int .i64 b1, .string b2]] w fun e w' => e = .returned (.tuple #[.agg #[.int .i64 0, .int .i64 0], .int .i64 10]) ∧ Below w.heap.size w w' := by
 have HS0 := Aside0.mk (OfS.start (a0 := a0) (a1 := a1) (a2 := a2) (b0 := b0) (b1 := b1) (b2 := b2) hG)
 clear hG
 have hu := Tryd.underlying32
 have hu2 := Tryd.underlying26
 have hnn := eq_nil_nil
 have hfn := eq_func_nil
 have hev := eq_val
 go_enter Tryd.func20, Tryd.ntmps20
 go_wp2_with (first | (go_at_call 38; with_reducible refine (texts_calls _).mono ?_; rintro e w1 ⟨b, rfl, hb1, hlk⟩; have hl1 := hlk 5 (by decide); rw [show ofF 5 = .nilFunc from rfl] at hl1; clear hlk; have HS1 := Aside0.mk (HS0.out.below hb1); clear hb1; obtain ⟨ca0, ca1, ca2, cb0, cb1, cb2, cr0, cr1, fr0, fr1⟩ := HS1.out.cells) | (go_at_call 39; with_reducible refine (Q.value_Valid.calls k a0 a1 a2 _ _ hva).mono ?_; rintro e w2 ⟨rfl, hb2⟩; have HS2 := Aside0.mk (HS1.out.below hb2); clear hb2; clear ca0 ca1 ca2 cb0 cb1 cb2 cr0 cr1 fr0 fr1; obtain ⟨ca0, ca1, ca2, cb0, cb1, cb2, cr0, cr1, fr0, fr1⟩ := HS2.out.cells) | (go_at_call 39; with_reducible refine (Q.value_Valid.calls k b0 b1 b2 _ _ hvb).mono ?_; rintro e w3 ⟨rfl, hb3⟩; have HS3 := Aside0.mk (HS2.out.below hb3); clear hb3; clear ca0 ca1 ca2 cb0 cb1 cb2 cr0 cr1 fr0 fr1; obtain ⟨ca0, ca1, ca2, cb0, cb1, cb2, cr0, cr1, fr0, fr1⟩ := HS3.out.cells))
 refine bodyPost_ret (results_ct rfl _ _ (w.heap.size + 1 + 1) 32 #[.int .i64 0, .int .i64 0] (0, 0) _ rfl (by refine blk_put (cs := #[.int .i64 0, .int .i64 0]) ?_ 1 _ rfl; refine blk_put (cs := #[.int .i64 0, .int .i64 0]) ?_ 0 _ rfl; exact HS3.out.2.2.1) Tryd.underlying32 rfl (by kernel_rfl)) rfl ?_
 have HBX := HS3.out.2.2.2.1
 exact ⟨rfl, by repeat (first | exact HBX | refine below_set ?_ (by omega))⟩
set_option maxRecDepth 100000 in
set_option maxHeartbeats 4000000 in
theorem of_5_c2 (k : Nat) (tol a0 a1 : Int) (a2 : ByteArray) (b0 b1 : Int) (b2 : ByteArray) (w : World) (hG : Gl w) (hva : Q.value_Valid.f k a0 a1 a2 = some true) (hvb : Q.value_Valid.f k b0 b1 b2 = some true) (ht : decide (tol < 0) = false) (ht1 : decide (1000000000 ≤ tol) = false) (ha : (a0 == 0) = false) (hb : (b0 == 0) = false) (e0 : (a0 != b0) = false) (e2 : (a0 != 2) = false) (r1 r2 : Int) (hN : Q.measure_Near.f k a1 b1 tol = some (r1, r2)) :
  Calls Tryd.prog 20 #[.int .i64 5, .int .i64 tol, .agg #[.int .i64 a0, .int .i64 a1, .string a2], .agg #[.int .i64 b0, .int .i64 b1, .string b2]] w fun e w' => e = .returned (.tuple #[.agg #[.int .i64 r1, .int .i64 r2], .int .i64 0]) ∧ Below w.heap.size w w' := by
 have HS0 := Aside0.mk (OfS.start (a0 := a0) (a1 := a1) (a2 := a2) (b0 := b0) (b1 := b1) (b2 := b2) hG)
 clear hG
 have hu := Tryd.underlying32
 have hu2 := Tryd.underlying26
 have hnn := eq_nil_nil
 have hfn := eq_func_nil
 have hev := eq_val
 go_enter Tryd.func20, Tryd.ntmps20
 go_wp2_with (first | (go_at_call 38; with_reducible refine (texts_calls _).mono ?_; rintro e w1 ⟨b, rfl, hb1, hlk⟩; have hl1 := hlk 5 (by decide); rw [show ofF 5 = .nilFunc from rfl] at hl1; clear hlk; have HS1 := Aside0.mk (HS0.out.below hb1); clear hb1; obtain ⟨ca0, ca1, ca2, cb0, cb1, cb2, cr0, cr1, fr0, fr1⟩ := HS1.out.cells) | (go_at_call 39; with_reducible refine (Q.value_Valid.calls k a0 a1 a2 _ _ hva).mono ?_; rintro e w2 ⟨rfl, hb2⟩; have HS2 := Aside0.mk (HS1.out.below hb2); clear hb2; clear ca0 ca1 ca2 cb0 cb1 cb2 cr0 cr1 fr0 fr1; obtain ⟨ca0, ca1, ca2, cb0, cb1, cb2, cr0, cr1, fr0, fr1⟩ := HS2.out.cells) | (go_at_call 39; with_reducible refine (Q.value_Valid.calls k b0 b1 b2 _ _ hvb).mono ?_; rintro e w3 ⟨rfl, hb3⟩; have HS3 := Aside0.mk (HS2.out.below hb3); clear hb3; clear ca0 ca1 ca2 cb0 cb1 cb2 cr0 cr1 fr0 fr1; obtain ⟨ca0, ca1, ca2, cb0, cb1, cb2, cr0, cr1, fr0, fr1⟩ := HS3.out.cells) | (go_at_call 24; with_reducible refine (Q.measure_Near.calls k a1 b1 tol r1 r2 _ HS3.out.gl hN).mono ?_; rintro e w4 ⟨rfl, hb4⟩; have HS4 := Aside0.mk (HS3.out.below hb4); clear hb4; clear ca0 ca1 ca2 cb0 cb1 cb2 cr0 cr1 fr0 fr1; obtain ⟨ca0, ca1, ca2, cb0, cb1, cb2, cr0, cr1, fr0, fr1⟩ := HS4.out.cells))
 refine bodyPost_ret (results_ct rfl _ _ (w.heap.size + 1 + 1) 32 #[.int .i64 r1, .int .i64 r2] (0, 0) _ rfl (by refine blk_put (cs := #[.int .i64 r1, .int .i64 0]) ?_ 1 _ rfl; refine blk_put (cs := #[.int .i64 0, .int .i64 0]) ?_ 0 _ rfl; exact HS4.out.2.2.1) Tryd.underlying32 rfl (by kernel_rfl)) rfl ?_
 have HBX := HS4.out.2.2.2.1
 exact ⟨rfl, by repeat (first | exact HBX | refine below_set ?_ (by omega))⟩
set_option maxRecDepth 100000 in
set_option maxHeartbeats 4000000 in
theorem of_5_c3 (k : Nat) (tol a0 a1 : Int) (a2 : ByteArray) (b0 b1 : Int) (b2 : ByteArray) (w : World) (hG : Gl w) (hva : Q.value_Valid.f k a0 a1 a2 = some true) (hvb : Q.value_Valid.f k b0 b1 b2 = some true) (ht : decide (tol < 0) = false) (ht1 : decide (1000000000 ≤ tol) = false) (ha : (a0 == 0) = false) (hb : (b0 == 0) = false) (e0 : (a0 != b0) = false) (e2 : (a0 != 2) = true) (e3 : (a0 != 3) = false) (r1 r2 : Int) (hN : Q.measure_Near.f k a1 b1 tol = some (r1, r2)) :
  Calls Tryd.prog 20 #[.int .i64 5, .int .i64 tol, .agg #[.int .i64 a0, .int .i64 a1, .string a2], .agg #[.int .i64 b0, .int .i64 b1, .string b2]] w fun e w' => e = .returned (.tuple #[.agg #[.int .i64 r1, .int .i64 r2], .int .i64 0]) ∧ Below w.heap.size w w' := by
 have HS0 := Aside0.mk (OfS.start (a0 := a0) (a1 := a1) (a2 := a2) (b0 := b0) (b1 := b1) (b2 := b2) hG)
 clear hG
 have hu := Tryd.underlying32
 have hu2 := Tryd.underlying26
 have hnn := eq_nil_nil
 have hfn := eq_func_nil
 have hev := eq_val
 go_enter Tryd.func20, Tryd.ntmps20
 go_wp2_with (first | (go_at_call 38; with_reducible refine (texts_calls _).mono ?_; rintro e w1 ⟨b, rfl, hb1, hlk⟩; have hl1 := hlk 5 (by decide); rw [show ofF 5 = .nilFunc from rfl] at hl1; clear hlk; have HS1 := Aside0.mk (HS0.out.below hb1); clear hb1; obtain ⟨ca0, ca1, ca2, cb0, cb1, cb2, cr0, cr1, fr0, fr1⟩ := HS1.out.cells) | (go_at_call 39; with_reducible refine (Q.value_Valid.calls k a0 a1 a2 _ _ hva).mono ?_; rintro e w2 ⟨rfl, hb2⟩; have HS2 := Aside0.mk (HS1.out.below hb2); clear hb2; clear ca0 ca1 ca2 cb0 cb1 cb2 cr0 cr1 fr0 fr1; obtain ⟨ca0, ca1, ca2, cb0, cb1, cb2, cr0, cr1, fr0, fr1⟩ := HS2.out.cells) | (go_at_call 39; with_reducible refine (Q.value_Valid.calls k b0 b1 b2 _ _ hvb).mono ?_; rintro e w3 ⟨rfl, hb3⟩; have HS3 := Aside0.mk (HS2.out.below hb3); clear hb3; clear ca0 ca1 ca2 cb0 cb1 cb2 cr0 cr1 fr0 fr1; obtain ⟨ca0, ca1, ca2, cb0, cb1, cb2, cr0, cr1, fr0, fr1⟩ := HS3.out.cells) | (go_at_call 24; with_reducible refine (Q.measure_Near.calls k a1 b1 tol r1 r2 _ HS3.out.gl hN).mono ?_; rintro e w4 ⟨rfl, hb4⟩; have HS4 := Aside0.mk (HS3.out.below hb4); clear hb4; clear ca0 ca1 ca2 cb0 cb1 cb2 cr0 cr1 fr0 fr1; obtain ⟨ca0, ca1, ca2, cb0, cb1, cb2, cr0, cr1, fr0, fr1⟩ := HS4.out.cells))
 refine bodyPost_ret (results_ct rfl _ _ (w.heap.size + 1 + 1) 32 #[.int .i64 r1, .int .i64 r2] (0, 0) _ rfl (by refine blk_put (cs := #[.int .i64 r1, .int .i64 0]) ?_ 1 _ rfl; refine blk_put (cs := #[.int .i64 0, .int .i64 0]) ?_ 0 _ rfl; exact HS4.out.2.2.1) Tryd.underlying32 rfl (by kernel_rfl)) rfl ?_
 have HBX := HS4.out.2.2.2.1
 exact ⟨rfl, by repeat (first | exact HBX | refine below_set ?_ (by omega))⟩
theorem fin3 {x y z r1 r2 r3 : Int} (h : some (x, y, z) = some (r1, r2, r3)) : x = r1 ∧ y = r2 ∧ z = r3 := by
 injection h with h
 exact ⟨congrArg (fun p => p.1) h, congrArg (fun p => p.2.1) h, congrArg (fun p => p.2.2) h⟩
theorem of_bt {p : Prop} [Decidable p] (h : p) : decide p = true := decide_eq_true h
theorem of_bf {p : Prop} [Decidable p] (h : ¬ p) : decide p = false := decide_eq_false h
theorem of_eqt {x y : Int} (h : x = y) : (x == y) = true := beq_iff_eq.2 h
theorem of_eqf {x y : Int} (h : ¬ x = y) : (x == y) = false := beq_eq_false_iff_ne.2 h
theorem of_net {x y : Int} (h : ¬ x = y) : (x != y) = true := bne_iff_ne.2 h
theorem of_nef {x y : Int} (h : x = y) : (x != y) = false := bne_eq_false_iff_eq.2 h
theorem of_lqt {x y : List UInt8} (h : x = y) : (x == y) = true := beq_iff_eq.2 h
theorem of_lqf {x y : List UInt8} (h : ¬ x = y) : (x == y) = false := beq_eq_false_iff_ne.2 h
theorem measure_Of.calls (k : Nat) (m tol a0 a1 : Int) (a2 : ByteArray) (b0 b1 : Int) (b2 : ByteArray) (r1 r2 r3 : Int) (w : World) (hG : Gl w) (h : measure_Of.f k m tol a0 a1 a2 b0 b1 b2 = some (r1, r2, r3)) :
  Calls Tryd.prog 20 #[.int .i64 m, .int .i64 tol, .agg #[.int .i64 a0, .int .i64 a1, .string a2], .agg #[.int .i64 b0, .int .i64 b1, .string b2]] w fun e w' => e = .returned (.tuple #[.agg #[.int .i64 r1, .int .i64 r2], .int .i64 r3]) ∧ Below w.heap.size w w' := by
 unfold measure_Of.f at h
 by_cases hwf : (Lit.int .i64 m).wf = true
 ·rw [if_pos hwf] at h
  by_cases hm : m < 1 ∨ 5 < m
  ·rw [if_pos hm] at h
   obtain ⟨rfl, rfl, rfl⟩ := fin3 h
   exact of_other k m tol a0 a1 a2 b0 b1 b2 w hG hwf (by unfold ofF; rw [if_neg (by omega), if_neg (by omega), if_neg (by omega)]) (of_eqf (by omega)) (of_net (by omega))
  rw [if_neg hm] at h
  obtain rfl | rfl | rfl | rfl | rfl : m = 1 ∨ m = 2 ∨ m = 3 ∨ m = 4 ∨ m = 5 := by omega
  ·cases hva : Q.value_Valid.f k a0 a1 a2 with
   | none => rw [hva] at h; cases h
   | some va =>
    rw [hva] at h
    simp only [Option.bind_some] at h
    cases va with
    | false =>
     rw [if_neg (by decide)] at h
     obtain ⟨rfl, rfl, rfl⟩ := fin3 h
     exact of_1_va k tol a0 a1 a2 b0 b1 b2 w hG hva
    | true =>
     rw [if_pos rfl] at h
     cases hvb : Q.value_Valid.f k b0 b1 b2 with
     | none => rw [hvb] at h; cases h
     | some vb =>
      rw [hvb] at h
      simp only [Option.bind_some] at h
      cases vb with
      | false =>
       rw [if_neg (by decide)] at h
       obtain ⟨rfl, rfl, rfl⟩ := fin3 h
       exact of_1_vb k tol a0 a1 a2 b0 b1 b2 w hG hva hvb
      | true =>
       rw [if_pos rfl] at h
       unfold ofTail at h
       rw [if_neg (fun h => absurd h.1 (by decide))] at h
       by_cases na : a0 = 0
       ·rw [if_pos (.inl na)] at h
        obtain ⟨rfl, rfl, rfl⟩ := fin3 h
        exact of_1_na k tol a0 a1 a2 b0 b1 b2 w hG hva hvb (of_eqt na)
       by_cases nb : b0 = 0
       ·rw [if_pos (.inr nb)] at h
        obtain ⟨rfl, rfl, rfl⟩ := fin3 h
        exact of_1_nb k tol a0 a1 a2 b0 b1 b2 w hG hva hvb (of_eqf na) (of_eqt nb)
       rw [if_neg (fun h => h.elim na nb)] at h
       rw [if_pos rfl] at h
       by_cases e0 : a0 = b0
       ·by_cases e1 : a1 = b1
        ·by_cases e2 : a2.toList = b2.toList
         ·rw [if_pos ⟨e0, e1, e2⟩] at h
          obtain ⟨rfl, rfl, rfl⟩ := fin3 h
          exact of_1_eq k tol a0 a1 a2 b0 b1 b2 w hG hva hvb (of_eqf na) (of_eqf nb) (of_eqt e0) (of_eqt e1) (of_lqt e2)
         rw [if_neg (fun h => e2 h.2.2)] at h
         obtain ⟨rfl, rfl, rfl⟩ := fin3 h
         exact of_1_n2 k tol a0 a1 a2 b0 b1 b2 w hG hva hvb (of_eqf na) (of_eqf nb) (of_eqt e0) (of_eqt e1) (of_lqf e2)
        rw [if_neg (fun h => e1 h.2.1)] at h
        obtain ⟨rfl, rfl, rfl⟩ := fin3 h
        exact of_1_n1 k tol a0 a1 a2 b0 b1 b2 w hG hva hvb (of_eqf na) (of_eqf nb) (of_eqt e0) (of_eqf e1)
       rw [if_neg (fun h => e0 h.1)] at h
       obtain ⟨rfl, rfl, rfl⟩ := fin3 h
       exact of_1_n0 k tol a0 a1 a2 b0 b1 b2 w hG hva hvb (of_eqf na) (of_eqf nb) (of_eqf e0)
  ·cases hva : Q.value_Valid.f k a0 a1 a2 with
   | none => rw [hva] at h; cases h
   | some va =>
    rw [hva] at h
    simp only [Option.bind_some] at h
    cases va with
    | false =>
     rw [if_neg (by decide)] at h
     obtain ⟨rfl, rfl, rfl⟩ := fin3 h
     exact of_2_va k tol a0 a1 a2 b0 b1 b2 w hG hva
    | true =>
     rw [if_pos rfl] at h
     cases hvb : Q.value_Valid.f k b0 b1 b2 with
     | none => rw [hvb] at h; cases h
     | some vb =>
      rw [hvb] at h
      simp only [Option.bind_some] at h
      cases vb with
      | false =>
       rw [if_neg (by decide)] at h
       obtain ⟨rfl, rfl, rfl⟩ := fin3 h
       exact of_2_vb k tol a0 a1 a2 b0 b1 b2 w hG hva hvb
      | true =>
       rw [if_pos rfl] at h
       unfold ofTail at h
       rw [if_neg (fun h => absurd h.1 (by decide))] at h
       by_cases na : a0 = 0
       ·rw [if_pos (.inl na)] at h
        obtain ⟨rfl, rfl, rfl⟩ := fin3 h
        exact of_2_na k tol a0 a1 a2 b0 b1 b2 w hG hva hvb (of_eqt na)
       by_cases nb : b0 = 0
       ·rw [if_pos (.inr nb)] at h
        obtain ⟨rfl, rfl, rfl⟩ := fin3 h
        exact of_2_nb k tol a0 a1 a2 b0 b1 b2 w hG hva hvb (of_eqf na) (of_eqt nb)
       rw [if_neg (fun h => h.elim na nb)] at h
       rw [if_neg (by decide)] at h
       by_cases kd : a0 = b0
       ·skip
        by_cases e1 : a0 = 1
        ·rw [if_neg (fun h => h.elim (fun h => h kd) (fun h => h.elim (fun h => absurd h.1 (by decide)) (fun h => h.2 e1))), if_neg (by decide)] at h
         rw [if_pos rfl] at h
         obtain ⟨⟨q1, q2⟩, hN, h⟩ := Option.bind_eq_some_iff.1 h
         obtain ⟨rfl, rfl, rfl⟩ := fin3 h
         exact of_2_c k tol a0 a1 a2 b0 b1 b2 w hG hva hvb (of_eqf na) (of_eqf nb) (of_nef kd) (of_nef e1) q1 q2 hN
        rw [if_pos (.inr (.inr ⟨by decide, e1⟩))] at h
        obtain ⟨rfl, rfl, rfl⟩ := fin3 h
        exact of_2_ty k tol a0 a1 a2 b0 b1 b2 w hG hva hvb (of_eqf na) (of_eqf nb) (of_nef kd) (of_net e1)
       rw [if_pos (.inl kd)] at h
       obtain ⟨rfl, rfl, rfl⟩ := fin3 h
       exact of_2_kd k tol a0 a1 a2 b0 b1 b2 w hG hva hvb (of_eqf na) (of_eqf nb) (of_net kd)
  ·cases hva : Q.value_Valid.f k a0 a1 a2 with
   | none => rw [hva] at h; cases h
   | some va =>
    rw [hva] at h
    simp only [Option.bind_some] at h
    cases va with
    | false =>
     rw [if_neg (by decide)] at h
     obtain ⟨rfl, rfl, rfl⟩ := fin3 h
     exact of_3_va k tol a0 a1 a2 b0 b1 b2 w hG hva
    | true =>
     rw [if_pos rfl] at h
     cases hvb : Q.value_Valid.f k b0 b1 b2 with
     | none => rw [hvb] at h; cases h
     | some vb =>
      rw [hvb] at h
      simp only [Option.bind_some] at h
      cases vb with
      | false =>
       rw [if_neg (by decide)] at h
       obtain ⟨rfl, rfl, rfl⟩ := fin3 h
       exact of_3_vb k tol a0 a1 a2 b0 b1 b2 w hG hva hvb
      | true =>
       rw [if_pos rfl] at h
       unfold ofTail at h
       rw [if_neg (fun h => absurd h.1 (by decide))] at h
       by_cases na : a0 = 0
       ·rw [if_pos (.inl na)] at h
        obtain ⟨rfl, rfl, rfl⟩ := fin3 h
        exact of_3_na k tol a0 a1 a2 b0 b1 b2 w hG hva hvb (of_eqt na)
       by_cases nb : b0 = 0
       ·rw [if_pos (.inr nb)] at h
        obtain ⟨rfl, rfl, rfl⟩ := fin3 h
        exact of_3_nb k tol a0 a1 a2 b0 b1 b2 w hG hva hvb (of_eqf na) (of_eqt nb)
       rw [if_neg (fun h => h.elim na nb)] at h
       rw [if_neg (by decide)] at h
       by_cases kd : a0 = b0
       ·skip
        by_cases e1 : a0 = 1
        ·rw [if_neg (fun h => h.elim (fun h => h kd) (fun h => h.elim (fun h => absurd h.1 (by decide)) (fun h => h.2 e1))), if_neg (by decide)] at h
         rw [if_neg (by decide), if_pos rfl] at h
         obtain ⟨⟨q1, q2⟩, hN, h⟩ := Option.bind_eq_some_iff.1 h
         obtain ⟨rfl, rfl, rfl⟩ := fin3 h
         exact of_3_c k tol a0 a1 a2 b0 b1 b2 w hG hva hvb (of_eqf na) (of_eqf nb) (of_nef kd) (of_nef e1) q1 q2 hN
        rw [if_pos (.inr (.inr ⟨by decide, e1⟩))] at h
        obtain ⟨rfl, rfl, rfl⟩ := fin3 h
        exact of_3_ty k tol a0 a1 a2 b0 b1 b2 w hG hva hvb (of_eqf na) (of_eqf nb) (of_nef kd) (of_net e1)
       rw [if_pos (.inl kd)] at h
       obtain ⟨rfl, rfl, rfl⟩ := fin3 h
       exact of_3_kd k tol a0 a1 a2 b0 b1 b2 w hG hva hvb (of_eqf na) (of_eqf nb) (of_net kd)
  ·cases hva : Q.value_Valid.f k a0 a1 a2 with
   | none => rw [hva] at h; cases h
   | some va =>
    rw [hva] at h
    simp only [Option.bind_some] at h
    cases va with
    | false =>
     rw [if_neg (by decide)] at h
     obtain ⟨rfl, rfl, rfl⟩ := fin3 h
     exact of_4_va k tol a0 a1 a2 b0 b1 b2 w hG hva
    | true =>
     rw [if_pos rfl] at h
     cases hvb : Q.value_Valid.f k b0 b1 b2 with
     | none => rw [hvb] at h; cases h
     | some vb =>
      rw [hvb] at h
      simp only [Option.bind_some] at h
      cases vb with
      | false =>
       rw [if_neg (by decide)] at h
       obtain ⟨rfl, rfl, rfl⟩ := fin3 h
       exact of_4_vb k tol a0 a1 a2 b0 b1 b2 w hG hva hvb
      | true =>
       rw [if_pos rfl] at h
       unfold ofTail at h
       rw [if_neg (fun h => absurd h.1 (by decide))] at h
       by_cases na : a0 = 0
       ·rw [if_pos (.inl na)] at h
        obtain ⟨rfl, rfl, rfl⟩ := fin3 h
        exact of_4_na k tol a0 a1 a2 b0 b1 b2 w hG hva hvb (of_eqt na)
       by_cases nb : b0 = 0
       ·rw [if_pos (.inr nb)] at h
        obtain ⟨rfl, rfl, rfl⟩ := fin3 h
        exact of_4_nb k tol a0 a1 a2 b0 b1 b2 w hG hva hvb (of_eqf na) (of_eqt nb)
       rw [if_neg (fun h => h.elim na nb)] at h
       rw [if_neg (by decide)] at h
       by_cases kd : a0 = b0
       ·skip
        by_cases e1 : a0 = 1
        ·rw [if_neg (fun h => h.elim (fun h => h kd) (fun h => h.elim (fun h => absurd h.1 (by decide)) (fun h => h.2 e1))), if_neg (by decide)] at h
         rw [if_neg (by decide), if_neg (by decide)] at h
         obtain ⟨⟨q1, q2⟩, hN, h⟩ := Option.bind_eq_some_iff.1 h
         obtain ⟨rfl, rfl, rfl⟩ := fin3 h
         exact of_4_c k tol a0 a1 a2 b0 b1 b2 w hG hva hvb (of_eqf na) (of_eqf nb) (of_nef kd) (of_nef e1) q1 q2 hN
        rw [if_pos (.inr (.inr ⟨by decide, e1⟩))] at h
        obtain ⟨rfl, rfl, rfl⟩ := fin3 h
        exact of_4_ty k tol a0 a1 a2 b0 b1 b2 w hG hva hvb (of_eqf na) (of_eqf nb) (of_nef kd) (of_net e1)
       rw [if_pos (.inl kd)] at h
       obtain ⟨rfl, rfl, rfl⟩ := fin3 h
       exact of_4_kd k tol a0 a1 a2 b0 b1 b2 w hG hva hvb (of_eqf na) (of_eqf nb) (of_net kd)
  cases hva : Q.value_Valid.f k a0 a1 a2 with
  | none => rw [hva] at h; cases h
  | some va =>
   rw [hva] at h
   simp only [Option.bind_some] at h
   cases va with
   | false =>
    rw [if_neg (by decide)] at h
    obtain ⟨rfl, rfl, rfl⟩ := fin3 h
    exact of_5_va k tol a0 a1 a2 b0 b1 b2 w hG hva
   | true =>
    rw [if_pos rfl] at h
    cases hvb : Q.value_Valid.f k b0 b1 b2 with
    | none => rw [hvb] at h; cases h
    | some vb =>
     rw [hvb] at h
     simp only [Option.bind_some] at h
     cases vb with
     | false =>
      rw [if_neg (by decide)] at h
      obtain ⟨rfl, rfl, rfl⟩ := fin3 h
      exact of_5_vb k tol a0 a1 a2 b0 b1 b2 w hG hva hvb
     | true =>
      rw [if_pos rfl] at h
      unfold ofTail at h
      by_cases t0 : tol < 0
      ·rw [if_pos ⟨rfl, .inl t0⟩] at h
       obtain ⟨rfl, rfl, rfl⟩ := fin3 h
       exact of_5_t0 k tol a0 a1 a2 b0 b1 b2 w hG hva hvb (of_bt t0)
      by_cases t1 : 1000000000 ≤ tol
      ·rw [if_pos ⟨rfl, .inr t1⟩] at h
       obtain ⟨rfl, rfl, rfl⟩ := fin3 h
       exact of_5_t1 k tol a0 a1 a2 b0 b1 b2 w hG hva hvb (of_bf t0) (of_bt t1)
      rw [if_neg (fun h => h.2.elim t0 t1)] at h
      by_cases na : a0 = 0
      ·rw [if_pos (.inl na)] at h
       obtain ⟨rfl, rfl, rfl⟩ := fin3 h
       exact of_5_na k tol a0 a1 a2 b0 b1 b2 w hG hva hvb (of_bf t0) (of_bf t1) (of_eqt na)
      by_cases nb : b0 = 0
      ·rw [if_pos (.inr nb)] at h
       obtain ⟨rfl, rfl, rfl⟩ := fin3 h
       exact of_5_nb k tol a0 a1 a2 b0 b1 b2 w hG hva hvb (of_bf t0) (of_bf t1) (of_eqf na) (of_eqt nb)
      rw [if_neg (fun h => h.elim na nb)] at h
      rw [if_neg (by decide)] at h
      by_cases kd : a0 = b0
      ·skip
       by_cases e2 : a0 = 2
       ·rw [if_neg (fun h => h.elim (fun h => h kd) (fun h => h.elim (fun h => h.2.1 e2) (fun h => h.1 rfl))), if_pos rfl] at h
        obtain ⟨⟨q1, q2⟩, hN, h⟩ := Option.bind_eq_some_iff.1 h
        obtain ⟨rfl, rfl, rfl⟩ := fin3 h
        exact of_5_c2 k tol a0 a1 a2 b0 b1 b2 w hG hva hvb (of_bf t0) (of_bf t1) (of_eqf na) (of_eqf nb) (of_nef kd) (of_nef e2) q1 q2 hN
       by_cases e3 : a0 = 3
       ·rw [if_neg (fun h => h.elim (fun h => h kd) (fun h => h.elim (fun h => h.2.2 e3) (fun h => h.1 rfl))), if_pos rfl] at h
        obtain ⟨⟨q1, q2⟩, hN, h⟩ := Option.bind_eq_some_iff.1 h
        obtain ⟨rfl, rfl, rfl⟩ := fin3 h
        exact of_5_c3 k tol a0 a1 a2 b0 b1 b2 w hG hva hvb (of_bf t0) (of_bf t1) (of_eqf na) (of_eqf nb) (of_nef kd) (of_net e2) (of_nef e3) q1 q2 hN
       rw [if_pos (.inr (.inl ⟨rfl, e2, e3⟩))] at h
       obtain ⟨rfl, rfl, rfl⟩ := fin3 h
       exact of_5_ty k tol a0 a1 a2 b0 b1 b2 w hG hva hvb (of_bf t0) (of_bf t1) (of_eqf na) (of_eqf nb) (of_nef kd) (of_net e2) (of_net e3)
      rw [if_pos (.inl kd)] at h
      obtain ⟨rfl, rfl, rfl⟩ := fin3 h
      exact of_5_kd k tol a0 a1 a2 b0 b1 b2 w hG hva hvb (of_bf t0) (of_bf t1) (of_eqf na) (of_eqf nb) (of_net kd)
 rw [if_neg hwf] at h
 cases h
end Go.Proofs.YtgomlpndoolllaaDoor
end

section
namespace Go.Proofs.YtgomlpndoolllaaDoor.HD
open Go.RowKit Go.Proofs.YtgomlpndoolllaaDoor.Q Go.Proofs.YtgomlpndoolllaaDoorW.PrintWords Go.Proofs.YtgomlpndoolllaaDoorW.PrintLast Go.Proofs.YtgomlpndoolllaaDoorW.PrintMore
attribute [local go_sem] max2_int min2_int max_two min_two max_three min_three max_four min_four   -- for this text's walks alone
set_option linter.unusedVariables false
set_option linter.unusedSimpArgs false

attribute [local go_sem high] eqA32
/-! ### cleanselaw04_head: function 11 -/
mutual
def cleanselaw04_head.j0 : Nat → Bool → Option (Bool)
 | 0, _ => none
 | k + 1, x1 => (measure_Jaccard.f k (([(⟨#[97]⟩ : ByteArray), (⟨#[98]⟩ : ByteArray)] : List ByteArray)) (([(⟨#[98]⟩ : ByteArray), (⟨#[99]⟩ : ByteArray), (⟨#[100]⟩ : ByteArray)] : List ByteArray))).bind fun bt117 => ((cleanselaw04_of.f 1 4).bind fun bt119 => (if (bt117.1 == bt119.1 && (bt117.2 == bt119.2)) = true then ((measure_Jaro.f k (⟨#[109, 97, 114, 116, 104, 97]⟩ : ByteArray) (⟨#[109, 97, 114, 104, 116, 97]⟩ : ByteArray)).bind fun bt121 => ((cleanselaw04_of.f 17 18).bind fun bt123 => (if (bt121.1 == bt123.1 && (bt121.2 == bt123.2)) = true then ((measure_Jaro.f k (⟨#[100, 105, 120, 111, 110]⟩ : ByteArray) (⟨#[100, 105, 99, 107, 115, 111, 110, 120]⟩ : ByteArray)).bind fun bt125 => ((cleanselaw04_of.f 23 30).bind fun bt127 => (cleanselaw04_head.j1 k x1 (bt125.1 == bt127.1 && (bt125.2 == bt127.2))))) else (cleanselaw04_head.j1 k x1 false)))) else (cleanselaw04_head.j1 k x1 false)))
def cleanselaw04_head.j1 : Nat → Bool → Bool → Option (Bool)
 | 0, _, _ => none
 | k + 1, x1, x2 => (cleanselaw04_text.f (⟨#[65, 110, 110, 32, 76, 101, 101]⟩ : ByteArray)).bind fun bt129 => ((cleanselaw04_text.f (⟨#[76, 69, 69, 44, 32, 65, 110, 110]⟩ : ByteArray)).bind fun bt132 => ((measure_Of.f k 3 0 bt129.1 bt129.2.1 bt129.2.2 bt132.1 bt132.2.1 bt132.2.2).bind fun bt135 => ((cleanselaw04_text.f (⟨#[120]⟩ : ByteArray)).bind fun bt139 => ((measure_Of.f k 2 0 bt139.1 bt139.2.1 bt139.2.2 2 0 (⟨#[]⟩ : ByteArray)).bind fun bt142 => (if x1 = true then (if x2 = true then ((measure_Near.f k 10 12 3).bind fun bt146 => ((cleanselaw04_of.f 1 2).bind fun bt148 => (if (bt146.1 == bt148.1 && (bt146.2 == bt148.2)) = true then ((measure_Near.f k 10 14 3).bind fun bt150 => ((cleanselaw04_of.f 0 1).bind fun bt152 => (if (bt150.1 == bt152.1 && (bt150.2 == bt152.2)) = true then ((cleanselaw04_of.f 1 1).bind fun bt154 => (if (bt135.1 == bt154.1 && (bt135.2.1 == bt154.2)) = true then (if bt135.2.2 = 0 then (some (bt142.2.2 == 10)) else (some false)) else (some false))) else (some false)))) else (some false)))) else (some false)) else (some false))))))
end
def cleanselaw04_head.f (k : Nat)  : Option (Bool) := (measure_Edit.f k (⟨#[107, 105, 116, 116, 101, 110]⟩ : ByteArray) (⟨#[115, 105, 116, 116, 105, 110, 103]⟩ : ByteArray)).bind fun t101 => (if t101 = 3 then ((measure_Alike.f k (⟨#[107, 105, 116, 116, 101, 110]⟩ : ByteArray) (⟨#[115, 105, 116, 116, 105, 110, 103]⟩ : ByteArray)).bind fun bt102 => ((cleanselaw04_of.f 4 7).bind fun bt104 => (if (bt102.1 == bt104.1 && (bt102.2 == bt104.2)) = true then ((measure_Edit.f k (⟨#[]⟩ : ByteArray) (⟨#[97, 98, 99]⟩ : ByteArray)).bind fun t106 => (if t106 = 3 then ((measure_Alike.f k (⟨#[]⟩ : ByteArray) (⟨#[]⟩ : ByteArray)).bind fun bt107 => ((cleanselaw04_of.f 1 1).bind fun bt109 => (cleanselaw04_head.j0 k (bt107.1 == bt109.1 && (bt107.2 == bt109.2))))) else (cleanselaw04_head.j0 k false))) else (cleanselaw04_head.j0 k false)))) else (cleanselaw04_head.j0 k false))
def cleanselaw04_head.T5 : Bool × List (List Nat × List Nat) := (true, [([], []), ([0], [0]), ([1], [1]), ([1, 2], [1, 2]), ([3, 1], [3]), ([4, 4], [4]), ([5, 4], [4]), ([5, 6, 4], [4, 5, 6]), ([4, 7], [4, 7]), ([8, 6], [8]), ([9, 9], [9]), ([10, 9], [9]), ([10, 11, 9], [9, 10, 11]), ([9, 12], [9, 12]), ([13, 11], [13]), ([14], [14]), ([14, 14], [14]), ([15, 16, 14], [14, 15, 16]), ([14, 17], [14, 17]), ([18, 16], [18]), ([19], [19]), ([20, 19], [19, 20]), ([19, 21], [19, 21]), ([22, 19], [22]), ([23], [23]), ([24, 23], [23, 24]), ([23, 25], [23, 25]), ([26, 23, 0, 1, 2, 3, 4, 5, 6, 7, 8, 9, 10, 11, 12, 13, 14, 15, 16, 17, 18, 19, 20, 21, 22, 23, 24, 25, 26], [26])])
def cleanselaw04_head.B5 : List Nat := [0, 1, 3, 7, 15, 31, 63, 127, 255, 511, 1023, 2047, 4095, 8191, 16383, 32767, 32767, 131071, 262143, 524287, 1048575, 2097151, 4194303, 8388607, 16777215, 33554431, 67108863, 134217727]
theorem cleanselaw04_head.tab5 : rtab .any (opsOf Tryd.f11 5) = cleanselaw04_head.T5 := by kernel_rfl
theorem cleanselaw04_head.bits5 : waitsOk cleanselaw04_head.T5.2 cleanselaw04_head.B5 = true := by kernel_rfl
set_option maxHeartbeats 8000000 in
set_option maxRecDepth 100000 in
theorem cleanselaw04_head.calls (k : Nat)  (r : Bool) (w : World) (hG : Gl w) (hT : r = true) (h : cleanselaw04_head.f k  = some r) :
  Calls Tryd.prog 11 #[] w fun e w' => e = .returned (.bool r) ∧ Below w.heap.size w w' := by
 have HGl := Aside0.mk hG
 clear hG
 have HT := Aside0.mk hT
 clear hT
 have hu32 := Tryd.underlying32
 have hu26 := Tryd.underlying26
 have HB := Aside0.mk (Below.refl w.heap.size w)
 have H : ((measure_Edit.f k (⟨#[107, 105, 116, 116, 101, 110]⟩ : ByteArray) (⟨#[115, 105, 116, 116, 105, 110, 103]⟩ : ByteArray)).bind fun t101 => (if t101 = 3 then ((measure_Alike.f k (⟨#[107, 105, 116, 116, 101, 110]⟩ : ByteArray) (⟨#[115, 105, 116, 116, 105, 110, 103]⟩ : ByteArray)).bind fun bt102 => ((cleanselaw04_of.f 4 7).bind fun bt104 => (if (bt102.1 == bt104.1 && (bt102.2 == bt104.2)) = true then ((measure_Edit.f k (⟨#[]⟩ : ByteArray) (⟨#[97, 98, 99]⟩ : ByteArray)).bind fun t106 => (if t106 = 3 then ((measure_Alike.f k (⟨#[]⟩ : ByteArray) (⟨#[]⟩ : ByteArray)).bind fun bt107 => ((cleanselaw04_of.f 1 1).bind fun bt109 => (cleanselaw04_head.j0 k (bt107.1 == bt109.1 && (bt107.2 == bt109.2))))) else (cleanselaw04_head.j0 k false))) else (cleanselaw04_head.j0 k false)))) else (cleanselaw04_head.j0 k false))) = some r := h
 clear h
 have HC1 := Aside0.mk H
 clear H
 go_enter Tryd.func11, Tryd.ntmps11
 go_upto_region 1 with (fail)
 go_cut [1] (fun v1 wc => ∃ (kq : Nat) (x1_0 : Bool), v1 = .bool x1_0 ∧ Aside0 (cleanselaw04_head.j0 kq x1_0 = some r) ∧ Aside0 (kq ≤ k) ∧ Aside0 (Below w.heap.size w wc))
 case first =>
  have H := HC1.out
  clear HC1
  replace H := Option.bind_eq_some_iff.mp H
  obtain ⟨t101, A20, H⟩ := H
  replace H : (if t101 = 3 then ((measure_Alike.f k (⟨#[107, 105, 116, 116, 101, 110]⟩ : ByteArray) (⟨#[115, 105, 116, 116, 105, 110, 103]⟩ : ByteArray)).bind fun bt102 => ((cleanselaw04_of.f 4 7).bind fun bt104 => (if (bt102.1 == bt104.1 && (bt102.2 == bt104.2)) = true then ((measure_Edit.f k (⟨#[]⟩ : ByteArray) (⟨#[97, 98, 99]⟩ : ByteArray)).bind fun t106 => (if t106 = 3 then ((measure_Alike.f k (⟨#[]⟩ : ByteArray) (⟨#[]⟩ : ByteArray)).bind fun bt107 => ((cleanselaw04_of.f 1 1).bind fun bt109 => (cleanselaw04_head.j0 k (bt107.1 == bt109.1 && (bt107.2 == bt109.2))))) else (cleanselaw04_head.j0 k false))) else (cleanselaw04_head.j0 k false)))) else (cleanselaw04_head.j0 k false)) = some r := H
  have A2 := Aside0.mk A20
  clear A20
  by_cases c3 : t101 = 3
  ·rw [if_pos c3] at H
   have c3b0 : (t101 == 3) = true := beq_iff_eq.mpr c3
   have c3b1 : (t101 != 3) = false := bne_eq_false_iff_eq.mpr c3
   clear c3
   replace H := Option.bind_eq_some_iff.mp H
   obtain ⟨⟨t102, t103⟩, A40, H⟩ := H
   replace H : ((cleanselaw04_of.f 4 7).bind fun bt104 => (if (t102 == bt104.1 && (t103 == bt104.2)) = true then ((measure_Edit.f k (⟨#[]⟩ : ByteArray) (⟨#[97, 98, 99]⟩ : ByteArray)).bind fun t106 => (if t106 = 3 then ((measure_Alike.f k (⟨#[]⟩ : ByteArray) (⟨#[]⟩ : ByteArray)).bind fun bt107 => ((cleanselaw04_of.f 1 1).bind fun bt109 => (cleanselaw04_head.j0 k (bt107.1 == bt109.1 && (bt107.2 == bt109.2))))) else (cleanselaw04_head.j0 k false))) else (cleanselaw04_head.j0 k false))) = some r := H
   have A4 := Aside0.mk A40
   clear A40
   replace H := Option.bind_eq_some_iff.mp H
   obtain ⟨⟨t104, t105⟩, A50, H⟩ := H
   replace H : (if (t102 == t104 && (t103 == t105)) = true then ((measure_Edit.f k (⟨#[]⟩ : ByteArray) (⟨#[97, 98, 99]⟩ : ByteArray)).bind fun t106 => (if t106 = 3 then ((measure_Alike.f k (⟨#[]⟩ : ByteArray) (⟨#[]⟩ : ByteArray)).bind fun bt107 => ((cleanselaw04_of.f 1 1).bind fun bt109 => (cleanselaw04_head.j0 k (bt107.1 == bt109.1 && (bt107.2 == bt109.2))))) else (cleanselaw04_head.j0 k false))) else (cleanselaw04_head.j0 k false)) = some r := H
   have A5 := Aside0.mk A50
   clear A50
   by_cases c6 : (t102 == t104 && (t103 == t105)) = true
   ·rw [if_pos c6] at H
    have c6b0 : (t102 == t104 && (t103 == t105)) = true := c6
    (try (have c6b1 : decide (t102 = t104 && (t103 == t105)) = true := by simpa using c6))
    (try (have c6b2 : (t102 == t104 && (t103 == t105)) = true := by simpa using c6))
    clear c6
    replace H := Option.bind_eq_some_iff.mp H
    obtain ⟨t106, A70, H⟩ := H
    replace H : (if t106 = 3 then ((measure_Alike.f k (⟨#[]⟩ : ByteArray) (⟨#[]⟩ : ByteArray)).bind fun bt107 => ((cleanselaw04_of.f 1 1).bind fun bt109 => (cleanselaw04_head.j0 k (bt107.1 == bt109.1 && (bt107.2 == bt109.2))))) else (cleanselaw04_head.j0 k false)) = some r := H
    have A7 := Aside0.mk A70
    clear A70
    by_cases c8 : t106 = 3
    ·rw [if_pos c8] at H
     have c8b0 : (t106 == 3) = true := beq_iff_eq.mpr c8
     have c8b1 : (t106 != 3) = false := bne_eq_false_iff_eq.mpr c8
     clear c8
     replace H := Option.bind_eq_some_iff.mp H
     obtain ⟨⟨t107, t108⟩, A90, H⟩ := H
     replace H : ((cleanselaw04_of.f 1 1).bind fun bt109 => (cleanselaw04_head.j0 k (t107 == bt109.1 && (t108 == bt109.2)))) = some r := H
     have A9 := Aside0.mk A90
     clear A90
     replace H := Option.bind_eq_some_iff.mp H
     obtain ⟨⟨t109, t110⟩, A100, H⟩ := H
     replace H : (cleanselaw04_head.j0 k (t107 == t109 && (t108 == t110))) = some r := H
     have A10 := Aside0.mk A100
     clear A100
     have H' := Aside0.mk H
     clear H
     go_wp2_with (first | ((with_reducible refine gate_callee (f := 14) rfl ?_); refine goesL_ (some 7) rfl rfl Tryd.func14 (by kernel_rfl) rfl #[.string (⟨#[107, 105, 116, 116, 101, 110]⟩ : ByteArray), .string (⟨#[115, 105, 116, 116, 105, 110, 103]⟩ : ByteArray)] rfl (by (try simp only [List.map_toArray, List.map_cons, List.map_nil]); rfl) ?_; (with_reducible refine (measure_Edit.calls k (⟨#[107, 105, 116, 116, 101, 110]⟩ : ByteArray) (⟨#[115, 105, 116, 116, 105, 110, 103]⟩ : ByteArray) t101 _ A2.out).mono ?_); rintro e w11 ⟨rfl, hb⟩; refine ⟨_, rfl, ?_⟩; have n0_ := Aside0.mk (below_step HB.out hb); clear HB; have HB := n0_; clear n0_; (try clear hb)) | (go_at_call 16; (with_reducible refine (measure_Alike.calls k (⟨#[107, 105, 116, 116, 101, 110]⟩ : ByteArray) (⟨#[115, 105, 116, 116, 105, 110, 103]⟩ : ByteArray) t102 t103 _ ?sGl A4.out).mono ?_); (case sGl => exact Gl.below HGl.out HB.out); rintro e w12 ⟨rfl, hb⟩; have n0_ := Aside0.mk (below_step HB.out hb); clear HB; have HB := n0_; clear n0_; (try clear hb)) | (go_at_call 27; (with_reducible refine (cleanselaw04_of.calls 4 7 t104 t105 _ A5.out).mono ?_); rintro e w13 ⟨rfl, hb⟩; have n0_ := Aside0.mk (below_step HB.out hb); clear HB; have HB := n0_; clear n0_; (try clear hb)) | (go_at_call 14; (with_reducible refine (measure_Edit.calls k (⟨#[]⟩ : ByteArray) (⟨#[97, 98, 99]⟩ : ByteArray) t106 _ A7.out).mono ?_); rintro e w14 ⟨rfl, hb⟩; have n0_ := Aside0.mk (below_step HB.out hb); clear HB; have HB := n0_; clear n0_; (try clear hb)) | (go_at_call 16; (with_reducible refine (measure_Alike.calls k (⟨#[]⟩ : ByteArray) (⟨#[]⟩ : ByteArray) t107 t108 _ ?sGl A9.out).mono ?_); (case sGl => exact Gl.below HGl.out HB.out); rintro e w15 ⟨rfl, hb⟩; have n0_ := Aside0.mk (below_step HB.out hb); clear HB; have HB := n0_; clear n0_; (try clear hb)) | (go_at_call 27; (with_reducible refine (cleanselaw04_of.calls 1 1 t109 t110 _ A10.out).mono ?_); rintro e w16 ⟨rfl, hb⟩; have n0_ := Aside0.mk (below_step HB.out hb); clear HB; have HB := n0_; clear n0_; (try clear hb)))
     go_meet
     case rel => exact ⟨_, ((t107 == t109 && (t108 == t110))), (by rfl), H', ⟨by omega⟩, ⟨by repeat ((with_reducible (exact HB.out)))⟩⟩
    rw [if_neg c8] at H
    have c8b0 : (t106 == 3) = false := beq_eq_false_iff_ne.mpr c8
    have c8b1 : (t106 != 3) = true := bne_iff_ne.mpr c8
    have H' := Aside0.mk H
    clear H
    go_wp2_with (first | ((with_reducible refine gate_callee (f := 14) rfl ?_); refine goesL_ (some 7) rfl rfl Tryd.func14 (by kernel_rfl) rfl #[.string (⟨#[107, 105, 116, 116, 101, 110]⟩ : ByteArray), .string (⟨#[115, 105, 116, 116, 105, 110, 103]⟩ : ByteArray)] rfl (by (try simp only [List.map_toArray, List.map_cons, List.map_nil]); rfl) ?_; (with_reducible refine (measure_Edit.calls k (⟨#[107, 105, 116, 116, 101, 110]⟩ : ByteArray) (⟨#[115, 105, 116, 116, 105, 110, 103]⟩ : ByteArray) t101 _ A2.out).mono ?_); rintro e w17 ⟨rfl, hb⟩; refine ⟨_, rfl, ?_⟩; have n0_ := Aside0.mk (below_step HB.out hb); clear HB; have HB := n0_; clear n0_; (try clear hb)) | (go_at_call 16; (with_reducible refine (measure_Alike.calls k (⟨#[107, 105, 116, 116, 101, 110]⟩ : ByteArray) (⟨#[115, 105, 116, 116, 105, 110, 103]⟩ : ByteArray) t102 t103 _ ?sGl A4.out).mono ?_); (case sGl => exact Gl.below HGl.out HB.out); rintro e w18 ⟨rfl, hb⟩; have n0_ := Aside0.mk (below_step HB.out hb); clear HB; have HB := n0_; clear n0_; (try clear hb)) | (go_at_call 27; (with_reducible refine (cleanselaw04_of.calls 4 7 t104 t105 _ A5.out).mono ?_); rintro e w19 ⟨rfl, hb⟩; have n0_ := Aside0.mk (below_step HB.out hb); clear HB; have HB := n0_; clear n0_; (try clear hb)) | (go_at_call 14; (with_reducible refine (measure_Edit.calls k (⟨#[]⟩ : ByteArray) (⟨#[97, 98, 99]⟩ : ByteArray) t106 _ A7.out).mono ?_); rintro e w20 ⟨rfl, hb⟩; have n0_ := Aside0.mk (below_step HB.out hb); clear HB; have HB := n0_; clear n0_; (try clear hb)))
    go_meet
    case rel => exact ⟨_, (false), (by rfl), H', ⟨by omega⟩, ⟨by repeat ((with_reducible (exact HB.out)))⟩⟩
   rw [if_neg c6] at H
   have c6b0 : (t102 == t104 && (t103 == t105)) = false := by simpa using c6
   (try (have c6b1 : decide (t102 = t104 && (t103 == t105)) = false := by simpa using c6))
   (try (have c6b2 : (t102 == t104 && (t103 == t105)) = false := by simpa using c6))
   (try (have c6b3 : ¬ (t102 = t104 && (t103 == t105)) := by simpa using c6))
   clear c6
   have H' := Aside0.mk H
   clear H
   go_wp2_with (first | ((with_reducible refine gate_callee (f := 14) rfl ?_); refine goesL_ (some 7) rfl rfl Tryd.func14 (by kernel_rfl) rfl #[.string (⟨#[107, 105, 116, 116, 101, 110]⟩ : ByteArray), .string (⟨#[115, 105, 116, 116, 105, 110, 103]⟩ : ByteArray)] rfl (by (try simp only [List.map_toArray, List.map_cons, List.map_nil]); rfl) ?_; (with_reducible refine (measure_Edit.calls k (⟨#[107, 105, 116, 116, 101, 110]⟩ : ByteArray) (⟨#[115, 105, 116, 116, 105, 110, 103]⟩ : ByteArray) t101 _ A2.out).mono ?_); rintro e w21 ⟨rfl, hb⟩; refine ⟨_, rfl, ?_⟩; have n0_ := Aside0.mk (below_step HB.out hb); clear HB; have HB := n0_; clear n0_; (try clear hb)) | (go_at_call 16; (with_reducible refine (measure_Alike.calls k (⟨#[107, 105, 116, 116, 101, 110]⟩ : ByteArray) (⟨#[115, 105, 116, 116, 105, 110, 103]⟩ : ByteArray) t102 t103 _ ?sGl A4.out).mono ?_); (case sGl => exact Gl.below HGl.out HB.out); rintro e w22 ⟨rfl, hb⟩; have n0_ := Aside0.mk (below_step HB.out hb); clear HB; have HB := n0_; clear n0_; (try clear hb)) | (go_at_call 27; (with_reducible refine (cleanselaw04_of.calls 4 7 t104 t105 _ A5.out).mono ?_); rintro e w23 ⟨rfl, hb⟩; have n0_ := Aside0.mk (below_step HB.out hb); clear HB; have HB := n0_; clear n0_; (try clear hb)))
   go_meet
   case rel => exact ⟨_, (false), (by rfl), H', ⟨by omega⟩, ⟨by repeat ((with_reducible (exact HB.out)))⟩⟩
  rw [if_neg c3] at H
  have c3b0 : (t101 == 3) = false := beq_eq_false_iff_ne.mpr c3
  have c3b1 : (t101 != 3) = true := bne_iff_ne.mpr c3
  have H' := Aside0.mk H
  clear H
  go_wp2_with (first | ((with_reducible refine gate_callee (f := 14) rfl ?_); refine goesL_ (some 7) rfl rfl Tryd.func14 (by kernel_rfl) rfl #[.string (⟨#[107, 105, 116, 116, 101, 110]⟩ : ByteArray), .string (⟨#[115, 105, 116, 116, 105, 110, 103]⟩ : ByteArray)] rfl (by (try simp only [List.map_toArray, List.map_cons, List.map_nil]); rfl) ?_; (with_reducible refine (measure_Edit.calls k (⟨#[107, 105, 116, 116, 101, 110]⟩ : ByteArray) (⟨#[115, 105, 116, 116, 105, 110, 103]⟩ : ByteArray) t101 _ A2.out).mono ?_); rintro e w24 ⟨rfl, hb⟩; refine ⟨_, rfl, ?_⟩; have n0_ := Aside0.mk (below_step HB.out hb); clear HB; have HB := n0_; clear n0_; (try clear hb)))
  go_meet
  case rel => exact ⟨_, (false), (by rfl), H', ⟨by omega⟩, ⟨by repeat ((with_reducible (exact HB.out)))⟩⟩
 clear HC1
 obtain ⟨kq, x1_0, rfl, HA, HJ0, HB⟩ := hcut
 cases kq with
 | zero => exact absurd HA.out (by simp [cleanselaw04_head.j0])
 | succ kj0 =>
  have H := HA.out
  clear HA
  simp only [cleanselaw04_head.j0] at H
  have HC25 := Aside0.mk H
  clear H
  go_upto_region 2 with (fail)
  go_cut [2] (fun v2 wc => ∃ (kq : Nat) (x2_24 : Bool), v2 = .bool x2_24 ∧ Aside0 (cleanselaw04_head.j1 kq x1_0 x2_24 = some r) ∧ Aside0 (kq ≤ kj0) ∧ Aside0 (Below w.heap.size w wc))
  case first =>
   have H := HC25.out
   clear HC25
   obtain ⟨y111, hy111⟩ : ∃ y_ : List ByteArray, y_ = (([(⟨#[97]⟩ : ByteArray), (⟨#[98]⟩ : ByteArray)] : List ByteArray)) := ⟨_, rfl⟩
   replace H : ((measure_Jaccard.f kj0 y111 (([(⟨#[98]⟩ : ByteArray), (⟨#[99]⟩ : ByteArray), (⟨#[100]⟩ : ByteArray)] : List ByteArray))).bind fun bt117 => ((cleanselaw04_of.f 1 4).bind fun bt119 => (if (bt117.1 == bt119.1 && (bt117.2 == bt119.2)) = true then ((measure_Jaro.f kj0 (⟨#[109, 97, 114, 116, 104, 97]⟩ : ByteArray) (⟨#[109, 97, 114, 104, 116, 97]⟩ : ByteArray)).bind fun bt121 => ((cleanselaw04_of.f 17 18).bind fun bt123 => (if (bt121.1 == bt123.1 && (bt121.2 == bt123.2)) = true then ((measure_Jaro.f kj0 (⟨#[100, 105, 120, 111, 110]⟩ : ByteArray) (⟨#[100, 105, 99, 107, 115, 111, 110, 120]⟩ : ByteArray)).bind fun bt125 => ((cleanselaw04_of.f 23 30).bind fun bt127 => (cleanselaw04_head.j1 kj0 x1_0 (bt125.1 == bt127.1 && (bt125.2 == bt127.2))))) else (cleanselaw04_head.j1 kj0 x1_0 false)))) else (cleanselaw04_head.j1 kj0 x1_0 false)))) = some r := by (rw [hy111]; with_reducible exact H)
   have Ny111 := Aside0.mk hy111
   clear hy111
   obtain ⟨y114, hy114⟩ : ∃ y_ : List ByteArray, y_ = (([(⟨#[98]⟩ : ByteArray), (⟨#[99]⟩ : ByteArray), (⟨#[100]⟩ : ByteArray)] : List ByteArray)) := ⟨_, rfl⟩
   replace H : ((measure_Jaccard.f kj0 y111 y114).bind fun bt117 => ((cleanselaw04_of.f 1 4).bind fun bt119 => (if (bt117.1 == bt119.1 && (bt117.2 == bt119.2)) = true then ((measure_Jaro.f kj0 (⟨#[109, 97, 114, 116, 104, 97]⟩ : ByteArray) (⟨#[109, 97, 114, 104, 116, 97]⟩ : ByteArray)).bind fun bt121 => ((cleanselaw04_of.f 17 18).bind fun bt123 => (if (bt121.1 == bt123.1 && (bt121.2 == bt123.2)) = true then ((measure_Jaro.f kj0 (⟨#[100, 105, 120, 111, 110]⟩ : ByteArray) (⟨#[100, 105, 99, 107, 115, 111, 110, 120]⟩ : ByteArray)).bind fun bt125 => ((cleanselaw04_of.f 23 30).bind fun bt127 => (cleanselaw04_head.j1 kj0 x1_0 (bt125.1 == bt127.1 && (bt125.2 == bt127.2))))) else (cleanselaw04_head.j1 kj0 x1_0 false)))) else (cleanselaw04_head.j1 kj0 x1_0 false)))) = some r := by (rw [hy114]; with_reducible exact H)
   have Ny114 := Aside0.mk hy114
   clear hy114
   replace H := Option.bind_eq_some_iff.mp H
   obtain ⟨⟨t117, t118⟩, A260, H⟩ := H
   replace H : ((cleanselaw04_of.f 1 4).bind fun bt119 => (if (t117 == bt119.1 && (t118 == bt119.2)) = true then ((measure_Jaro.f kj0 (⟨#[109, 97, 114, 116, 104, 97]⟩ : ByteArray) (⟨#[109, 97, 114, 104, 116, 97]⟩ : ByteArray)).bind fun bt121 => ((cleanselaw04_of.f 17 18).bind fun bt123 => (if (bt121.1 == bt123.1 && (bt121.2 == bt123.2)) = true then ((measure_Jaro.f kj0 (⟨#[100, 105, 120, 111, 110]⟩ : ByteArray) (⟨#[100, 105, 99, 107, 115, 111, 110, 120]⟩ : ByteArray)).bind fun bt125 => ((cleanselaw04_of.f 23 30).bind fun bt127 => (cleanselaw04_head.j1 kj0 x1_0 (bt125.1 == bt127.1 && (bt125.2 == bt127.2))))) else (cleanselaw04_head.j1 kj0 x1_0 false)))) else (cleanselaw04_head.j1 kj0 x1_0 false))) = some r := H
   have A26 := Aside0.mk A260
   clear A260
   replace H := Option.bind_eq_some_iff.mp H
   obtain ⟨⟨t119, t120⟩, A270, H⟩ := H
   replace H : (if (t117 == t119 && (t118 == t120)) = true then ((measure_Jaro.f kj0 (⟨#[109, 97, 114, 116, 104, 97]⟩ : ByteArray) (⟨#[109, 97, 114, 104, 116, 97]⟩ : ByteArray)).bind fun bt121 => ((cleanselaw04_of.f 17 18).bind fun bt123 => (if (bt121.1 == bt123.1 && (bt121.2 == bt123.2)) = true then ((measure_Jaro.f kj0 (⟨#[100, 105, 120, 111, 110]⟩ : ByteArray) (⟨#[100, 105, 99, 107, 115, 111, 110, 120]⟩ : ByteArray)).bind fun bt125 => ((cleanselaw04_of.f 23 30).bind fun bt127 => (cleanselaw04_head.j1 kj0 x1_0 (bt125.1 == bt127.1 && (bt125.2 == bt127.2))))) else (cleanselaw04_head.j1 kj0 x1_0 false)))) else (cleanselaw04_head.j1 kj0 x1_0 false)) = some r := H
   have A27 := Aside0.mk A270
   clear A270
   by_cases c28 : (t117 == t119 && (t118 == t120)) = true
   ·rw [if_pos c28] at H
    have c28b0 : (t117 == t119 && (t118 == t120)) = true := c28
    (try (have c28b1 : decide (t117 = t119 && (t118 == t120)) = true := by simpa using c28))
    (try (have c28b2 : (t117 == t119 && (t118 == t120)) = true := by simpa using c28))
    clear c28
    replace H := Option.bind_eq_some_iff.mp H
    obtain ⟨⟨t121, t122⟩, A290, H⟩ := H
    replace H : ((cleanselaw04_of.f 17 18).bind fun bt123 => (if (t121 == bt123.1 && (t122 == bt123.2)) = true then ((measure_Jaro.f kj0 (⟨#[100, 105, 120, 111, 110]⟩ : ByteArray) (⟨#[100, 105, 99, 107, 115, 111, 110, 120]⟩ : ByteArray)).bind fun bt125 => ((cleanselaw04_of.f 23 30).bind fun bt127 => (cleanselaw04_head.j1 kj0 x1_0 (bt125.1 == bt127.1 && (bt125.2 == bt127.2))))) else (cleanselaw04_head.j1 kj0 x1_0 false))) = some r := H
    have A29 := Aside0.mk A290
    clear A290
    replace H := Option.bind_eq_some_iff.mp H
    obtain ⟨⟨t123, t124⟩, A300, H⟩ := H
    replace H : (if (t121 == t123 && (t122 == t124)) = true then ((measure_Jaro.f kj0 (⟨#[100, 105, 120, 111, 110]⟩ : ByteArray) (⟨#[100, 105, 99, 107, 115, 111, 110, 120]⟩ : ByteArray)).bind fun bt125 => ((cleanselaw04_of.f 23 30).bind fun bt127 => (cleanselaw04_head.j1 kj0 x1_0 (bt125.1 == bt127.1 && (bt125.2 == bt127.2))))) else (cleanselaw04_head.j1 kj0 x1_0 false)) = some r := H
    have A30 := Aside0.mk A300
    clear A300
    by_cases c31 : (t121 == t123 && (t122 == t124)) = true
    ·rw [if_pos c31] at H
     have c31b0 : (t121 == t123 && (t122 == t124)) = true := c31
     (try (have c31b1 : decide (t121 = t123 && (t122 == t124)) = true := by simpa using c31))
     (try (have c31b2 : (t121 == t123 && (t122 == t124)) = true := by simpa using c31))
     clear c31
     replace H := Option.bind_eq_some_iff.mp H
     obtain ⟨⟨t125, t126⟩, A320, H⟩ := H
     replace H : ((cleanselaw04_of.f 23 30).bind fun bt127 => (cleanselaw04_head.j1 kj0 x1_0 (t125 == bt127.1 && (t126 == bt127.2)))) = some r := H
     have A32 := Aside0.mk A320
     clear A320
     replace H := Option.bind_eq_some_iff.mp H
     obtain ⟨⟨t127, t128⟩, A330, H⟩ := H
     replace H : (cleanselaw04_head.j1 kj0 x1_0 (t125 == t127 && (t126 == t128))) = some r := H
     have A33 := Aside0.mk A330
     clear A330
     have H' := Aside0.mk H
     clear H
     go_wp2_with (first | ((with_reducible refine gate_dst (N := 23) rfl ?_); refine Kd.R_lit Kd.string _ 9 ?hg (N := 23) ?hd (xs := ([(⟨#[97]⟩ : ByteArray), (⟨#[98]⟩ : ByteArray)] : List ByteArray)) (inner := [.string (⟨#[97]⟩ : ByteArray), .string (⟨#[98]⟩ : ByteArray)]) (ok := fun _ => True) (okp := fun _ => True) ?hr ?hp (fun _ hk => hk) trivial (Below.refl _ _) (Nat.le_refl _) (by simp) ?_; (case hd => rfl); (case hg => rfl); (case hr => (go_simp; done)); (case hp => exact (Reps.one (show Kd.M Kd.string _ _ _ (⟨#[97]⟩ : ByteArray) [.string (⟨#[97]⟩ : ByteArray)] from rfl) (Reps.one (show Kd.M Kd.string _ _ _ (⟨#[98]⟩ : ByteArray) [.string (⟨#[98]⟩ : ByteArray)] from rfl) (Reps.none _ _)))); intro v112 w34 ho35 hb hg_ hnew_; clear hg_ hnew_; ((rw [← Ny111.out] at ho35)); have n0_ := Aside0.mk (Kd.R_lower ho35 (below_size HB.out)); have n1_ := Aside0.mk (below_step HB.out hb); clear HB; have HO113 := n0_; have HB := n1_; clear n0_ n1_; clear hb ho35) | ((with_reducible refine gate_dst (N := 24) rfl ?_); refine Kd.R_lit Kd.string _ 9 ?hg (N := 24) ?hd (xs := ([(⟨#[98]⟩ : ByteArray), (⟨#[99]⟩ : ByteArray), (⟨#[100]⟩ : ByteArray)] : List ByteArray)) (inner := [.string (⟨#[98]⟩ : ByteArray), .string (⟨#[99]⟩ : ByteArray), .string (⟨#[100]⟩ : ByteArray)]) (ok := fun _ => True) (okp := fun _ => True) ?hr ?hp (fun _ hk => hk) trivial (Below.refl _ _) (Nat.le_refl _) (by simp) ?_; (case hd => rfl); (case hg => rfl); (case hr => (go_simp; done)); (case hp => exact (Reps.one (show Kd.M Kd.string _ _ _ (⟨#[98]⟩ : ByteArray) [.string (⟨#[98]⟩ : ByteArray)] from rfl) (Reps.one (show Kd.M Kd.string _ _ _ (⟨#[99]⟩ : ByteArray) [.string (⟨#[99]⟩ : ByteArray)] from rfl) (Reps.one (show Kd.M Kd.string _ _ _ (⟨#[100]⟩ : ByteArray) [.string (⟨#[100]⟩ : ByteArray)] from rfl) (Reps.none _ _))))); intro v115 w36 ho37 hb hg_ hnew_; clear hg_ hnew_; ((rw [← Ny114.out] at ho37)); have n0_ := Aside0.mk (Kd.R_elder' (by exact HO113.out) (Kd.R_base ho37) hb); have n1_ := Aside0.mk (Kd.R_lower (Kd.R_new' ho37 (Kd.R_lt (by exact HO113.out))) (below_size HB.out)); have n2_ := Aside0.mk (below_step HB.out hb); clear HO113; clear HB; have HO113 := n0_; have HO116 := n1_; have HB := n2_; clear n0_ n1_ n2_; clear hb ho37; obtain ⟨Ao38, co38, eo38⟩ := Kd.R_slice HO113.out; subst eo38; obtain ⟨Ao39, co39, eo39⟩ := Kd.R_slice HO116.out; subst eo39) | ((with_reducible refine gate_callee (f := 18) rfl ?_); refine goesL_ (some 25) rfl rfl Tryd.func18 (by kernel_rfl) rfl #[.slice Ao38 y111.length co38, .slice Ao39 y114.length co39] rfl (by (try simp only [List.map_toArray, List.map_cons, List.map_nil]); rfl) ?_; (with_reducible refine (measure_Jaccard.calls kj0 _ _ y111 _ _ y114 t117 t118 _ ?side1 ?side2 ?side3 ?side4 ?sGl A26.out).mono ?_); (case sGl => exact Gl.below HGl.out HB.out); (case side1 => repeat ((exact (Kd.R_reads' HO113.out).2.2))); (case side2 => exact (Kd.R_reads' HO113.out).2.1); (case side3 => repeat ((exact (Kd.R_reads' HO116.out).2.2))); (case side4 => exact (Kd.R_reads' HO116.out).2.1); rintro e w40 ⟨rfl, hb⟩; refine ⟨_, rfl, ?_⟩; have n0_ := Aside0.mk (Kd.R_below (by exact HO113.out) hb); have n1_ := Aside0.mk (Kd.R_below (by exact HO116.out) hb); have n2_ := Aside0.mk (below_step HB.out hb); clear HO113; clear HO116; clear HB; have HO113 := n0_; have HO116 := n1_; have HB := n2_; clear n0_ n1_ n2_; (try clear hb)) | ((with_reducible refine gate_callee (f := 27) rfl ?_); refine goesL_ (some 26) rfl rfl Tryd.func27 (by kernel_rfl) rfl #[.int .i64 1, .int .i64 4] rfl (by (try simp only [List.map_toArray, List.map_cons, List.map_nil]); rfl) ?_; (with_reducible refine (cleanselaw04_of.calls 1 4 t119 t120 _ A27.out).mono ?_); rintro e w41 ⟨rfl, hb⟩; refine ⟨_, rfl, ?_⟩; have n0_ := Aside0.mk (Kd.R_below (by exact HO113.out) hb); have n1_ := Aside0.mk (Kd.R_below (by exact HO116.out) hb); have n2_ := Aside0.mk (below_step HB.out hb); clear HO113; clear HO116; clear HB; have HO113 := n0_; have HO116 := n1_; have HB := n2_; clear n0_ n1_ n2_; (try clear hb)) | (go_at_call 22; (with_reducible refine (measure_Jaro.calls kj0 (⟨#[109, 97, 114, 116, 104, 97]⟩ : ByteArray) (⟨#[109, 97, 114, 104, 116, 97]⟩ : ByteArray) t121 t122 _ ?sGl A29.out).mono ?_); (case sGl => exact Gl.below HGl.out HB.out); rintro e w42 ⟨rfl, hb⟩; have n0_ := Aside0.mk (Kd.R_below (by exact HO113.out) hb); have n1_ := Aside0.mk (Kd.R_below (by exact HO116.out) hb); have n2_ := Aside0.mk (below_step HB.out hb); clear HO113; clear HO116; clear HB; have HO113 := n0_; have HO116 := n1_; have HB := n2_; clear n0_ n1_ n2_; (try clear hb)) | (go_at_call 27; (with_reducible refine (cleanselaw04_of.calls 17 18 t123 t124 _ A30.out).mono ?_); rintro e w43 ⟨rfl, hb⟩; have n0_ := Aside0.mk (Kd.R_below (by exact HO113.out) hb); have n1_ := Aside0.mk (Kd.R_below (by exact HO116.out) hb); have n2_ := Aside0.mk (below_step HB.out hb); clear HO113; clear HO116; clear HB; have HO113 := n0_; have HO116 := n1_; have HB := n2_; clear n0_ n1_ n2_; (try clear hb)) | (go_at_call 22; (with_reducible refine (measure_Jaro.calls kj0 (⟨#[100, 105, 120, 111, 110]⟩ : ByteArray) (⟨#[100, 105, 99, 107, 115, 111, 110, 120]⟩ : ByteArray) t125 t126 _ ?sGl A32.out).mono ?_); (case sGl => exact Gl.below HGl.out HB.out); rintro e w44 ⟨rfl, hb⟩; have n0_ := Aside0.mk (Kd.R_below (by exact HO113.out) hb); have n1_ := Aside0.mk (Kd.R_below (by exact HO116.out) hb); have n2_ := Aside0.mk (below_step HB.out hb); clear HO113; clear HO116; clear HB; have HO113 := n0_; have HO116 := n1_; have HB := n2_; clear n0_ n1_ n2_; (try clear hb)) | (go_at_call 27; (with_reducible refine (cleanselaw04_of.calls 23 30 t127 t128 _ A33.out).mono ?_); rintro e w45 ⟨rfl, hb⟩; have n0_ := Aside0.mk (Kd.R_below (by exact HO113.out) hb); have n1_ := Aside0.mk (Kd.R_below (by exact HO116.out) hb); have n2_ := Aside0.mk (below_step HB.out hb); clear HO113; clear HO116; clear HB; have HO113 := n0_; have HO116 := n1_; have HB := n2_; clear n0_ n1_ n2_; (try clear hb)))
     go_meet
     case rel => exact ⟨_, ((t125 == t127 && (t126 == t128))), (by rfl), H', ⟨by have := HJ0.out; omega⟩, ⟨by repeat ((with_reducible (exact HB.out)))⟩⟩
    rw [if_neg c31] at H
    have c31b0 : (t121 == t123 && (t122 == t124)) = false := by simpa using c31
    (try (have c31b1 : decide (t121 = t123 && (t122 == t124)) = false := by simpa using c31))
    (try (have c31b2 : (t121 == t123 && (t122 == t124)) = false := by simpa using c31))
    (try (have c31b3 : ¬ (t121 = t123 && (t122 == t124)) := by simpa using c31))
    clear c31
    have H' := Aside0.mk H
    clear H
    go_wp2_with (first | ((with_reducible refine gate_dst (N := 23) rfl ?_); refine Kd.R_lit Kd.string _ 9 ?hg (N := 23) ?hd (xs := ([(⟨#[97]⟩ : ByteArray), (⟨#[98]⟩ : ByteArray)] : List ByteArray)) (inner := [.string (⟨#[97]⟩ : ByteArray), .string (⟨#[98]⟩ : ByteArray)]) (ok := fun _ => True) (okp := fun _ => True) ?hr ?hp (fun _ hk => hk) trivial (Below.refl _ _) (Nat.le_refl _) (by simp) ?_; (case hd => rfl); (case hg => rfl); (case hr => (go_simp; done)); (case hp => exact (Reps.one (show Kd.M Kd.string _ _ _ (⟨#[97]⟩ : ByteArray) [.string (⟨#[97]⟩ : ByteArray)] from rfl) (Reps.one (show Kd.M Kd.string _ _ _ (⟨#[98]⟩ : ByteArray) [.string (⟨#[98]⟩ : ByteArray)] from rfl) (Reps.none _ _)))); intro v112 w46 ho47 hb hg_ hnew_; clear hg_ hnew_; ((rw [← Ny111.out] at ho47)); have n0_ := Aside0.mk (Kd.R_lower ho47 (below_size HB.out)); have n1_ := Aside0.mk (below_step HB.out hb); clear HB; have HO113 := n0_; have HB := n1_; clear n0_ n1_; clear hb ho47) | ((with_reducible refine gate_dst (N := 24) rfl ?_); refine Kd.R_lit Kd.string _ 9 ?hg (N := 24) ?hd (xs := ([(⟨#[98]⟩ : ByteArray), (⟨#[99]⟩ : ByteArray), (⟨#[100]⟩ : ByteArray)] : List ByteArray)) (inner := [.string (⟨#[98]⟩ : ByteArray), .string (⟨#[99]⟩ : ByteArray), .string (⟨#[100]⟩ : ByteArray)]) (ok := fun _ => True) (okp := fun _ => True) ?hr ?hp (fun _ hk => hk) trivial (Below.refl _ _) (Nat.le_refl _) (by simp) ?_; (case hd => rfl); (case hg => rfl); (case hr => (go_simp; done)); (case hp => exact (Reps.one (show Kd.M Kd.string _ _ _ (⟨#[98]⟩ : ByteArray) [.string (⟨#[98]⟩ : ByteArray)] from rfl) (Reps.one (show Kd.M Kd.string _ _ _ (⟨#[99]⟩ : ByteArray) [.string (⟨#[99]⟩ : ByteArray)] from rfl) (Reps.one (show Kd.M Kd.string _ _ _ (⟨#[100]⟩ : ByteArray) [.string (⟨#[100]⟩ : ByteArray)] from rfl) (Reps.none _ _))))); intro v115 w48 ho49 hb hg_ hnew_; clear hg_ hnew_; ((rw [← Ny114.out] at ho49)); have n0_ := Aside0.mk (Kd.R_elder' (by exact HO113.out) (Kd.R_base ho49) hb); have n1_ := Aside0.mk (Kd.R_lower (Kd.R_new' ho49 (Kd.R_lt (by exact HO113.out))) (below_size HB.out)); have n2_ := Aside0.mk (below_step HB.out hb); clear HO113; clear HB; have HO113 := n0_; have HO116 := n1_; have HB := n2_; clear n0_ n1_ n2_; clear hb ho49; obtain ⟨Ao50, co50, eo50⟩ := Kd.R_slice HO113.out; subst eo50; obtain ⟨Ao51, co51, eo51⟩ := Kd.R_slice HO116.out; subst eo51) | ((with_reducible refine gate_callee (f := 18) rfl ?_); refine goesL_ (some 25) rfl rfl Tryd.func18 (by kernel_rfl) rfl #[.slice Ao50 y111.length co50, .slice Ao51 y114.length co51] rfl (by (try simp only [List.map_toArray, List.map_cons, List.map_nil]); rfl) ?_; (with_reducible refine (measure_Jaccard.calls kj0 _ _ y111 _ _ y114 t117 t118 _ ?side1 ?side2 ?side3 ?side4 ?sGl A26.out).mono ?_); (case sGl => exact Gl.below HGl.out HB.out); (case side1 => repeat ((exact (Kd.R_reads' HO113.out).2.2))); (case side2 => exact (Kd.R_reads' HO113.out).2.1); (case side3 => repeat ((exact (Kd.R_reads' HO116.out).2.2))); (case side4 => exact (Kd.R_reads' HO116.out).2.1); rintro e w52 ⟨rfl, hb⟩; refine ⟨_, rfl, ?_⟩; have n0_ := Aside0.mk (Kd.R_below (by exact HO113.out) hb); have n1_ := Aside0.mk (Kd.R_below (by exact HO116.out) hb); have n2_ := Aside0.mk (below_step HB.out hb); clear HO113; clear HO116; clear HB; have HO113 := n0_; have HO116 := n1_; have HB := n2_; clear n0_ n1_ n2_; (try clear hb)) | ((with_reducible refine gate_callee (f := 27) rfl ?_); refine goesL_ (some 26) rfl rfl Tryd.func27 (by kernel_rfl) rfl #[.int .i64 1, .int .i64 4] rfl (by (try simp only [List.map_toArray, List.map_cons, List.map_nil]); rfl) ?_; (with_reducible refine (cleanselaw04_of.calls 1 4 t119 t120 _ A27.out).mono ?_); rintro e w53 ⟨rfl, hb⟩; refine ⟨_, rfl, ?_⟩; have n0_ := Aside0.mk (Kd.R_below (by exact HO113.out) hb); have n1_ := Aside0.mk (Kd.R_below (by exact HO116.out) hb); have n2_ := Aside0.mk (below_step HB.out hb); clear HO113; clear HO116; clear HB; have HO113 := n0_; have HO116 := n1_; have HB := n2_; clear n0_ n1_ n2_; (try clear hb)) | (go_at_call 22; (with_reducible refine (measure_Jaro.calls kj0 (⟨#[109, 97, 114, 116, 104, 97]⟩ : ByteArray) (⟨#[109, 97, 114, 104, 116, 97]⟩ : ByteArray) t121 t122 _ ?sGl A29.out).mono ?_); (case sGl => exact Gl.below HGl.out HB.out); rintro e w54 ⟨rfl, hb⟩; have n0_ := Aside0.mk (Kd.R_below (by exact HO113.out) hb); have n1_ := Aside0.mk (Kd.R_below (by exact HO116.out) hb); have n2_ := Aside0.mk (below_step HB.out hb); clear HO113; clear HO116; clear HB; have HO113 := n0_; have HO116 := n1_; have HB := n2_; clear n0_ n1_ n2_; (try clear hb)) | (go_at_call 27; (with_reducible refine (cleanselaw04_of.calls 17 18 t123 t124 _ A30.out).mono ?_); rintro e w55 ⟨rfl, hb⟩; have n0_ := Aside0.mk (Kd.R_below (by exact HO113.out) hb); have n1_ := Aside0.mk (Kd.R_below (by exact HO116.out) hb); have n2_ := Aside0.mk (below_step HB.out hb); clear HO113; clear HO116; clear HB; have HO113 := n0_; have HO116 := n1_; have HB := n2_; clear n0_ n1_ n2_; (try clear hb)))
    go_meet
    case rel => exact ⟨_, (false), (by rfl), H', ⟨by have := HJ0.out; omega⟩, ⟨by repeat ((with_reducible (exact HB.out)))⟩⟩
   rw [if_neg c28] at H
   have c28b0 : (t117 == t119 && (t118 == t120)) = false := by simpa using c28
   (try (have c28b1 : decide (t117 = t119 && (t118 == t120)) = false := by simpa using c28))
   (try (have c28b2 : (t117 == t119 && (t118 == t120)) = false := by simpa using c28))
   (try (have c28b3 : ¬ (t117 = t119 && (t118 == t120)) := by simpa using c28))
   clear c28
   have H' := Aside0.mk H
   clear H
   go_wp2_with (first | ((with_reducible refine gate_dst (N := 23) rfl ?_); refine Kd.R_lit Kd.string _ 9 ?hg (N := 23) ?hd (xs := ([(⟨#[97]⟩ : ByteArray), (⟨#[98]⟩ : ByteArray)] : List ByteArray)) (inner := [.string (⟨#[97]⟩ : ByteArray), .string (⟨#[98]⟩ : ByteArray)]) (ok := fun _ => True) (okp := fun _ => True) ?hr ?hp (fun _ hk => hk) trivial (Below.refl _ _) (Nat.le_refl _) (by simp) ?_; (case hd => rfl); (case hg => rfl); (case hr => (go_simp; done)); (case hp => exact (Reps.one (show Kd.M Kd.string _ _ _ (⟨#[97]⟩ : ByteArray) [.string (⟨#[97]⟩ : ByteArray)] from rfl) (Reps.one (show Kd.M Kd.string _ _ _ (⟨#[98]⟩ : ByteArray) [.string (⟨#[98]⟩ : ByteArray)] from rfl) (Reps.none _ _)))); intro v112 w56 ho57 hb hg_ hnew_; clear hg_ hnew_; ((rw [← Ny111.out] at ho57)); have n0_ := Aside0.mk (Kd.R_lower ho57 (below_size HB.out)); have n1_ := Aside0.mk (below_step HB.out hb); clear HB; have HO113 := n0_; have HB := n1_; clear n0_ n1_; clear hb ho57) | ((with_reducible refine gate_dst (N := 24) rfl ?_); refine Kd.R_lit Kd.string _ 9 ?hg (N := 24) ?hd (xs := ([(⟨#[98]⟩ : ByteArray), (⟨#[99]⟩ : ByteArray), (⟨#[100]⟩ : ByteArray)] : List ByteArray)) (inner := [.string (⟨#[98]⟩ : ByteArray), .string (⟨#[99]⟩ : ByteArray), .string (⟨#[100]⟩ : ByteArray)]) (ok := fun _ => True) (okp := fun _ => True) ?hr ?hp (fun _ hk => hk) trivial (Below.refl _ _) (Nat.le_refl _) (by simp) ?_; (case hd => rfl); (case hg => rfl); (case hr => (go_simp; done)); (case hp => exact (Reps.one (show Kd.M Kd.string _ _ _ (⟨#[98]⟩ : ByteArray) [.string (⟨#[98]⟩ : ByteArray)] from rfl) (Reps.one (show Kd.M Kd.string _ _ _ (⟨#[99]⟩ : ByteArray) [.string (⟨#[99]⟩ : ByteArray)] from rfl) (Reps.one (show Kd.M Kd.string _ _ _ (⟨#[100]⟩ : ByteArray) [.string (⟨#[100]⟩ : ByteArray)] from rfl) (Reps.none _ _))))); intro v115 w58 ho59 hb hg_ hnew_; clear hg_ hnew_; ((rw [← Ny114.out] at ho59)); have n0_ := Aside0.mk (Kd.R_elder' (by exact HO113.out) (Kd.R_base ho59) hb); have n1_ := Aside0.mk (Kd.R_lower (Kd.R_new' ho59 (Kd.R_lt (by exact HO113.out))) (below_size HB.out)); have n2_ := Aside0.mk (below_step HB.out hb); clear HO113; clear HB; have HO113 := n0_; have HO116 := n1_; have HB := n2_; clear n0_ n1_ n2_; clear hb ho59; obtain ⟨Ao60, co60, eo60⟩ := Kd.R_slice HO113.out; subst eo60; obtain ⟨Ao61, co61, eo61⟩ := Kd.R_slice HO116.out; subst eo61) | ((with_reducible refine gate_callee (f := 18) rfl ?_); refine goesL_ (some 25) rfl rfl Tryd.func18 (by kernel_rfl) rfl #[.slice Ao60 y111.length co60, .slice Ao61 y114.length co61] rfl (by (try simp only [List.map_toArray, List.map_cons, List.map_nil]); rfl) ?_; (with_reducible refine (measure_Jaccard.calls kj0 _ _ y111 _ _ y114 t117 t118 _ ?side1 ?side2 ?side3 ?side4 ?sGl A26.out).mono ?_); (case sGl => exact Gl.below HGl.out HB.out); (case side1 => repeat ((exact (Kd.R_reads' HO113.out).2.2))); (case side2 => exact (Kd.R_reads' HO113.out).2.1); (case side3 => repeat ((exact (Kd.R_reads' HO116.out).2.2))); (case side4 => exact (Kd.R_reads' HO116.out).2.1); rintro e w62 ⟨rfl, hb⟩; refine ⟨_, rfl, ?_⟩; have n0_ := Aside0.mk (Kd.R_below (by exact HO113.out) hb); have n1_ := Aside0.mk (Kd.R_below (by exact HO116.out) hb); have n2_ := Aside0.mk (below_step HB.out hb); clear HO113; clear HO116; clear HB; have HO113 := n0_; have HO116 := n1_; have HB := n2_; clear n0_ n1_ n2_; (try clear hb)) | ((with_reducible refine gate_callee (f := 27) rfl ?_); refine goesL_ (some 26) rfl rfl Tryd.func27 (by kernel_rfl) rfl #[.int .i64 1, .int .i64 4] rfl (by (try simp only [List.map_toArray, List.map_cons, List.map_nil]); rfl) ?_; (with_reducible refine (cleanselaw04_of.calls 1 4 t119 t120 _ A27.out).mono ?_); rintro e w63 ⟨rfl, hb⟩; refine ⟨_, rfl, ?_⟩; have n0_ := Aside0.mk (Kd.R_below (by exact HO113.out) hb); have n1_ := Aside0.mk (Kd.R_below (by exact HO116.out) hb); have n2_ := Aside0.mk (below_step HB.out hb); clear HO113; clear HO116; clear HB; have HO113 := n0_; have HO116 := n1_; have HB := n2_; clear n0_ n1_ n2_; (try clear hb)))
   go_meet
   case rel => exact ⟨_, (false), (by rfl), H', ⟨by have := HJ0.out; omega⟩, ⟨by repeat ((with_reducible (exact HB.out)))⟩⟩
  clear HC25
  obtain ⟨kq, x2_24, rfl, HA, HJ24, HB⟩ := hcut
  cases kq with
  | zero => exact absurd HA.out (by simp [cleanselaw04_head.j1])
  | succ kj24 =>
   have H := HA.out
   clear HA
   simp only [cleanselaw04_head.j1] at H
   replace H := Option.bind_eq_some_iff.mp H
   obtain ⟨⟨t129, t130, t131⟩, A640, H⟩ := H
   replace H : ((cleanselaw04_text.f (⟨#[76, 69, 69, 44, 32, 65, 110, 110]⟩ : ByteArray)).bind fun bt132 => ((measure_Of.f kj24 3 0 t129 t130 t131 bt132.1 bt132.2.1 bt132.2.2).bind fun bt135 => ((cleanselaw04_text.f (⟨#[120]⟩ : ByteArray)).bind fun bt139 => ((measure_Of.f kj24 2 0 bt139.1 bt139.2.1 bt139.2.2 2 0 (⟨#[]⟩ : ByteArray)).bind fun bt142 => (if x1_0 = true then (if x2_24 = true then ((measure_Near.f kj24 10 12 3).bind fun bt146 => ((cleanselaw04_of.f 1 2).bind fun bt148 => (if (bt146.1 == bt148.1 && (bt146.2 == bt148.2)) = true then ((measure_Near.f kj24 10 14 3).bind fun bt150 => ((cleanselaw04_of.f 0 1).bind fun bt152 => (if (bt150.1 == bt152.1 && (bt150.2 == bt152.2)) = true then ((cleanselaw04_of.f 1 1).bind fun bt154 => (if (bt135.1 == bt154.1 && (bt135.2.1 == bt154.2)) = true then (if bt135.2.2 = 0 then (some (bt142.2.2 == 10)) else (some false)) else (some false))) else (some false)))) else (some false)))) else (some false)) else (some false)))))) = some r := H
   have A64 := Aside0.mk A640
   clear A640
   replace H := Option.bind_eq_some_iff.mp H
   obtain ⟨⟨t132, t133, t134⟩, A650, H⟩ := H
   replace H : ((measure_Of.f kj24 3 0 t129 t130 t131 t132 t133 t134).bind fun bt135 => ((cleanselaw04_text.f (⟨#[120]⟩ : ByteArray)).bind fun bt139 => ((measure_Of.f kj24 2 0 bt139.1 bt139.2.1 bt139.2.2 2 0 (⟨#[]⟩ : ByteArray)).bind fun bt142 => (if x1_0 = true then (if x2_24 = true then ((measure_Near.f kj24 10 12 3).bind fun bt146 => ((cleanselaw04_of.f 1 2).bind fun bt148 => (if (bt146.1 == bt148.1 && (bt146.2 == bt148.2)) = true then ((measure_Near.f kj24 10 14 3).bind fun bt150 => ((cleanselaw04_of.f 0 1).bind fun bt152 => (if (bt150.1 == bt152.1 && (bt150.2 == bt152.2)) = true then ((cleanselaw04_of.f 1 1).bind fun bt154 => (if (bt135.1 == bt154.1 && (bt135.2.1 == bt154.2)) = true then (if bt135.2.2 = 0 then (some (bt142.2.2 == 10)) else (some false)) else (some false))) else (some false)))) else (some false)))) else (some false)) else (some false))))) = some r := H
   have A65 := Aside0.mk A650
   clear A650
   replace H := Option.bind_eq_some_iff.mp H
   obtain ⟨⟨t135, t136, t137⟩, A660, H⟩ := H
   replace H : ((cleanselaw04_text.f (⟨#[120]⟩ : ByteArray)).bind fun bt139 => ((measure_Of.f kj24 2 0 bt139.1 bt139.2.1 bt139.2.2 2 0 (⟨#[]⟩ : ByteArray)).bind fun bt142 => (if x1_0 = true then (if x2_24 = true then ((measure_Near.f kj24 10 12 3).bind fun bt146 => ((cleanselaw04_of.f 1 2).bind fun bt148 => (if (bt146.1 == bt148.1 && (bt146.2 == bt148.2)) = true then ((measure_Near.f kj24 10 14 3).bind fun bt150 => ((cleanselaw04_of.f 0 1).bind fun bt152 => (if (bt150.1 == bt152.1 && (bt150.2 == bt152.2)) = true then ((cleanselaw04_of.f 1 1).bind fun bt154 => (if (t135 == bt154.1 && (t136 == bt154.2)) = true then (if t137 = 0 then (some (bt142.2.2 == 10)) else (some false)) else (some false))) else (some false)))) else (some false)))) else (some false)) else (some false)))) = some r := H
   have A66 := Aside0.mk A660
   clear A660
   replace H := Option.bind_eq_some_iff.mp H
   obtain ⟨⟨t139, t140, t141⟩, A670, H⟩ := H
   replace H : ((measure_Of.f kj24 2 0 t139 t140 t141 2 0 (⟨#[]⟩ : ByteArray)).bind fun bt142 => (if x1_0 = true then (if x2_24 = true then ((measure_Near.f kj24 10 12 3).bind fun bt146 => ((cleanselaw04_of.f 1 2).bind fun bt148 => (if (bt146.1 == bt148.1 && (bt146.2 == bt148.2)) = true then ((measure_Near.f kj24 10 14 3).bind fun bt150 => ((cleanselaw04_of.f 0 1).bind fun bt152 => (if (bt150.1 == bt152.1 && (bt150.2 == bt152.2)) = true then ((cleanselaw04_of.f 1 1).bind fun bt154 => (if (t135 == bt154.1 && (t136 == bt154.2)) = true then (if t137 = 0 then (some (bt142.2.2 == 10)) else (some false)) else (some false))) else (some false)))) else (some false)))) else (some false)) else (some false))) = some r := H
   have A67 := Aside0.mk A670
   clear A670
   replace H := Option.bind_eq_some_iff.mp H
   obtain ⟨⟨t142, t143, t144⟩, A680, H⟩ := H
   replace H : (if x1_0 = true then (if x2_24 = true then ((measure_Near.f kj24 10 12 3).bind fun bt146 => ((cleanselaw04_of.f 1 2).bind fun bt148 => (if (bt146.1 == bt148.1 && (bt146.2 == bt148.2)) = true then ((measure_Near.f kj24 10 14 3).bind fun bt150 => ((cleanselaw04_of.f 0 1).bind fun bt152 => (if (bt150.1 == bt152.1 && (bt150.2 == bt152.2)) = true then ((cleanselaw04_of.f 1 1).bind fun bt154 => (if (t135 == bt154.1 && (t136 == bt154.2)) = true then (if t137 = 0 then (some (t144 == 10)) else (some false)) else (some false))) else (some false)))) else (some false)))) else (some false)) else (some false)) = some r := H
   have A68 := Aside0.mk A680
   clear A680
   by_cases c69 : x1_0 = true
   ·subst c69
    have H1 : (if x2_24 = true then ((measure_Near.f kj24 10 12 3).bind fun bt146 => ((cleanselaw04_of.f 1 2).bind fun bt148 => (if (bt146.1 == bt148.1 && (bt146.2 == bt148.2)) = true then ((measure_Near.f kj24 10 14 3).bind fun bt150 => ((cleanselaw04_of.f 0 1).bind fun bt152 => (if (bt150.1 == bt152.1 && (bt150.2 == bt152.2)) = true then ((cleanselaw04_of.f 1 1).bind fun bt154 => (if (t135 == bt154.1 && (t136 == bt154.2)) = true then (if t137 = 0 then (some (t144 == 10)) else (some false)) else (some false))) else (some false)))) else (some false)))) else (some false)) = some r := by rw [if_pos rfl] at H; exact H
    clear H
    have H := H1
    clear H1
    by_cases c70 : x2_24 = true
    ·subst c70
     have H1 : ((measure_Near.f kj24 10 12 3).bind fun bt146 => ((cleanselaw04_of.f 1 2).bind fun bt148 => (if (bt146.1 == bt148.1 && (bt146.2 == bt148.2)) = true then ((measure_Near.f kj24 10 14 3).bind fun bt150 => ((cleanselaw04_of.f 0 1).bind fun bt152 => (if (bt150.1 == bt152.1 && (bt150.2 == bt152.2)) = true then ((cleanselaw04_of.f 1 1).bind fun bt154 => (if (t135 == bt154.1 && (t136 == bt154.2)) = true then (if t137 = 0 then (some (t144 == 10)) else (some false)) else (some false))) else (some false)))) else (some false)))) = some r := by rw [if_pos rfl] at H; exact H
     clear H
     have H := H1
     clear H1
     replace H := Option.bind_eq_some_iff.mp H
     obtain ⟨⟨t146, t147⟩, A710, H⟩ := H
     replace H : ((cleanselaw04_of.f 1 2).bind fun bt148 => (if (t146 == bt148.1 && (t147 == bt148.2)) = true then ((measure_Near.f kj24 10 14 3).bind fun bt150 => ((cleanselaw04_of.f 0 1).bind fun bt152 => (if (bt150.1 == bt152.1 && (bt150.2 == bt152.2)) = true then ((cleanselaw04_of.f 1 1).bind fun bt154 => (if (t135 == bt154.1 && (t136 == bt154.2)) = true then (if t137 = 0 then (some (t144 == 10)) else (some false)) else (some false))) else (some false)))) else (some false))) = some r := H
     have A71 := Aside0.mk A710
     clear A710
     replace H := Option.bind_eq_some_iff.mp H
     obtain ⟨⟨t148, t149⟩, A720, H⟩ := H
     replace H : (if (t146 == t148 && (t147 == t149)) = true then ((measure_Near.f kj24 10 14 3).bind fun bt150 => ((cleanselaw04_of.f 0 1).bind fun bt152 => (if (bt150.1 == bt152.1 && (bt150.2 == bt152.2)) = true then ((cleanselaw04_of.f 1 1).bind fun bt154 => (if (t135 == bt154.1 && (t136 == bt154.2)) = true then (if t137 = 0 then (some (t144 == 10)) else (some false)) else (some false))) else (some false)))) else (some false)) = some r := H
     have A72 := Aside0.mk A720
     clear A720
     by_cases c73 : (t146 == t148 && (t147 == t149)) = true
     ·rw [if_pos c73] at H
      have c73b0 : (t146 == t148 && (t147 == t149)) = true := c73
      (try (have c73b1 : decide (t146 = t148 && (t147 == t149)) = true := by simpa using c73))
      (try (have c73b2 : (t146 == t148 && (t147 == t149)) = true := by simpa using c73))
      clear c73
      replace H := Option.bind_eq_some_iff.mp H
      obtain ⟨⟨t150, t151⟩, A740, H⟩ := H
      replace H : ((cleanselaw04_of.f 0 1).bind fun bt152 => (if (t150 == bt152.1 && (t151 == bt152.2)) = true then ((cleanselaw04_of.f 1 1).bind fun bt154 => (if (t135 == bt154.1 && (t136 == bt154.2)) = true then (if t137 = 0 then (some (t144 == 10)) else (some false)) else (some false))) else (some false))) = some r := H
      have A74 := Aside0.mk A740
      clear A740
      replace H := Option.bind_eq_some_iff.mp H
      obtain ⟨⟨t152, t153⟩, A750, H⟩ := H
      replace H : (if (t150 == t152 && (t151 == t153)) = true then ((cleanselaw04_of.f 1 1).bind fun bt154 => (if (t135 == bt154.1 && (t136 == bt154.2)) = true then (if t137 = 0 then (some (t144 == 10)) else (some false)) else (some false))) else (some false)) = some r := H
      have A75 := Aside0.mk A750
      clear A750
      by_cases c76 : (t150 == t152 && (t151 == t153)) = true
      ·rw [if_pos c76] at H
       have c76b0 : (t150 == t152 && (t151 == t153)) = true := c76
       (try (have c76b1 : decide (t150 = t152 && (t151 == t153)) = true := by simpa using c76))
       (try (have c76b2 : (t150 == t152 && (t151 == t153)) = true := by simpa using c76))
       clear c76
       replace H := Option.bind_eq_some_iff.mp H
       obtain ⟨⟨t154, t155⟩, A770, H⟩ := H
       replace H : (if (t135 == t154 && (t136 == t155)) = true then (if t137 = 0 then (some (t144 == 10)) else (some false)) else (some false)) = some r := H
       have A77 := Aside0.mk A770
       clear A770
       by_cases c78 : (t135 == t154 && (t136 == t155)) = true
       ·rw [if_pos c78] at H
        have c78b0 : (t135 == t154 && (t136 == t155)) = true := c78
        (try (have c78b1 : decide (t135 = t154 && (t136 == t155)) = true := by simpa using c78))
        (try (have c78b2 : (t135 == t154 && (t136 == t155)) = true := by simpa using c78))
        clear c78
        by_cases c79 : t137 = 0
        ·rw [if_pos c79] at H
         have c79b0 : (t137 == 0) = true := beq_iff_eq.mpr c79
         have c79b1 : (t137 != 0) = false := bne_eq_false_iff_eq.mpr c79
         clear c79
         obtain rfl := Option.some.inj H
         try go_wp2_with (first | ((with_reducible refine gate_callee (f := 33) rfl ?_); refine goesL_ (some 39) rfl rfl Tryd.func33 (by kernel_rfl) rfl #[.string (⟨#[65, 110, 110, 32, 76, 101, 101]⟩ : ByteArray)] rfl (by (try simp only [List.map_toArray, List.map_cons, List.map_nil]); rfl) ?_; (with_reducible refine (cleanselaw04_text.calls (⟨#[65, 110, 110, 32, 76, 101, 101]⟩ : ByteArray) t129 t130 t131 _ A64.out).mono ?_); rintro e w80 ⟨rfl, hb⟩; refine ⟨_, rfl, ?_⟩; have n0_ := Aside0.mk (below_step HB.out hb); clear HB; have HB := n0_; clear n0_; (try clear hb)) | ((with_reducible refine gate_callee (f := 33) rfl ?_); refine goesL_ (some 40) rfl rfl Tryd.func33 (by kernel_rfl) rfl #[.string (⟨#[76, 69, 69, 44, 32, 65, 110, 110]⟩ : ByteArray)] rfl (by (try simp only [List.map_toArray, List.map_cons, List.map_nil]); rfl) ?_; (with_reducible refine (cleanselaw04_text.calls (⟨#[76, 69, 69, 44, 32, 65, 110, 110]⟩ : ByteArray) t132 t133 t134 _ A65.out).mono ?_); rintro e w81 ⟨rfl, hb⟩; refine ⟨_, rfl, ?_⟩; have n0_ := Aside0.mk (below_step HB.out hb); clear HB; have HB := n0_; clear n0_; (try clear hb)) | ((with_reducible refine gate_callee (f := 20) rfl ?_); refine goesL_ (some 41) rfl rfl Tryd.func20 (by kernel_rfl) rfl #[.int .i64 3, .int .i64 0, .agg #[.int .i64 t129, .int .i64 t130, .string t131], .agg #[.int .i64 t132, .int .i64 t133, .string t134]] rfl (by (try simp only [List.map_toArray, List.map_cons, List.map_nil]); rfl) ?_; (with_reducible refine (measure_Of.calls kj24 3 0 t129 t130 t131 t132 t133 t134 t135 t136 t137 _ ?sGl A66.out).mono ?_); (case sGl => exact Gl.below HGl.out HB.out); rintro e w82 ⟨rfl, hb⟩; refine ⟨_, rfl, ?_⟩; have n0_ := Aside0.mk (below_step HB.out hb); clear HB; have HB := n0_; clear n0_; (try clear hb)) | ((with_reducible refine gate_dst (N := 3) rfl ?_); refine box_event ?hg (N := 3) ?hd (cs := #[.int .i64 0, .int .i64 0]) (t := 32) ?hr ?_; (case hd => rfl); (case hg => rfl); (case hr => (go_simp; done)); intro gb138 hg w83 hbox hb; have n0_ := Aside0.mk (below_step HB.out hb); have n1_ := Aside0.mk (hbox); have n3_ := Aside0.mk ((by rw [hg]; exact (below_size HB.out) : w.heap.size ≤ gb138)); clear HB; have HB := n0_; have BK138 := n1_; have GE138 := n3_; clear n0_ n1_ n3_; clear hb hbox hg; have hcz84_0 := cel_ BK138.out 0 rfl; have hcz84_1 := cel_ BK138.out 1 rfl; have hfz84_0 := blk_frozen BK138.out 0; have hfz84_1 := blk_frozen BK138.out 1) | ((with_reducible refine gate_callee (f := 33) rfl ?_); refine goesL_ (some 45) rfl rfl Tryd.func33 (by kernel_rfl) rfl #[.string (⟨#[120]⟩ : ByteArray)] rfl (by (try simp only [List.map_toArray, List.map_cons, List.map_nil]); rfl) ?_; (with_reducible refine (cleanselaw04_text.calls (⟨#[120]⟩ : ByteArray) t139 t140 t141 _ A67.out).mono ?_); rintro e w85 ⟨rfl, hb⟩; refine ⟨_, rfl, ?_⟩; have n0_ := Aside0.mk (blk_below (g := gb138) (o := .cells #[.int .i64 t135, .int .i64 t136] 32 (0, 0)) (by refine blk_put (cs := #[.int .i64 t135, .int .i64 0]) ?_ 1 _ rfl; refine blk_put (cs := #[.int .i64 0, .int .i64 0]) ?_ 0 _ rfl; exact BK138.out) hb); have n1_ := Aside0.mk (below_step (by repeat ((with_reducible first | exact HB.out | refine below_set ?_ GE138.out))) hb); clear BK138; clear HB; have BK138 := n0_; have HB := n1_; clear n0_ n1_; (try clear hb)) | ((with_reducible refine gate_callee (f := 20) rfl ?_); refine goesL_ (some 47) rfl rfl Tryd.func20 (by kernel_rfl) rfl #[.int .i64 2, .int .i64 0, .agg #[.int .i64 t139, .int .i64 t140, .string t141], .agg #[.int .i64 2, .int .i64 0, .string (⟨#[]⟩ : ByteArray)]] rfl (by (try simp only [List.map_toArray, List.map_cons, List.map_nil]); rfl) ?_; (with_reducible refine (measure_Of.calls kj24 2 0 t139 t140 t141 2 0 (⟨#[]⟩ : ByteArray) t142 t143 t144 _ ?sGl A68.out).mono ?_); (case sGl => exact Gl.below HGl.out HB.out); rintro e w86 ⟨rfl, hb⟩; refine ⟨_, rfl, ?_⟩; have n0_ := Aside0.mk (blk_below (g := gb138) (o := .cells #[.int .i64 t135, .int .i64 t136] 32 (0, 0)) (by exact BK138.out) hb); have n1_ := Aside0.mk (below_step HB.out hb); clear BK138; clear HB; have BK138 := n0_; have HB := n1_; clear n0_ n1_; (try clear hb)) | ((with_reducible refine gate_dst (N := 5) rfl ?_); refine box_event ?hg (N := 5) ?hd (cs := #[.int .i64 0, .int .i64 0]) (t := 32) ?hr ?_; (case hd => rfl); (case hg => rfl); (case hr => (go_simp; done)); intro gb145 hg w87 hbox hb; have n0_ := Aside0.mk (blk_below (g := gb138) (o := .cells #[.int .i64 t135, .int .i64 t136] 32 (0, 0)) (by exact BK138.out) hb); have n1_ := Aside0.mk (below_step HB.out hb); have n2_ := Aside0.mk (hbox); have n4_ := Aside0.mk ((by rw [hg]; exact (below_size HB.out) : w.heap.size ≤ gb145)); have n5_ := Aside0.mk ((by rw [hg]; exact Nat.ne_of_lt (blk_lt (g := gb138) (o := .cells #[.int .i64 t135, .int .i64 t136] 32 (0, 0)) (by exact BK138.out)) : gb138 ≠ gb145)); have n6_ := Aside0.mk ((by rw [hg]; exact Nat.ne_of_gt (blk_lt (g := gb138) (o := .cells #[.int .i64 t135, .int .i64 t136] 32 (0, 0)) (by exact BK138.out)) : gb145 ≠ gb138)); clear BK138; clear HB; have BK138 := n0_; have HB := n1_; have BK145 := n2_; have GE145 := n4_; have NB138_145 := n5_; have NB145_138 := n6_; clear n0_ n1_ n2_ n4_ n5_ n6_; clear hb hbox hg; have hnb88 := NB145_138.out; have hnc88 := NB138_145.out; have hcz89_0 := cel_ BK145.out 0 rfl; have hcz89_1 := cel_ BK145.out 1 rfl; have hfz89_0 := blk_frozen BK145.out 0; have hfz89_1 := blk_frozen BK145.out 1))
         have n0_ : Aside0 (((w87.setCell ⟨gb145, 0, none⟩ (.int .i64 t142)).setCell ⟨gb145, 1, none⟩ (.int .i64 t143)).heap[gb138]? = some (.cells #[.int .i64 t135, .int .i64 t136] 32 (0, 0))) := ⟨by refine blk_far ?_ NB138_145.out _; refine blk_far ?_ NB138_145.out _; exact BK138.out⟩
         have n1_ : Aside0 (((w87.setCell ⟨gb145, 0, none⟩ (.int .i64 t142)).setCell ⟨gb145, 1, none⟩ (.int .i64 t143)).heap[gb145]? = some (.cells #[.int .i64 t142, .int .i64 t143] 32 (0, 0))) := ⟨by refine blk_put (cs := #[.int .i64 t142, .int .i64 0]) ?_ 1 _ rfl; refine blk_put (cs := #[.int .i64 0, .int .i64 0]) ?_ 0 _ rfl; exact BK145.out⟩
         have n2_ : Aside0 (Below w.heap.size w ((w87.setCell ⟨gb145, 0, none⟩ (.int .i64 t142)).setCell ⟨gb145, 1, none⟩ (.int .i64 t143))) := ⟨by repeat ((with_reducible first | exact HB.out | refine below_set ?_ GE145.out))⟩
         (try clear BK138)
         (try clear BK145)
         (try clear HB)
         generalize ((w87.setCell ⟨gb145, 0, none⟩ (.int .i64 t142)).setCell ⟨gb145, 1, none⟩ (.int .i64 t143)) = w90 at n0_ n1_ n2_ ⊢
         have BK138 := n0_
         have BK145 := n1_
         have HB := n2_
         clear n0_ n1_ n2_
         have n0_ := Aside0.mk (blk_drew BK138.out)
         have n1_ := Aside0.mk (blk_drew BK145.out)
         have n2_ := Aside0.mk (below_drew1 HB.out)
         clear BK138
         clear BK145
         clear HB
         have BK138 := n0_
         have BK145 := n1_
         have HB := n2_
         clear n0_ n1_ n2_
         refine start_ (n := 28) (S := fun w' => w'.cell? ⟨gb138, 0, none⟩ = some (.int .i64 t135) ∧ w'.cell? ⟨gb138, 1, none⟩ = some (.int .i64 t136)) (ds := []) #[false, false, false, false, false, false, false, false, false, false, false, false, false, false, false, false, false, false, false, false, false, false, false, false, false, false, false, false] (by kernel_rfl) rfl rfl ⟨(blk_cell BK138.out 0).trans rfl, (blk_cell BK138.out 1).trans rfl⟩ (fun hHeld => ?_); refine with_tabW cleanselaw04_head.tab5 cleanselaw04_head.bits5 (fun HT_ HW_ => ?_)
         generalize w90.drew = w91 at BK138 BK145 HB hHeld ⊢
         refine pure_ (i := 0) (N := some 50) (v := ?_) (a' := ?_) #[true, false, false, false, false, false, false, false, false, false, false, false, false, false, false, false, false, false, false, false, false, false, false, false, false, false, false, false] rfl rfl (any_of HT_.out (by kernel_rfl)) (fun _ _ _ h => h) (Or.inl ⟨by rfl, ?_⟩) ?_ ?_
         rotate_left
         ·intro w'
          go_simp
          with_reducible rfl
         rotate_left
         ·simp only [Act.put, pS_, pZ_, pC_, i64_w, i32_w]
          rfl
         refine pure_ (i := 1) (N := some 51) (v := ?_) (a' := ?_) #[true, true, false, false, false, false, false, false, false, false, false, false, false, false, false, false, false, false, false, false, false, false, false, false, false, false, false, false] rfl rfl (any_of HT_.out (by kernel_rfl)) (fun _ _ _ h => h) (Or.inl ⟨by rfl, ?_⟩) ?_ ?_
         rotate_left
         ·intro w'
          go_simp
          with_reducible rfl
         rotate_left
         ·simp only [Act.put, pS_, pZ_, pC_, i64_w, i32_w]
          rfl
         refine pure_ (i := 2) (N := some 52) (v := ?_) (a' := ?_) #[true, true, true, false, false, false, false, false, false, false, false, false, false, false, false, false, false, false, false, false, false, false, false, false, false, false, false, false] rfl rfl (any_of HT_.out (by kernel_rfl)) (fun _ _ _ h => h) (Or.inl ⟨by rfl, ?_⟩) ?_ ?_
         rotate_left
         ·intro w'
          go_simp
          with_reducible rfl
         rotate_left
         ·simp only [Act.put, pS_, pZ_, pC_, i64_w, i32_w]
          rfl
         refine pure_ (i := 3) (N := some 53) (v := ?_) (a' := ?_) #[true, true, true, true, false, false, false, false, false, false, false, false, false, false, false, false, false, false, false, false, false, false, false, false, false, false, false, false] rfl rfl (any_of HT_.out (by kernel_rfl)) (fun _ _ _ h => h) (Or.inl ⟨by rfl, ?_⟩) ?_ ?_
         rotate_left
         ·intro w'
          go_simp
          with_reducible rfl
         rotate_left
         ·simp only [Act.put, pS_, pZ_, pC_, i64_w, i32_w]
          rfl
         refine pure_ (i := 4) (N := some 54) (v := ?_) (a' := ?_) #[true, true, true, true, true, false, false, false, false, false, false, false, false, false, false, false, false, false, false, false, false, false, false, false, false, false, false, false] rfl rfl (any_of HT_.out (by kernel_rfl)) (fun _ _ _ h => h) (Or.inl ⟨by rfl, ?_⟩) ?_ ?_
         rotate_left
         ·intro w'
          go_simp
          with_reducible rfl
         rotate_left
         ·simp only [Act.put, pS_, pZ_, pC_, i64_w, i32_w]
          rfl
         refine one_ (i := 5) (N := some 55) #[true, true, true, true, true, true, false, false, false, false, false, false, false, false, false, false, false, false, false, false, false, false, false, false, false, false, false, false] rfl rfl (one_of HT_.out (by kernel_rfl)) (by decide) (fun K hK => ?_)
         refine goes_ Tryd.func24 (by kernel_rfl) rfl #[.int .i64 10, .int .i64 12, .int .i64 3] (by rfl) rfl rfl (by (try simp only [List.map_toArray, List.map_cons, List.map_nil]); rfl) ?_
         with_reducible refine (measure_Near.calls kj24 10 12 3 t146 t147 _ ?sGl A71.out).mono ?_
         case sGl => exact Gl.below HGl.out HB.out
         rintro e w92 ⟨rfl, hb⟩
         refine ⟨_, rfl, ?_⟩
         have n0_ := Aside0.mk (blk_below (g := gb138) (o := .cells #[.int .i64 t135, .int .i64 t136] 32 (0, 0)) (by exact BK138.out) hb)
         have n1_ := Aside0.mk (blk_below (g := gb145) (o := .cells #[.int .i64 t142, .int .i64 t143] 32 (0, 0)) (by exact BK145.out) hb)
         have n2_ := Aside0.mk (below_step HB.out hb)
         clear BK138
         clear BK145
         clear HB
         have BK138 := n0_
         have BK145 := n1_
         have HB := n2_
         clear n0_ n1_ n2_
         (try clear hb)
         refine hK.out _ _ ⟨(blk_cell BK138.out 0).trans rfl, (blk_cell BK138.out 1).trans rfl⟩ (fun hHeld => ?_)
         clear hK K
         refine norm_ (a' := ?_) ?_ ?_
         rotate_left
         ·show Act.put _ (some 55) _ = _
          simp only [Act.put, pS_, pZ_, pC_, i64_w, i32_w]
          rfl
         refine one_ (i := 6) (N := some 56) #[true, true, true, true, true, true, true, false, false, false, false, false, false, false, false, false, false, false, false, false, false, false, false, false, false, false, false, false] rfl rfl (one_of HT_.out (by kernel_rfl)) (by decide) (fun K hK => ?_)
         refine goes_ Tryd.func27 (by kernel_rfl) rfl #[.int .i64 1, .int .i64 2] (by rfl) rfl rfl (by (try simp only [List.map_toArray, List.map_cons, List.map_nil]); rfl) ?_
         with_reducible refine (cleanselaw04_of.calls 1 2 t148 t149 _ A72.out).mono ?_
         rintro e w93 ⟨rfl, hb⟩
         refine ⟨_, rfl, ?_⟩
         have n0_ := Aside0.mk (blk_below (g := gb138) (o := .cells #[.int .i64 t135, .int .i64 t136] 32 (0, 0)) (by exact BK138.out) hb)
         have n1_ := Aside0.mk (blk_below (g := gb145) (o := .cells #[.int .i64 t142, .int .i64 t143] 32 (0, 0)) (by exact BK145.out) hb)
         have n2_ := Aside0.mk (below_step HB.out hb)
         clear BK138
         clear BK145
         clear HB
         have BK138 := n0_
         have BK145 := n1_
         have HB := n2_
         clear n0_ n1_ n2_
         (try clear hb)
         refine hK.out _ _ ⟨(blk_cell BK138.out 0).trans rfl, (blk_cell BK138.out 1).trans rfl⟩ (fun hHeld => ?_)
         clear hK K
         refine norm_ (a' := ?_) ?_ ?_
         rotate_left
         ·show Act.put _ (some 56) _ = _
          simp only [Act.put, pS_, pZ_, pC_, i64_w, i32_w]
          rfl
         refine pure_ (i := 7) (N := some 57) (v := ?_) (a' := ?_) #[true, true, true, true, true, true, true, true, false, false, false, false, false, false, false, false, false, false, false, false, false, false, false, false, false, false, false, false] rfl rfl (any_of HT_.out (by kernel_rfl)) (fun _ _ _ h => h) (Or.inl ⟨by rfl, ?_⟩) ?_ ?_
         rotate_left
         ·intro w'
          go_simp
          with_reducible rfl
         rotate_left
         ·simp only [Act.put, pS_, pZ_, pC_, i64_w, i32_w]
          rfl
         refine pure_ (i := 8) (N := some 58) (v := ?_) (a' := ?_) #[true, true, true, true, true, true, true, true, true, false, false, false, false, false, false, false, false, false, false, false, false, false, false, false, false, false, false, false] rfl rfl (any_of HT_.out (by kernel_rfl)) (fun _ _ _ h => h) (Or.inl ⟨by rfl, ?_⟩) ?_ ?_
         rotate_left
         ·intro w'
          go_simp
          with_reducible rfl
         rotate_left
         ·simp only [Act.put, pS_, pZ_, pC_, i64_w, i32_w]
          rfl
         refine pure_ (i := 9) (N := some 59) (v := ?_) (a' := ?_) #[true, true, true, true, true, true, true, true, true, true, false, false, false, false, false, false, false, false, false, false, false, false, false, false, false, false, false, false] rfl rfl (any_of HT_.out (by kernel_rfl)) (fun _ _ _ h => h) (Or.inl ⟨by rfl, ?_⟩) ?_ ?_
         rotate_left
         ·intro w'
          go_simp
          with_reducible rfl
         rotate_left
         ·simp only [Act.put, pS_, pZ_, pC_, i64_w, i32_w]
          rfl
         refine one_ (i := 10) (N := some 60) #[true, true, true, true, true, true, true, true, true, true, true, false, false, false, false, false, false, false, false, false, false, false, false, false, false, false, false, false] rfl rfl (one_of HT_.out (by kernel_rfl)) (by decide) (fun K hK => ?_)
         refine goes_ Tryd.func24 (by kernel_rfl) rfl #[.int .i64 10, .int .i64 14, .int .i64 3] (by rfl) rfl rfl (by (try simp only [List.map_toArray, List.map_cons, List.map_nil]); rfl) ?_
         with_reducible refine (measure_Near.calls kj24 10 14 3 t150 t151 _ ?sGl A74.out).mono ?_
         case sGl => exact Gl.below HGl.out HB.out
         rintro e w94 ⟨rfl, hb⟩
         refine ⟨_, rfl, ?_⟩
         have n0_ := Aside0.mk (blk_below (g := gb138) (o := .cells #[.int .i64 t135, .int .i64 t136] 32 (0, 0)) (by exact BK138.out) hb)
         have n1_ := Aside0.mk (blk_below (g := gb145) (o := .cells #[.int .i64 t142, .int .i64 t143] 32 (0, 0)) (by exact BK145.out) hb)
         have n2_ := Aside0.mk (below_step HB.out hb)
         clear BK138
         clear BK145
         clear HB
         have BK138 := n0_
         have BK145 := n1_
         have HB := n2_
         clear n0_ n1_ n2_
         (try clear hb)
         refine hK.out _ _ ⟨(blk_cell BK138.out 0).trans rfl, (blk_cell BK138.out 1).trans rfl⟩ (fun hHeld => ?_)
         clear hK K
         refine norm_ (a' := ?_) ?_ ?_
         rotate_left
         ·show Act.put _ (some 60) _ = _
          simp only [Act.put, pS_, pZ_, pC_, i64_w, i32_w]
          rfl
         refine one_ (i := 11) (N := some 61) #[true, true, true, true, true, true, true, true, true, true, true, true, false, false, false, false, false, false, false, false, false, false, false, false, false, false, false, false] rfl rfl (one_of HT_.out (by kernel_rfl)) (by decide) (fun K hK => ?_)
         refine goes_ Tryd.func27 (by kernel_rfl) rfl #[.int .i64 0, .int .i64 1] (by rfl) rfl rfl (by (try simp only [List.map_toArray, List.map_cons, List.map_nil]); rfl) ?_
         with_reducible refine (cleanselaw04_of.calls 0 1 t152 t153 _ A75.out).mono ?_
         rintro e w95 ⟨rfl, hb⟩
         refine ⟨_, rfl, ?_⟩
         have n0_ := Aside0.mk (blk_below (g := gb138) (o := .cells #[.int .i64 t135, .int .i64 t136] 32 (0, 0)) (by exact BK138.out) hb)
         have n1_ := Aside0.mk (blk_below (g := gb145) (o := .cells #[.int .i64 t142, .int .i64 t143] 32 (0, 0)) (by exact BK145.out) hb)
         have n2_ := Aside0.mk (below_step HB.out hb)
         clear BK138
         clear BK145
         clear HB
         have BK138 := n0_
         have BK145 := n1_
         have HB := n2_
         clear n0_ n1_ n2_
         (try clear hb)
         refine hK.out _ _ ⟨(blk_cell BK138.out 0).trans rfl, (blk_cell BK138.out 1).trans rfl⟩ (fun hHeld => ?_)
         clear hK K
         refine norm_ (a' := ?_) ?_ ?_
         rotate_left
         ·show Act.put _ (some 61) _ = _
          simp only [Act.put, pS_, pZ_, pC_, i64_w, i32_w]
          rfl
         refine pure_ (i := 12) (N := some 62) (v := ?_) (a' := ?_) #[true, true, true, true, true, true, true, true, true, true, true, true, true, false, false, false, false, false, false, false, false, false, false, false, false, false, false, false] rfl rfl (any_of HT_.out (by kernel_rfl)) (fun _ _ _ h => h) (Or.inl ⟨by rfl, ?_⟩) ?_ ?_
         rotate_left
         ·intro w'
          go_simp
          with_reducible rfl
         rotate_left
         ·simp only [Act.put, pS_, pZ_, pC_, i64_w, i32_w]
          rfl
         refine pure_ (i := 13) (N := some 63) (v := ?_) (a' := ?_) #[true, true, true, true, true, true, true, true, true, true, true, true, true, true, false, false, false, false, false, false, false, false, false, false, false, false, false, false] rfl rfl (any_of HT_.out (by kernel_rfl)) (fun _ _ _ h => h) (Or.inl ⟨by rfl, ?_⟩) ?_ ?_
         rotate_left
         ·intro w'
          go_simp
          with_reducible rfl
         rotate_left
         ·simp only [Act.put, pS_, pZ_, pC_, i64_w, i32_w]
          rfl
         refine pure_ (i := 14) (N := some 64) (v := ?_) (a' := ?_) #[true, true, true, true, true, true, true, true, true, true, true, true, true, true, true, false, false, false, false, false, false, false, false, false, false, false, false, false] rfl rfl (any_of HT_.out (by kernel_rfl)) (fun _ _ _ h => h) (Or.inl ⟨by rfl, ?_⟩) ?_ ?_
         rotate_left
         ·intro w'
          go_simp
          with_reducible rfl
         rotate_left
         ·simp only [Act.put, pS_, pZ_, pC_, i64_w, i32_w]
          rfl
         refine take_ (i := 15) (N := some 65) (v := ?_) (a' := ?_) #[true, true, true, true, true, true, true, true, true, true, true, true, true, true, true, true, false, false, false, false, false, false, false, false, false, false, false, false] rfl rfl (take_ofW HT_.out HW_.out (by kernel_rfl)) (fun _ _ _ h => h) (Or.inl ⟨by rfl, ?_⟩) hHeld ?_ ?_
         rotate_left
         ·rintro w' ⟨s0, s1⟩
          go_simp
          with_reducible rfl
         rotate_left
         ·simp only [Act.put, pS_, pZ_, pC_, i64_w, i32_w]
          rfl
         refine one_ (i := 16) (N := some 66) #[true, true, true, true, true, true, true, true, true, true, true, true, true, true, true, true, true, false, false, false, false, false, false, false, false, false, false, false] rfl rfl (one_of HT_.out (by kernel_rfl)) (by decide) (fun K hK => ?_)
         refine goes_ Tryd.func27 (by kernel_rfl) rfl #[.int .i64 1, .int .i64 1] (by rfl) rfl rfl (by (try simp only [List.map_toArray, List.map_cons, List.map_nil]); rfl) ?_
         with_reducible refine (cleanselaw04_of.calls 1 1 t154 t155 _ A77.out).mono ?_
         rintro e w96 ⟨rfl, hb⟩
         refine ⟨_, rfl, ?_⟩
         have n0_ := Aside0.mk (blk_below (g := gb138) (o := .cells #[.int .i64 t135, .int .i64 t136] 32 (0, 0)) (by exact BK138.out) hb)
         have n1_ := Aside0.mk (blk_below (g := gb145) (o := .cells #[.int .i64 t142, .int .i64 t143] 32 (0, 0)) (by exact BK145.out) hb)
         have n2_ := Aside0.mk (below_step HB.out hb)
         clear BK138
         clear BK145
         clear HB
         have BK138 := n0_
         have BK145 := n1_
         have HB := n2_
         clear n0_ n1_ n2_
         (try clear hb)
         refine hK.out _ _ ⟨(blk_cell BK138.out 0).trans rfl, (blk_cell BK138.out 1).trans rfl⟩ (fun hHeld => ?_)
         clear hK K
         refine norm_ (a' := ?_) ?_ ?_
         rotate_left
         ·show Act.put _ (some 66) _ = _
          simp only [Act.put, pS_, pZ_, pC_, i64_w, i32_w]
          rfl
         refine pure_ (i := 17) (N := some 67) (v := ?_) (a' := ?_) #[true, true, true, true, true, true, true, true, true, true, true, true, true, true, true, true, true, true, false, false, false, false, false, false, false, false, false, false] rfl rfl (any_of HT_.out (by kernel_rfl)) (fun _ _ _ h => h) (Or.inl ⟨by rfl, ?_⟩) ?_ ?_
         rotate_left
         ·intro w'
          go_simp
          with_reducible rfl
         rotate_left
         ·simp only [Act.put, pS_, pZ_, pC_, i64_w, i32_w]
          rfl
         refine pure_ (i := 18) (N := some 68) (v := ?_) (a' := ?_) #[true, true, true, true, true, true, true, true, true, true, true, true, true, true, true, true, true, true, true, false, false, false, false, false, false, false, false, false] rfl rfl (any_of HT_.out (by kernel_rfl)) (fun _ _ _ h => h) (Or.inl ⟨by rfl, ?_⟩) ?_ ?_
         rotate_left
         ·intro w'
          go_simp
          with_reducible rfl
         rotate_left
         ·simp only [Act.put, pS_, pZ_, pC_, i64_w, i32_w]
          rfl
         refine pure_ (i := 19) (N := some 69) (v := ?_) (a' := ?_) #[true, true, true, true, true, true, true, true, true, true, true, true, true, true, true, true, true, true, true, true, false, false, false, false, false, false, false, false] rfl rfl (any_of HT_.out (by kernel_rfl)) (fun _ _ _ h => h) (Or.inl ⟨by rfl, ?_⟩) ?_ ?_
         rotate_left
         ·intro w'
          go_simp
          with_reducible rfl
         rotate_left
         ·simp only [Act.put, pS_, pZ_, pC_, i64_w, i32_w]
          rfl
         refine pure_ (i := 20) (N := some 70) (v := ?_) (a' := ?_) #[true, true, true, true, true, true, true, true, true, true, true, true, true, true, true, true, true, true, true, true, true, false, false, false, false, false, false, false] rfl rfl (any_of HT_.out (by kernel_rfl)) (fun _ _ _ h => h) (Or.inl ⟨by rfl, ?_⟩) ?_ ?_
         rotate_left
         ·intro w'
          go_simp
          with_reducible rfl
         rotate_left
         ·simp only [Act.put, pS_, pZ_, pC_, i64_w, i32_w]
          rfl
         refine pure_ (i := 21) (N := some 71) (v := ?_) (a' := ?_) #[true, true, true, true, true, true, true, true, true, true, true, true, true, true, true, true, true, true, true, true, true, true, false, false, false, false, false, false] rfl rfl (any_of HT_.out (by kernel_rfl)) (fun _ _ _ h => h) (Or.inl ⟨by rfl, ?_⟩) ?_ ?_
         rotate_left
         ·intro w'
          go_simp
          with_reducible rfl
         rotate_left
         ·simp only [Act.put, pS_, pZ_, pC_, i64_w, i32_w]
          rfl
         refine pure_ (i := 22) (N := some 72) (v := ?_) (a' := ?_) #[true, true, true, true, true, true, true, true, true, true, true, true, true, true, true, true, true, true, true, true, true, true, true, false, false, false, false, false] rfl rfl (any_of HT_.out (by kernel_rfl)) (fun _ _ _ h => h) (Or.inl ⟨by rfl, ?_⟩) ?_ ?_
         rotate_left
         ·intro w'
          go_simp
          with_reducible rfl
         rotate_left
         ·simp only [Act.put, pS_, pZ_, pC_, i64_w, i32_w]
          rfl
         refine pure_ (i := 23) (N := some 73) (v := ?_) (a' := ?_) #[true, true, true, true, true, true, true, true, true, true, true, true, true, true, true, true, true, true, true, true, true, true, true, true, false, false, false, false] rfl rfl (any_of HT_.out (by kernel_rfl)) (fun _ _ _ h => h) (Or.inl ⟨by rfl, ?_⟩) ?_ ?_
         rotate_left
         ·intro w'
          go_simp
          with_reducible rfl
         rotate_left
         ·simp only [Act.put, pS_, pZ_, pC_, i64_w, i32_w]
          rfl
         refine pure_ (i := 24) (N := some 74) (v := ?_) (a' := ?_) #[true, true, true, true, true, true, true, true, true, true, true, true, true, true, true, true, true, true, true, true, true, true, true, true, true, false, false, false] rfl rfl (any_of HT_.out (by kernel_rfl)) (fun _ _ _ h => h) (Or.inl ⟨by rfl, ?_⟩) ?_ ?_
         rotate_left
         ·intro w'
          go_simp
          with_reducible rfl
         rotate_left
         ·simp only [Act.put, pS_, pZ_, pC_, i64_w, i32_w]
          rfl
         refine pure_ (i := 25) (N := some 75) (v := ?_) (a' := ?_) #[true, true, true, true, true, true, true, true, true, true, true, true, true, true, true, true, true, true, true, true, true, true, true, true, true, true, false, false] rfl rfl (any_of HT_.out (by kernel_rfl)) (fun _ _ _ h => h) (Or.inl ⟨by rfl, ?_⟩) ?_ ?_
         rotate_left
         ·intro w'
          go_simp
          with_reducible rfl
         rotate_left
         ·simp only [Act.put, pS_, pZ_, pC_, i64_w, i32_w]
          rfl
         refine pure_ (i := 26) (N := some 76) (v := ?_) (a' := ?_) #[true, true, true, true, true, true, true, true, true, true, true, true, true, true, true, true, true, true, true, true, true, true, true, true, true, true, true, false] rfl rfl (any_of HT_.out (by kernel_rfl)) (fun _ _ _ h => h) (Or.inl ⟨by rfl, ?_⟩) ?_ ?_
         rotate_left
         ·intro w'
          go_simp
          with_reducible rfl
         rotate_left
         ·simp only [Act.put, pS_, pZ_, pC_, i64_w, i32_w]
          rfl
         refine pure_ (i := 27) (N := some 0) (v := ?_) (a' := ?_) #[true, true, true, true, true, true, true, true, true, true, true, true, true, true, true, true, true, true, true, true, true, true, true, true, true, true, true, true] rfl rfl (any_of HT_.out (by kernel_rfl)) (fun _ _ _ h => h) (Or.inl ⟨by rfl, ?_⟩) ?_ ?_
         rotate_left
         ·intro w'
          go_simp
          with_reducible rfl
         rotate_left
         ·simp only [Act.put, pS_, pZ_, pC_, i64_w, i32_w]
          rfl
         refine done_ (done_of HT_.out (by kernel_rfl)) ?_
         try go_wp2
         go_ret
         exact ⟨by rfl, by repeat ((with_reducible (exact HB.out)))⟩
        rw [if_neg c79] at H
        have c79b0 : (t137 == 0) = false := beq_eq_false_iff_ne.mpr c79
        have c79b1 : (t137 != 0) = true := bne_iff_ne.mpr c79
        exact absurd ((Option.some.inj H).trans HT.out) (by decide)
       rw [if_neg c78] at H
       have c78b0 : (t135 == t154 && (t136 == t155)) = false := by simpa using c78
       (try (have c78b1 : decide (t135 = t154 && (t136 == t155)) = false := by simpa using c78))
       (try (have c78b2 : (t135 == t154 && (t136 == t155)) = false := by simpa using c78))
       (try (have c78b3 : ¬ (t135 = t154 && (t136 == t155)) := by simpa using c78))
       clear c78
       exact absurd ((Option.some.inj H).trans HT.out) (by decide)
      rw [if_neg c76] at H
      have c76b0 : (t150 == t152 && (t151 == t153)) = false := by simpa using c76
      (try (have c76b1 : decide (t150 = t152 && (t151 == t153)) = false := by simpa using c76))
      (try (have c76b2 : (t150 == t152 && (t151 == t153)) = false := by simpa using c76))
      (try (have c76b3 : ¬ (t150 = t152 && (t151 == t153)) := by simpa using c76))
      clear c76
      exact absurd ((Option.some.inj H).trans HT.out) (by decide)
     rw [if_neg c73] at H
     have c73b0 : (t146 == t148 && (t147 == t149)) = false := by simpa using c73
     (try (have c73b1 : decide (t146 = t148 && (t147 == t149)) = false := by simpa using c73))
     (try (have c73b2 : (t146 == t148 && (t147 == t149)) = false := by simpa using c73))
     (try (have c73b3 : ¬ (t146 = t148 && (t147 == t149)) := by simpa using c73))
     clear c73
     exact absurd ((Option.some.inj H).trans HT.out) (by decide)
    replace c70 := Bool.eq_false_iff.mpr c70
    subst c70
    have H1 : (some false) = some r := by rw [if_neg (show ¬ (false = true) by decide)] at H; exact H
    clear H
    have H := H1
    clear H1
    exact absurd ((Option.some.inj H).trans HT.out) (by decide)
   replace c69 := Bool.eq_false_iff.mpr c69
   subst c69
   have H1 : (some false) = some r := by rw [if_neg (show ¬ (false = true) by decide)] at H; exact H
   clear H
   have H := H1
   clear H1
   exact absurd ((Option.some.inj H).trans HT.out) (by decide)

end Go.Proofs.YtgomlpndoolllaaDoor.HD
end

section
/- The given examples of the statements about measure: they hold; in the form of the printed contracts. -/
namespace Go.Proofs.YtgomlpndoolllaaDoor
open Go Go.RowKit Go.Proofs.YtgomlpndoolllaaDoorW.PrintWords Go.Proofs.YtgomlpndoolllaaDoorW.PrintLast
theorem head_true : HD.cleanselaw04_head.f 120 = some true := by decide +kernel
def cleanselaw04_head.f : Option Bool := some true
theorem cleanselaw04_head.calls (r : Bool) (w : World) (hG : Gl w) (h : cleanselaw04_head.f = some r) :
    Calls Tryd.prog 11 #[] w fun e w' => e = .returned (.bool r) ∧ Below w.heap.size w w' := by
  obtain rfl : true = r := by injection h
  exact HD.cleanselaw04_head.calls 120 true w hG rfl head_true
end Go.Proofs.YtgomlpndoolllaaDoor
end

section
/- What the contract of Of tells, in plain values. -/
namespace Go.Proofs.YtgomlpndoolllaaDoor.Pure
open Go Go.RowKit Go.Proofs.YtgomlpndoolllaaDoor.Q Go.Proofs.YtgomlpndoolllaaDoor.CL Go.Proofs.YtgomlpndoolllaaDoorW.PrintWords Go.Proofs.YtgomlpndoolllaaDoorW.PrintLast Go.Proofs.YtgomlpndoolllaaDoorW.PrintMore
set_option linter.unusedVariables false
set_option linter.unusedSimpArgs false

/-- How alike two texts are by their edit distance. -/
def alikeS (a b : List UInt8) : Int × Int := if max a.length b.length = 0 then (1, 1) else rat (max a.length b.length - dist a b) (max a.length b.length)
theorem alike_f (a b : ByteArray) (ha : a.toList.length ≤ 1000) (hb : b.toList.length ≤ 1000) : Ev (fun k => measure_Alike.f k a b) (alikeS a.toList b.toList) := by
  have e0 := tl_size a
  have e1 := tl_size b
  have hm : mx (a.size : Int) (b.size : Int) = ((max a.toList.length b.toList.length : Nat) : Int) := by rw [mx_nat, e0, e1]
  unfold alikeS
  refine Ev.congr (fun k => by unfold measure_Alike.f; rw [hm]) ?_
  by_cases h0 : max a.toList.length b.toList.length = 0
  · rw [if_pos h0]
    exact Ev.congr (fun k => by rw [if_pos (by omega)]) (Ev.now _)
  · rw [if_neg h0]
    refine Ev.congr (fun k => by rw [if_neg (by omega)]) (Ev.bind (edit_f a b ha hb) ?_)
    have hd := (dist_bounds a.toList b.toList).2.2
    have e2 : wrap64 (((max a.toList.length b.toList.length : Nat) : Int) - ((dist a.toList b.toList : Nat) : Int)) = ((max a.toList.length b.toList.length - dist a.toList b.toList : Nat) : Int) := by
      rw [i64_id (by omega) (by omega)]; omega
    rw [e2]
    exact Ev.bind (share_f _ _ (by omega) (by omega) (by omega)) (Ev.now _)
def jaroB (x y : ByteArray) : Int × Int := if 200 < x.size ∨ 200 < y.size then (0, 1) else jaroN x.size y.size (jA x) (jA y)
theorem jaroB_f (x y : ByteArray) : Ev (fun k => measure_Jaro.f k x y) (jaroB x y) := by
  unfold jaroB
  by_cases h : 200 < x.size ∨ 200 < y.size
  · rw [if_pos h]; exact jaro_long x y h
  · rw [if_neg h]; exact jaro_f x y (by omega) (by omega)
theorem jac_f (a b : List ByteArray) (h : (jOk a && jOk b) = true) (hn : a.length + b.length ≤ 1000000000) : Ev (fun k => measure_Jaccard.f k a b) (jacS (dataL a) (dataL b)) := by
  unfold jacS
  refine Ev.congr (fun k => by unfold measure_Jaccard.f; rw [if_pos h]) ?_
  have hl := jac_len (dataL a) (dataL b)
  have e : (dataL a).length = a.length := by unfold dataL; rw [List.length_map]
  have e2 : (dataL b).length = b.length := by unfold dataL; rw [List.length_map]
  by_cases h0 : (jFold (dataL a) (dataL b)).2.2.1 = 0
  · rw [if_pos h0]
    exact Ev.congr (fun k => by rw [if_pos h0]) (Ev.now _)
  · rw [if_neg h0]
    refine Ev.congr (fun k => by rw [if_neg h0]) (share_f _ _ (by omega) (j_le _ _) (by omega))
/-- The measures of texts. -/
def textS (m : Int) (a b : ByteArray) : Int × Int :=
  if m = 2 then alikeS (foldL a.data.toList) (foldL b.data.toList)
  else if m = 3 then jacS (sortU (wordsL a.data.toList)) (sortU (wordsL b.data.toList))
  else jaroB (ofL (foldL a.data.toList)) (ofL (foldL b.data.toList))
theorem size_dl (a : ByteArray) : a.data.toList.length = a.size := by rw [← tl_size, Go.ByteArray.toList_eq]
theorem dl_ofL (l : List UInt8) : (ofL l).data.toList = l := by rw [← Go.ByteArray.toList_eq]; exact tl_ofL l
theorem dataL_ofL (l : List (List UInt8)) : dataL (l.map ofL) = l := by
  unfold dataL
  rw [List.map_map]
  conv => rhs; rw [← List.map_id l]
  exact List.map_congr_left (fun x _ => dl_ofL x)
theorem fold_sz (a : ByteArray) : (ofL (foldL a.data.toList)).size ≤ a.size := by
  rw [ofL_size, ← size_dl]; exact foldL_len _
theorem tokens_ok (a : ByteArray) (h : a.size ≤ 1000) : jOk ((sortU (wordsL a.data.toList)).map ofL) = true := by
  have h1 := sortU_len (wordsL a.data.toList)
  have h2 := words_len a.data.toList
  rw [size_dl] at h2
  unfold jOk
  rw [Bool.and_eq_true, decide_eq_true_eq, List.length_map, List.all_eq_true]
  refine ⟨by omega, fun x hx => ?_⟩
  obtain ⟨y, hy, rfl⟩ := List.mem_map.1 hx
  have := word_len ((mem_sortU _ _).1 hy)
  rw [size_dl] at this
  rw [decide_eq_true_eq, ofL_size]
  omega
theorem text_f1 (a b : ByteArray) (ha : a.size ≤ 1000) (hb : b.size ≤ 1000) : Ev (fun k => measure_texts_1.f k a b) (textS 2 a b) := by
  have h1 := fold_sz a
  have h2 := fold_sz b
  have e := alike_f (ofL (foldL a.data.toList)) (ofL (foldL b.data.toList)) (by rw [tl_size]; omega) (by rw [tl_size]; omega)
  rw [tl_ofL, tl_ofL] at e
  unfold textS
  rw [if_pos rfl]
  refine Ev.congr (fun k => ?_) (Ev.bind e (Ev.now _))
  unfold measure_texts_1.f words_Fold.f
  rw [if_pos (by omega), if_pos (by omega), Option.bind_some, Option.bind_some]
theorem text_f3 (a b : ByteArray) (ha : a.size ≤ 1000) (hb : b.size ≤ 1000) : Ev (fun k => measure_texts_3.f k a b) (textS 4 a b) := by
  have e := jaroB_f (ofL (foldL a.data.toList)) (ofL (foldL b.data.toList))
  unfold textS
  rw [if_neg (by decide), if_neg (by decide)]
  refine Ev.congr (fun k => ?_) (Ev.bind e (Ev.now _))
  unfold measure_texts_3.f words_Fold.f
  rw [if_pos (by omega), if_pos (by omega), Option.bind_some, Option.bind_some]
theorem text_f2 (a b : ByteArray) (ha : a.size ≤ 1000) (hb : b.size ≤ 1000) : Ev (fun k => measure_texts_2.f k a b) (textS 3 a b) := by
  have l1 := sortU_len (wordsL a.data.toList)
  have l2 := words_len a.data.toList
  have l3 := sortU_len (wordsL b.data.toList)
  have l4 := words_len b.data.toList
  rw [size_dl] at l2 l4
  have e := jac_f ((sortU (wordsL a.data.toList)).map ofL) ((sortU (wordsL b.data.toList)).map ofL) (by rw [tokens_ok a ha, tokens_ok b hb]; rfl) (by rw [List.length_map, List.length_map]; omega)
  rw [dataL_ofL, dataL_ofL] at e
  unfold textS
  rw [if_neg (by decide), if_pos rfl]
  refine Ev.congr (fun k => ?_) (Ev.bind e (Ev.now _))
  unfold measure_texts_2.f words_Tokens.f
  rw [if_pos (by omega), if_pos (by omega), Option.bind_some, Option.bind_some]
/-- Is a value valid? -/
def valJ (c : Bool) (a0 a1 : Int) (a2 : ByteArray) : Bool :=
  if c = true then false else if a0 = 0 then (if 0 ≤ a1 then decide (a1 ≤ 0) else false) else if a0 = 1 then (if (a2.size : Int) > 200 then false else if 0 ≤ a1 then decide (a1 ≤ 0) else false)
  else if a0 = 2 then (if (-1000000000) ≤ a1 then decide (a1 ≤ 1000000000) else false) else if a0 = 3 then (if 0 ≤ a1 then decide (a1 ≤ 73048) else false) else if a0 = 4 then (if 0 ≤ a1 then decide (a1 ≤ 1) else false) else false
def valB (a0 a1 : Int) (a2 : ByteArray) : Bool := valJ (if a0 = 1 then false else a2.toList != ([] : List UInt8)) a0 a1 a2
theorem valid_f (a0 a1 : Int) (a2 : ByteArray) : Ev (fun k => value_Valid.f k a0 a1 a2) (valB a0 a1 a2) := by
  have h : ∀ c, Ev (fun k => value_Valid.j0 k c a0 a1 a2) (valJ c a0 a1 a2) := by
    intro c
    refine Ev.step (f := fun _ => some (valJ c a0 a1 a2)) (fun k => ?_) (Ev.now _)
    simp only [value_Valid.j0]
    unfold valJ
    (repeat' split) <;> first | rfl | contradiction
  unfold valB
  by_cases h1 : a0 = 1
  · rw [if_pos h1]
    exact Ev.congr (fun k => by unfold value_Valid.f; rw [if_pos h1]) (h false)
  · rw [if_neg h1]
    exact Ev.congr (fun k => by unfold value_Valid.f; rw [if_neg h1]) (h _)
def withE (r : Int × Int) : Int × Int × Int := (r.1, r.2, 0)
def ofT (m tol a0 a1 : Int) (a2 : ByteArray) (b0 b1 : Int) (b2 : ByteArray) : Int × Int × Int :=
  if m = 5 ∧ (tol < 0 ∨ 1000000000 ≤ tol) then (0, 0, 1)
  else if a0 = 0 ∨ b0 = 0 then (0, 1, 0)
  else if m = 1 then (if a0 = b0 ∧ a1 = b1 ∧ a2.toList = b2.toList then (1, 1, 0) else (0, 1, 0))
  else if a0 ≠ b0 ∨ (m = 5 ∧ a0 ≠ 2 ∧ a0 ≠ 3) ∨ (m ≠ 5 ∧ a0 ≠ 1) then (0, 0, 10)
  else if m = 5 then withE (nearS a1 b1 tol) else withE (textS m a2 b2)
/-- The similarity of two values by a measure, with the error's number. -/
def ofS (m tol a0 a1 : Int) (a2 : ByteArray) (b0 b1 : Int) (b2 : ByteArray) : Int × Int × Int :=
  if m < 1 ∨ 5 < m then (0, 0, 1) else if valB a0 a1 a2 = true then (if valB b0 b1 b2 = true then ofT m tol a0 a1 a2 b0 b1 b2 else (0, 0, 1)) else (0, 0, 1)
abbrev I64 (x : Int) : Prop := -9223372036854775808 ≤ x ∧ x < 9223372036854775808
theorem ofT_f (m tol a0 a1 : Int) (a2 : ByteArray) (b0 b1 : Int) (b2 : ByteArray) (hm : ¬ (m < 1 ∨ 5 < m)) (ht : I64 tol) (ha : I64 a1) (hb : I64 b1) (sa : a2.size ≤ 1000) (sb : b2.size ≤ 1000) :
    Ev (fun k => ofTail k m tol a0 a1 a2 b0 b1 b2) (ofT m tol a0 a1 a2 b0 b1 b2) := by
  unfold ofT
  split
  · rename_i h; exact Ev.congr (fun k => by unfold ofTail; rw [if_pos h]) (Ev.now _)
  · rename_i h1
    split
    · rename_i h; exact Ev.congr (fun k => by unfold ofTail; rw [if_neg h1, if_pos h]) (Ev.now _)
    · rename_i h2
      split
      · rename_i h3
        split
        · rename_i h; exact Ev.congr (fun k => by unfold ofTail; rw [if_neg h1, if_neg h2, if_pos h3, if_pos h]) (Ev.now _)
        · rename_i h; exact Ev.congr (fun k => by unfold ofTail; rw [if_neg h1, if_neg h2, if_pos h3, if_neg h]) (Ev.now _)
      · rename_i h3
        split
        · rename_i h; exact Ev.congr (fun k => by unfold ofTail; rw [if_neg h1, if_neg h2, if_neg h3, if_pos h]) (Ev.now _)
        · rename_i h4
          split
          · rename_i h5
            exact Ev.congr (fun k => by unfold ofTail; rw [if_neg h1, if_neg h2, if_neg h3, if_neg h4, if_pos h5]) (Ev.bind (near_f a1 b1 tol ha hb ht) (Ev.now _))
          · rename_i h5
            by_cases h6 : m = 2
            · subst h6
              exact Ev.congr (fun k => by unfold ofTail; rw [if_neg h1, if_neg h2, if_neg h3, if_neg h4, if_neg h5, if_pos rfl]) (Ev.bind (text_f1 a2 b2 sa sb) (Ev.now _))
            · by_cases h7 : m = 3
              · subst h7
                exact Ev.congr (fun k => by unfold ofTail; rw [if_neg h1, if_neg h2, if_neg h3, if_neg h4, if_neg h5, if_neg h6, if_pos rfl]) (Ev.bind (text_f2 a2 b2 sa sb) (Ev.now _))
              · obtain rfl : m = 4 := by omega
                exact Ev.congr (fun k => by unfold ofTail; rw [if_neg h1, if_neg h2, if_neg h3, if_neg h4, if_neg h5, if_neg h6, if_neg h7]) (Ev.bind (text_f3 a2 b2 sa sb) (Ev.now _))
theorem of_f (m tol a0 a1 : Int) (a2 : ByteArray) (b0 b1 : Int) (b2 : ByteArray) (hm : (Lit.int .i64 m).wf = true) (ht : I64 tol) (ha : I64 a1) (hb : I64 b1) (sa : a2.size ≤ 1000) (sb : b2.size ≤ 1000) :
    Ev (fun k => measure_Of.f k m tol a0 a1 a2 b0 b1 b2) (ofS m tol a0 a1 a2 b0 b1 b2) := by
  unfold ofS
  refine Ev.congr (fun k => by unfold measure_Of.f; rw [if_pos hm]) ?_
  by_cases h : m < 1 ∨ 5 < m
  · rw [if_pos h]
    exact Ev.congr (fun k => by rw [if_pos h]) (Ev.now _)
  · rw [if_neg h]
    refine Ev.congr (fun k => by rw [if_neg h]) (Ev.bind (valid_f a0 a1 a2) ?_)
    cases valB a0 a1 a2 with
    | false => exact Ev.congr (fun k => by rw [if_neg (by simp)]) (by rw [if_neg (by simp)]; exact Ev.now _)
    | true =>
      rw [if_pos rfl]
      refine Ev.congr (fun k => by rw [if_pos rfl]) (Ev.bind (valid_f b0 b1 b2) ?_)
      cases valB b0 b1 b2 with
      | false => exact Ev.congr (fun k => by rw [if_neg (by simp)]) (by rw [if_neg (by simp)]; exact Ev.now _)
      | true =>
        rw [if_pos rfl]
        exact Ev.congr (fun k => by rw [if_pos rfl]) (ofT_f m tol a0 a1 a2 b0 b1 b2 h ht ha hb sa sb)
end Go.Proofs.YtgomlpndoolllaaDoor.Pure
end

section
/- What the printed Few tells. -/
namespace Go.Proofs.YtgomlpndoolllaaDoor.Pure
open Go Go.RowKit Go.Proofs.YtgomlpndoolllaaDoor.Q Go.Proofs.YtgomlpndoolllaaDoorW.PrintWords Go.Proofs.YtgomlpndoolllaaDoorW.PrintLast Go.Proofs.YtgomlpndoolllaaDoorW.PrintMore
set_option linter.unusedVariables false
set_option linter.unusedSimpArgs false

def FewP (l : List ByteArray) : Prop := l.length ≤ 40 ∧ ∀ x ∈ l, x.size ≤ 100
theorem few_l0 (xs : List (List ByteArray)) (hn : xs.length < 1000) : ∀ (d i : Nat), d + i = xs.length → ∃ b, Ev (fun k => cleanseref04_Few.l0 k xs i) b ∧ (b = true → ∀ l ∈ xs.drop i, FewP l)
  | 0, i, h => ⟨true, Ev.step (f := fun _ => some true) (fun k => by simp only [cleanseref04_Few.l0]; rw [if_neg (by omega)]) (Ev.now _), fun _ => by rw [List.drop_eq_nil_of_le (by omega)]; simp⟩
  | d + 1, i, h => by
    have hi : i < xs.length := by omega
    have hr : rd_L5 xs (i : Int) = xs[i] := by simp [rd_L5, List.getD_eq_getElem?_getD, hi]
    rw [List.drop_eq_getElem_cons hi]
    by_cases hb : (xs[i].length : Int) > 40
    · exact ⟨false, Ev.step (f := fun _ => some false) (fun k => by simp only [cleanseref04_Few.l0]; rw [if_pos (by omega), if_pos (by omega), hr, if_pos hb]) (Ev.now _), fun h => (by cases h)⟩
    · obtain ⟨b1, hs, hs1⟩ := short_f 100 xs[i] (by omega)
      cases b1 with
      | false =>
        refine ⟨false, Ev.step (f := fun k => (cleanseref04_Short.f k 100 xs[i]).bind fun t => if t = true then cleanseref04_Few.l0 k xs (wrap64 ((i : Int) + 1)) else some false) (fun k => by simp only [cleanseref04_Few.l0]; rw [if_pos (by omega), if_pos (by omega), hr, if_neg hb]) (Ev.bind hs (Ev.congr (fun k => by rw [if_neg (by simp)]) (Ev.now _))), fun h => (by cases h)⟩
      | true =>
        obtain ⟨b, hb1, hb2⟩ := few_l0 xs hn d (i + 1) (by omega)
        refine ⟨b, Ev.step (f := fun k => (cleanseref04_Short.f k 100 xs[i]).bind fun t => if t = true then cleanseref04_Few.l0 k xs (wrap64 ((i : Int) + 1)) else some false) (fun k => by simp only [cleanseref04_Few.l0]; rw [if_pos (by omega), if_pos (by omega), hr, if_neg hb]) (Ev.bind hs (Ev.congr (fun k => by rw [if_pos rfl, wrap_suc _ (by omega)]) hb1)), fun hbt l hl => ?_⟩
        rcases List.mem_cons.1 hl with e | e
        · subst e; exact ⟨by omega, fun x hx => Int.ofNat_le.1 (hs1.1 rfl x hx)⟩
        · exact hb2 hbt l e
theorem few_f (xs : List (List ByteArray)) (hn : xs.length < 1000) : ∃ b, Ev (fun k => cleanseref04_Few.f k xs) b ∧ (b = true → ∀ l ∈ xs, FewP l) := few_l0 xs hn xs.length 0 rfl
theorem few_ok {l : List ByteArray} (h : FewP l) : jOk l = true := by
  unfold jOk
  rw [Bool.and_eq_true, decide_eq_true_eq, List.all_eq_true]
  exact ⟨Nat.le_trans h.1 (by decide), fun x hx => by rw [decide_eq_true_eq]; exact Nat.le_trans (h.2 x hx) (by decide)⟩
end Go.Proofs.YtgomlpndoolllaaDoor.Pure
end

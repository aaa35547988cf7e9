/- Parts of the proof of Lists: words, contracts and plain laws. -/
import Derived.Test.YtiffkknhnmpgbaaDoorCards
import Derived.Test.YtiffkknhnmpgbaaDoorTie
import Derived.WalkKit
import Derived.ProofKit
import Derived.OpenShut
import Derived.ChangeSame
import Derived.LaidMore
import Derived.Lib.LaidTab
import Derived.Deep.DeepHandedRow
import Derived.Test.YtiffkknhnmpgbaaDoorLists15
/- What the rows' list of package-level variables gives: the two ratios in their cells; a start for the witness. -/
namespace Go.Proofs.YtiffkknhnmpgbaaDoor
open Go.ChangeShapes Go.WideShapes Go.ChangeAt Go.RowKit
set_option linter.unusedVariables false
abbrev laidL : List (String × DataW Unit) := [("cleanse/measure.none", Rows.laid_cleanse_measure_none), ("cleanse/measure.full", Rows.laid_cleanse_measure_full)]
theorem gNone : Tryd.prog.globalNamed "cleanse/measure.none" = some 0 := by kernel_rfl
theorem gFull : Tryd.prog.globalNamed "cleanse/measure.full" = some 1 := by kernel_rfl
theorem tNone : (Tryd.prog.globals[0]?).map (·.type) = some 41 := by kernel_rfl
theorem tFull : (Tryd.prog.globals[1]?).map (·.type) = some 41 := by kernel_rfl
theorem cellsR : Tryd.prog.cellsOf 41 = 2 := by kernel_rfl
theorem cells3 : Tryd.prog.cellsOf 3 = 1 := by kernel_rfl
set_option maxRecDepth 100000 in
theorem ratio_cells {enc : TypeId × Value → Unit} {W : World} {base : Nat} {sp : Nat → Bool} {held : Bool} {fuel : Nat} {cs : List Value} {a b : Int} {ps : List MemPlace}
    (h : DataW.trod enc Tryd.prog W base sp held fuel 41 cs = some (.agg [.lit (.int .i64 a), .lit (.int .i64 b)], ps)) : cs = [.int .i64 a, .int .i64 b] := by
  obtain ⟨y0, y1, n, hx, hl, h0, h1⟩ := trod_struct2 Tryd.underlying41 h
  rw [cellsR] at hl
  match cs, hl with
  | [c0, c1], _ =>
    rw [show Tryd.prog.cellsOf _ = 1 from cells3] at h0 h1
    obtain ⟨x0, e0, f0, _⟩ := DataW.trod_int Tryd.underlying3 h0
    obtain ⟨x1, e1, f1, _⟩ := DataW.trod_int Tryd.underlying3 h1
    simp only [List.drop_zero, List.take_succ_cons, List.take_zero, List.drop_succ_cons, List.cons.injEq, and_true] at e0 e1
    rw [f0, f1] at hx
    simp only [Prod.mk.injEq, DataW.agg.injEq, List.cons.injEq, DataW.lit.injEq, Lit.int.injEq, true_and, and_true] at hx
    rw [e0, e1, hx.1.1, hx.1.2]
theorem laid_gl {W : World} (h : laidMetH Tryd.prog laidL W) : Gl W := by
  obtain ⟨ps, ⟨g1, t1, cs1, f1, p1, q1, hg1, ht1, hv1, hd1, hrest, _⟩, _⟩ := h
  obtain ⟨g2, t2, cs2, f2, p2, q2, hg2, ht2, hv2, hd2, _, _⟩ := hrest
  obtain rfl := Option.some.inj (gNone.symm.trans hg1)
  obtain rfl := Option.some.inj (gFull.symm.trans hg2)
  obtain rfl := Option.some.inj (tNone.symm.trans ht1)
  obtain rfl := Option.some.inj (tFull.symm.trans ht2)
  have e1 := ratio_cells hd1
  have e2 := ratio_cells hd2
  have c1 := fun i => World.var?_cell gNone hv1 i
  have c2 := fun i => World.var?_cell gFull hv2 i
  have k1 : cs1 = #[.int .i64 0, .int .i64 1] := by cases cs1; simpa using e1
  have k2 : cs2 = #[.int .i64 1, .int .i64 1] := by cases cs2; simpa using e2
  subst k1 k2
  exact ⟨c2 0, c2 1, c1 0, c1 1⟩
end Go.Proofs.YtiffkknhnmpgbaaDoor

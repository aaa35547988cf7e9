/- Parts of the proof of Lists: words, contracts and plain laws. -/
import Derived.Test.YtiffkknhnmpgbaaDoorProg
import Derived.Test.YtiffkknhnmpgbaaDoorLists8
import Derived.Test.YtiffkknhnmpgbaaDoorLists12
import Derived.Test.YtiffkknhnmpgbaaDoorLists14
/- What the two package-level variables measure.full and measure.none hold, and the load of each. -/
namespace Go.Proofs.YtiffkknhnmpgbaaDoor
open Go Go.RowKit Go.Proofs.YtiffkknhnmpgbaaDoorW.PrintWords Go.Proofs.YtiffkknhnmpgbaaDoorW.PrintLast
def Gl (w : World) : Prop := w.cell? ⟨1, 0, none⟩ = some (.int .i64 1) ∧ w.cell? ⟨1, 1, none⟩ = some (.int .i64 1) ∧ w.cell? ⟨0, 0, none⟩ = some (.int .i64 0) ∧ w.cell? ⟨0, 1, none⟩ = some (.int .i64 1)
theorem Gl.below {w W : World} (h : Gl w) (hb : Below w.heap.size w W) : Gl W :=
  ⟨(hb.cell (World.block_lt_of_cell? w _ h.1)).trans h.1, (hb.cell (World.block_lt_of_cell? w _ h.2.1)).trans h.2.1,
   (hb.cell (World.block_lt_of_cell? w _ h.2.2.1)).trans h.2.2.1, (hb.cell (World.block_lt_of_cell? w _ h.2.2.2)).trans h.2.2.2⟩
section
variable {ops : Array Oper} {rest : List Oper} {o : Oper} {a : Act} {Q : Exit → Act → World → Prop} {W : World}
theorem gate_op {op : Op} (_ho : o.op = op) (h : wpList Tryd.prog ops Q (o :: rest) a W) : wpList Tryd.prog ops Q (o :: rest) a W := h
theorem gl1_event (hgd : o.guard = none) {N : Tmp} (_hd : o.dst = some N) (ho : o.op = .load 41 (.global 1)) (h : Gl W)
    (hk : wpList Tryd.prog ops Q rest (a.put o.dst (.agg #[.int .i64 1, .int .i64 1])) W) : wpList Tryd.prog ops Q (o :: rest) a W := by
  refine Kd.event_run hgd (v := .agg #[.int .i64 1, .int .i64 1]) ?_ hk
  unfold execOp
  simp only [ho, Act.eval]
  obtain ⟨h0, h1, h2, h3⟩ := h
  go_simp
theorem gl0_event (hgd : o.guard = none) {N : Tmp} (_hd : o.dst = some N) (ho : o.op = .load 41 (.global 0)) (h : Gl W)
    (hk : wpList Tryd.prog ops Q rest (a.put o.dst (.agg #[.int .i64 0, .int .i64 1])) W) : wpList Tryd.prog ops Q (o :: rest) a W := by
  refine Kd.event_run hgd (v := .agg #[.int .i64 0, .int .i64 1]) ?_ hk
  unfold execOp
  simp only [ho, Act.eval]
  obtain ⟨h0, h1, h2, h3⟩ := h
  go_simp
end
end Go.Proofs.YtiffkknhnmpgbaaDoor

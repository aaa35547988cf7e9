/- The given examples of the statements about measure: they hold; in the form of the printed contracts. -/
import Derived.Test.YtgomlpndoolllaaDoorHD3
namespace Go.Proofs.YtgomlpndoolllaaDoor
open Go Go.RowKit Go.Proofs.YtgomlpndoolllaaDoorW.PrintWords Go.Proofs.YtgomlpndoolllaaDoorW.PrintLast
theorem head_true : HD.cleanselaw04_head.f 120 = some true := by decide +kernel
def cleanselaw04_head.f : Option Bool := some true
theorem cleanselaw04_head.calls (r : Bool) (w : World) (hG : Gl w) (h : cleanselaw04_head.f = some r) :
    Calls Tryd.prog 11 #[] w fun e w' => e = .returned (.bool r) ∧ Below w.heap.size w w' := by
  obtain rfl : true = r := by injection h
  exact HD.cleanselaw04_head.calls 120 true w hG rfl head_true
end Go.Proofs.YtgomlpndoolllaaDoor

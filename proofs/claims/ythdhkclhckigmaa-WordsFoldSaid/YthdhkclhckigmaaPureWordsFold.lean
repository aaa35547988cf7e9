/- The plain law of WordsFold: the printed function tells true from some number of rounds on. -/
import Derived.Test.YthdhkclhckigmaaK4
namespace Go.Proofs.Ythdhkclhckigmaa.Pure
open Go.Proofs.Ythdhkclhckigmaa.Q
theorem WordsFold : cleanselaw03_WordsFold.Pure := fold_true
end Go.Proofs.Ythdhkclhckigmaa.Pure

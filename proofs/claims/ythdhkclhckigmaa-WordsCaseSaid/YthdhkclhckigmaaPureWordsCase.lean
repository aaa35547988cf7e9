/- The plain law of WordsCase: the printed function tells true from some number of rounds on. -/
import Derived.Test.YthdhkclhckigmaaK2
namespace Go.Proofs.Ythdhkclhckigmaa.Pure
open Go.Proofs.Ythdhkclhckigmaa.Q
theorem WordsCase : cleanselaw03_WordsCase.Pure := case_true
end Go.Proofs.Ythdhkclhckigmaa.Pure

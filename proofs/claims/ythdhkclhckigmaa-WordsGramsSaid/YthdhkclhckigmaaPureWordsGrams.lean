/- The plain law of WordsGrams: the printed function tells true from some number of rounds on. -/
import Derived.Test.YthdhkclhckigmaaK4
namespace Go.Proofs.Ythdhkclhckigmaa.Pure
open Go.Proofs.Ythdhkclhckigmaa.Q
theorem WordsGrams : cleanselaw03_WordsGrams.Pure := wgrams_true
end Go.Proofs.Ythdhkclhckigmaa.Pure

/- The plain law of WordsJoins: the printed function tells true from some number of rounds on. -/
import Derived.Test.YthdhkclhckigmaaK3
namespace Go.Proofs.Ythdhkclhckigmaa.Pure
open Go.Proofs.Ythdhkclhckigmaa.Q
theorem WordsJoins : cleanselaw03_WordsJoins.Pure := joins_true
end Go.Proofs.Ythdhkclhckigmaa.Pure

/- The plain law of WordsTokens: the printed function tells true from some number of rounds on. -/
import Derived.Test.YthdhkclhckigmaaK3
namespace Go.Proofs.Ythdhkclhckigmaa.Pure
open Go.Proofs.Ythdhkclhckigmaa.Q
theorem WordsTokens : cleanselaw03_WordsTokens.Pure := tokens_true
end Go.Proofs.Ythdhkclhckigmaa.Pure

/- The plain law of WordsCommon: the printed function tells true from some number of rounds on. -/
import Derived.Test.YthdhkclhckigmaaK3
namespace Go.Proofs.Ythdhkclhckigmaa.Pure
open Go.Proofs.Ythdhkclhckigmaa.Q
theorem WordsCommon : cleanselaw03_WordsCommon.Pure := wcommon_true
end Go.Proofs.Ythdhkclhckigmaa.Pure

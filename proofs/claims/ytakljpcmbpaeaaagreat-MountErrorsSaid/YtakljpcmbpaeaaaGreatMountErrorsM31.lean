/- breakwaterref06: Do, by the calculus: a read. -/
import Derived.Test.YtakljpcmbpaeaaaGreatMountErrorsM30
namespace Go.Proofs.YtakljpcmbpaeaaaGreat
open Go.RowKit
set_option linter.unusedSimpArgs false
set_option linter.unusedVariables false

abbrev mny : Nat → Nat := fun _ => 2000000
end Go.Proofs.YtakljpcmbpaeaaaGreat

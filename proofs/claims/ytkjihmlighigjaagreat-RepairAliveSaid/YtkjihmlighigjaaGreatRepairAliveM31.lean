/- breakwaterref06: Do, by the calculus: a read. -/
import Derived.Test.YtkjihmlighigjaaGreatRepairAliveM30
set_option linter.unusedSimpArgs false
set_option linter.unusedVariables false
namespace Go.Proofs.YtkjihmlighigjaaGreat
open Go.RowKit

abbrev mny : Nat → Nat := fun _ => 2000000
end Go.Proofs.YtkjihmlighigjaaGreat

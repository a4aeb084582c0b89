/- Typed functions. (printed by wip/sx) -/
import Derived.Test.YtakljpcmbpaeaaaGreatMountJoinsM36
import Derived.Test.YtakljpcmbpaeaaaGreatMountJoinsM39
import Derived.Test.YtakljpcmbpaeaaaGreatMountJoinsM40
import Derived.Test.YtakljpcmbpaeaaaGreatMountJoinsM37
set_option linter.unusedSimpArgs false
set_option linter.unusedVariables false
namespace Go.Proofs.YtakljpcmbpaeaaaGreat
open Go.RowKit
end Go.Proofs.YtakljpcmbpaeaaaGreat

/- The evaluator, 2: code, calls, whole functions. -/
import Derived.Test.YtakljpcmbpaeaaaGreatMountErrorsM32
namespace Go.Proofs.YtakljpcmbpaeaaaGreat
open Go.RowKit
set_option linter.unusedSimpArgs false
set_option linter.unusedVariables false

abbrev Res := Option (AEx × Tr V × Tr Blk' × Nat)
def rloop (body : Tr V → Tr Blk' → Nat → Res) : Nat → Tr V → Tr Blk' → Nat → Res
  | 0, _, _, _ => none
  | m + 1, T, G, c => match body T G c with
    | some (.normal, T', G', c') => rloop body m T' G' c'
    | r => r
end Go.Proofs.YtakljpcmbpaeaaaGreat

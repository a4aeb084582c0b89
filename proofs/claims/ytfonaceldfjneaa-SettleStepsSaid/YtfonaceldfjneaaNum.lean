/- num: the walks of Get, Fits, Put. -/
import Derived.Test.YtfonaceldfjneaaChecked
import Derived.Test.YtfonaceldfjneaaPlain
import Derived.WalkKit
import Derived.WalkSpells
import Derived.WalkLawsBesides
import Derived.Deep.QuietTactic
import Derived.BigQuiet
import Derived.Lib.Hide
import Derived.Laws.CopyOwn
import Derived.Deep.LoopGhost
namespace Go.Proofs.Ytfonaceldfjneaa
open Go.RowKit

theorem may_any (n : Int) (w : World) :
    Calls Try.prog 70 #[.int .i64 n] w fun e w' => e = .returned (.bool (decide (1 ≤ n ∧ n ≤ 6))) ∧ w = w' := by
  by_cases h1 : 1 ≤ n
  · by_cases h2 : n ≤ 6
    · go_enter Try.func70, Try.ntmps70
      go_wp2
      go_ret
      exact ⟨by simp [h1, h2], rfl⟩
    · go_enter Try.func70, Try.ntmps70
      go_wp2
      go_ret
      exact ⟨by simp [h2], rfl⟩
  · go_enter Try.func70, Try.ntmps70
    go_wp2
    go_ret
    exact ⟨by simp; omega, rfl⟩
theorem may_yes (n : Int) (w : World) (h1 : 1 ≤ n) (h2 : n ≤ 6) :
    Calls Try.prog 70 #[.int .i64 n] w fun e w' => e = .returned (.bool true) ∧ w = w' :=
  (may_any n w).mono fun _ _ h => by rw [decide_eq_true (show 1 ≤ n ∧ n ≤ 6 from ⟨h1, h2⟩)] at h; exact h
theorem may_no (n : Int) (w : World) (h : ¬ (1 ≤ n ∧ n ≤ 6)) :
    Calls Try.prog 70 #[.int .i64 n] w fun e w' => e = .returned (.bool false) ∧ w = w' :=
  (may_any n w).mono fun _ _ h' => by rw [decide_eq_false h] at h'; exact h'

end Go.Proofs.Ytfonaceldfjneaa

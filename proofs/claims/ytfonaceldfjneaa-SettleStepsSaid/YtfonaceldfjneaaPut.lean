/- num: the walks of most, Fits, Put. -/
import Derived.Test.YtfonaceldfjneaaNum
import Derived.Test.YtfonaceldfjneaaWords
namespace Go.Proofs.Ytfonaceldfjneaa
open Go.RowKit

theorem most_any (n : Int) (w : World) (h1 : 1 ≤ n) (h2 : n ≤ 6) :
    Calls Try.prog 76 #[.int .i64 n] w fun e w' => e = .returned (.int .i64 (mostW n.toNat)) ∧ w = w' := by
  rcases (show n = 1 ∨ n = 2 ∨ n = 3 ∨ n = 4 ∨ n = 5 ∨ n = 6 by omega) with rfl | rfl | rfl | rfl | rfl | rfl
  all_goals
    clear h1 h2
    go_enter Try.func76, Try.ntmps76
    go_wp2
    all_goals first
      | exact absurd ‹(1099511627776 : Int) < _› (by decide +kernel)
      | exact absurd ‹_ ≤ (1099511627776 : Int)› (by decide +kernel)
      | (go_ret; exact ⟨congrArg (fun x => Ending.returned (.int .i64 x)) (by decide +kernel), rfl⟩)

theorem Fits_any (n wd : Int) (w : World) :
    Calls Try.prog 71 #[.int .i64 n, .int .i64 wd] w fun e w' => e = .returned (.bool (fitsB n wd)) ∧ w = w' := by
  by_cases h : 1 ≤ wd ∧ wd ≤ 6
  · by_cases h0 : 0 ≤ n
    · have hf : fitsB n wd = decide (n ≤ (mostW wd.toNat : Int)) := by simp [fitsB, h.1, h.2, h0]
      rw [hf]
      clear hf
      have hm := most_any wd w h.1 h.2
      generalize mostW wd.toNat = q at *
      have HM := Lib.hid hm; clear hm
      go_enter Try.func71, Try.ntmps71
      go_wp2_with (first
        | (go_at_call 70; refine (may_yes _ _ h.1 h.2).mono ?_; rintro e w' ⟨rfl, rfl⟩)
        | (go_at_call 76; refine (HM.out).mono ?_; rintro e w' ⟨rfl, rfl⟩))
      all_goals go_ret
      all_goals exact ⟨rfl, rfl⟩
    · have hf : fitsB n wd = false := by simp [fitsB, h0]
      rw [hf]
      clear hf
      go_enter Try.func71, Try.ntmps71
      go_wp2_with (first
        | (go_at_call 70; refine (may_yes _ _ h.1 h.2).mono ?_; rintro e w' ⟨rfl, rfl⟩))
      go_ret
      exact ⟨rfl, rfl⟩
  · have hf : fitsB n wd = false := decide_eq_false (by omega)
    rw [hf]
    clear hf
    go_enter Try.func71, Try.ntmps71
    go_wp2_with (first
        | (go_at_call 70; refine (may_no _ _ h).mono ?_; rintro e w' ⟨rfl, rfl⟩))
    go_ret
    exact ⟨rfl, rfl⟩
end Go.Proofs.Ytfonaceldfjneaa

/- num: the walks of Get, Fits, Put. -/
import Derived.Test.YtkmiknefbbjggaaChecked
import Derived.Test.YtkmiknefbbjggaaPlain
import Derived.WalkKit
import Derived.WalkSpells
import Derived.WalkLawsBesides
import Derived.Deep.QuietTactic
import Derived.BigQuiet
import Derived.Lib.Hide
import Derived.Laws.CopyOwn
import Derived.Deep.LoopGhost
namespace Go.Proofs.Ytkmiknefbbjggaa
open Go.RowKit

theorem may_any (n : Int) (w : World) :
    Calls Try.prog 54 #[.int .i64 n] w fun e w' => e = .returned (.bool (decide (1 ≤ n ∧ n ≤ 6))) ∧ w = w' := by
  by_cases h1 : 1 ≤ n
  · by_cases h2 : n ≤ 6
    · go_enter Try.func54, Try.ntmps54
      go_wp2
      go_ret
      exact ⟨by simp [h1, h2], rfl⟩
    · go_enter Try.func54, Try.ntmps54
      go_wp2
      go_ret
      exact ⟨by simp [h2], rfl⟩
  · go_enter Try.func54, Try.ntmps54
    go_wp2
    go_ret
    exact ⟨by simp; omega, rfl⟩
theorem may_yes (n : Int) (w : World) (h1 : 1 ≤ n) (h2 : n ≤ 6) :
    Calls Try.prog 54 #[.int .i64 n] w fun e w' => e = .returned (.bool true) ∧ w = w' :=
  (may_any n w).mono fun _ _ h => by rw [decide_eq_true (show 1 ≤ n ∧ n ≤ 6 from ⟨h1, h2⟩)] at h; exact h
theorem may_no (n : Int) (w : World) (h : ¬ (1 ≤ n ∧ n ≤ 6)) :
    Calls Try.prog 54 #[.int .i64 n] w fun e w' => e = .returned (.bool false) ∧ w = w' :=
  (may_any n w).mono fun _ _ h' => by rw [decide_eq_false h] at h'; exact h'

set_option maxHeartbeats 400000 in
theorem get_in (s : ByteArray) (a n : Nat) (w : World) (hs : s.size ≤ maxLen) (h1 : 1 ≤ n) (h2 : n ≤ 6) (h3 : a + n ≤ s.size) :
    Calls Try.prog 39 #[.string s, .int .i64 a, .int .i64 n] w fun e w' => e = .returned (.tuple #[.int .i64 (getS s.data.toList a n).1, .int .i64 (getS s.data.toList a n).2]) ∧ w = w' := by
  unfold maxLen at hs
  have b1 : decide ((a : Int) < 0) = false := by simp
  have b2 : decide ((s.size : Int) < (a : Int)) = false := by simp; omega
  have b2' : decide (s.size < a) = false := by simp; omega
  have b3 : decide ((s.size : Int) - (a : Int) < (n : Int)) = false := by simp; omega
  go_enter Try.func39, Try.ntmps39
  go_wp2_with (go_at_call 54; refine (may_yes _ _ (by omega) (by omega)).mono ?_; rintro e w' ⟨rfl, rfl⟩)
  go_loop [6, 8, 31] (fun x _ i => ∃ k : Nat, k ≤ n ∧ i = .int .i64 k ∧ x = .int .i64 ((le ((s.data.toList.drop a).take k) : Nat) : Int)) (fun _ _ i => n - (intOf i).toNat)
  case atStart => exact ⟨0, Nat.zero_le _, rfl, by simp [le]⟩
  case round =>
    obtain ⟨k, hk, rfl, rfl⟩ := hrel
    by_cases hlt : k < n
    · have hb : a + k < s.size := by omega
      go_wp2
      go_round
      case rel => exact ⟨k + 1, by omega, by go_num, by rw [or_byte2 s a k hb (by omega)]⟩
      case measure => simp [intOf]; omega
    · obtain rfl : k = n := by omega
      by_cases hbig : le ((s.data.toList.drop a).take k) ≤ 1099511627776
      · have hx := getS_ok ⟨h1, h2⟩ (by simpa using h3) hbig
        have HX := Lib.hid hx; clear hx
        go_wp2
        go_ret2
        exact ⟨by rw [HX.out]; rfl, rfl⟩
      · have hx := getS_big ⟨h1, h2⟩ (by simpa using h3) hbig
        have HX := Lib.hid hx; clear hx
        go_wp2
        go_ret2
        exact ⟨by rw [HX.out]; rfl, rfl⟩

theorem get_any (s : ByteArray) (a n : Int) (w : World) (hs : s.size ≤ maxLen) :
    Calls Try.prog 39 #[.string s, .int .i64 a, .int .i64 n] w fun e w' => e = .returned (.tuple #[.int .i64 (getS s.data.toList a n).1, .int .i64 (getS s.data.toList a n).2]) ∧ w = w' := by
  by_cases hn : 1 ≤ n ∧ n ≤ 6
  · by_cases ha : 0 ≤ a ∧ a + n ≤ s.size
    · obtain ⟨n', rfl⟩ := Int.eq_ofNat_of_zero_le (show 0 ≤ n by omega)
      obtain ⟨a', rfl⟩ := Int.eq_ofNat_of_zero_le ha.1
      exact get_in s a' n' w hs (by omega) (by omega) (by omega)
    · rw [getS_out hn (by simpa using ha)]
      unfold maxLen at hs
      by_cases h0 : a < 0
      · go_enter Try.func39, Try.ntmps39
        go_wp2_with (go_at_call 54; refine (may_yes _ _ (by omega) (by omega)).mono ?_; rintro e w' ⟨rfl, rfl⟩)
        go_ret2
        exact ⟨rfl, rfl⟩
      · by_cases h1 : s.size < a
        · go_enter Try.func39, Try.ntmps39
          go_wp2_with (go_at_call 54; refine (may_yes _ _ (by omega) (by omega)).mono ?_; rintro e w' ⟨rfl, rfl⟩)
          go_ret2
          exact ⟨rfl, rfl⟩
        · have h2 : (s.size : Int) - a < n := by omega
          go_enter Try.func39, Try.ntmps39
          go_wp2_with (go_at_call 54; refine (may_yes _ _ (by omega) (by omega)).mono ?_; rintro e w' ⟨rfl, rfl⟩)
          go_ret2
          exact ⟨rfl, rfl⟩
  · rw [getS_bad hn]
    go_enter Try.func39, Try.ntmps39
    go_wp2_with (go_at_call 54; refine (may_no _ _ hn).mono ?_; rintro e w' ⟨rfl, rfl⟩)
    go_ret2
    exact ⟨rfl, rfl⟩
end Go.Proofs.Ytkmiknefbbjggaa

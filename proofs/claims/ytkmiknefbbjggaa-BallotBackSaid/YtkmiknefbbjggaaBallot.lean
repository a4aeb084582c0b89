/- The walks of ballot: between, widths, may. -/
import Derived.Test.YtkmiknefbbjggaaFields
namespace Go.Proofs.Ytkmiknefbbjggaa
open Go.RowKit

def betB (n a b : Int) : Bool := decide (a ≤ n ∧ n ≤ b)
def mayB (i m b : Int) (v : Bs) : Bool := betB i 0 512 && (betB m 0 1099511627776 && (betB b 0 m && (decide (v.length ≤ 64) && ((b == 0) == v.isEmpty))))

theorem between_any (n a b : Int) (w : World) :
    Calls Try.prog 53 #[.int .i64 n, .int .i64 a, .int .i64 b] w fun e w' => e = .returned (.bool (betB n a b)) ∧ w = w' := by
  by_cases h1 : a ≤ n
  · by_cases h2 : n ≤ b
    · rw [show betB n a b = true from decide_eq_true ⟨h1, h2⟩]
      go_enter Try.func53, Try.ntmps53
      go_wp2
      go_ret
      exact ⟨rfl, rfl⟩
    · rw [show betB n a b = false from decide_eq_false (by omega)]
      go_enter Try.func53, Try.ntmps53
      go_wp2
      go_ret
      exact ⟨rfl, rfl⟩
  · rw [show betB n a b = false from decide_eq_false (by omega)]
    go_enter Try.func53, Try.ntmps53
    go_wp2
    go_ret
    exact ⟨rfl, rfl⟩

theorem widths_any (p : Value) (w : World) :
    Calls Try.prog 48 #[p] w fun e w' => e = .returned (.slice (some ⟨w.heap.size, 0, none⟩) 3 3) ∧ w' = w.alloc (.cells #[.int .i64 2, .int .i64 6, .int .i64 6] 3) := by
  go_enter Try.func48, Try.ntmps48
  go_wp2
  go_ret
  exact ⟨rfl, rfl⟩

theorem str_empty {v : ByteArray} (h : v.data.toList.isEmpty = true) : v = ⟨#[]⟩ := by
  rw [← mkS_self v, List.isEmpty_iff.1 h]; rfl
theorem str_some {v : ByteArray} (h : v.data.toList.isEmpty = false) : v.toList.isEmpty = false := by rw [Lib.toList_data]; exact h

/-- a record in memory -/
abbrev RecAt (w : World) (g : Nat) (t : TypeId) (i m b : Int) (v : ByteArray) : Prop := Blk w g t #[.int .i64 i, .int .i64 m, .int .i64 b, .string v]

set_option maxHeartbeats 1000000 in
set_option maxRecDepth 100000 in
theorem may_rec (g : Nat) (i m b : Int) (v : ByteArray) (w : World) (hv : v.size ≤ maxLen) (hblk : RecAt w g 87 i m b v) :
    Calls Try.prog 49 #[.pointer (some ⟨g, 0, none⟩)] w fun e w' => e = .returned (.bool (mayB i m b v.data.toList)) ∧ Below w.heap.size w w' := by
  unfold maxLen at hv
  obtain ⟨c0, c1, c2, c3⟩ := hblk.cells4
  have hm : mayB i m b v.data.toList = (betB i 0 512 && (betB m 0 1099511627776 && (betB b 0 m && (decide (v.size ≤ 64) && ((b == 0) == v.data.toList.isEmpty))))) := by rw [← bytes_length]; rfl
  rw [hm]
  clear hblk hm
  have q1 := fun w => between_any i 0 512 w
  have q2 := fun w => between_any m 0 1099511627776 w
  have q3 := fun w => between_any b 0 m w
  generalize hb1 : betB i 0 512 = B1 at *
  generalize hb2 : betB m 0 1099511627776 = B2 at *
  generalize hb3 : betB b 0 m = B3 at *
  clear hb1 hb2 hb3
  have Q1 := Lib.hid q1; clear q1
  have Q2 := Lib.hid q2; clear q2
  have Q3 := Lib.hid q3; clear q3
  cases B1 with
  | false =>
    go_enter Try.func49, Try.ntmps49
    go_wp2_with fail
    go_quiet ((go_at_call 53; (with_reducible exact quiet_left (Q1.out _))))
    go_wp2
    go_ret
    exact ⟨rfl, below_drewN (Below.refl _ _) _⟩
  | true =>
    cases B2 with
    | false =>
      go_enter Try.func49, Try.ntmps49
      go_wp2_with fail
      go_quiet ((go_at_call 53; first | (with_reducible exact quiet_left (Q1.out _)) | (with_reducible exact quiet_left (Q2.out _))))
      go_wp2
      go_ret
      exact ⟨rfl, below_drewN (Below.refl _ _) _⟩
    | true =>
      cases B3 with
      | false =>
        go_enter Try.func49, Try.ntmps49
        go_wp2_with fail
        go_quiet ((go_at_call 53; first | (with_reducible exact quiet_left (Q1.out _)) | (with_reducible exact quiet_left (Q2.out _)) | (with_reducible exact quiet_left (Q3.out _))))
        go_wp2
        go_ret
        exact ⟨rfl, below_drewN (Below.refl _ _) _⟩
      | true =>
        by_cases h64 : v.size ≤ 64
        · have d64 : decide ((v.size : Int) ≤ 64) = true := by simp; omega
          have d64' : decide (v.size ≤ 64) = true := by simpa using h64
          rw [d64']
          clear d64'
          by_cases h0 : b = 0
          · subst h0
            cases he : v.data.toList.isEmpty with
            | true =>
              obtain rfl := str_empty he
              clear he
              go_enter Try.func49, Try.ntmps49
              go_wp2_with fail
              go_quiet ((go_at_call 53; first | (with_reducible exact quiet_left (Q1.out _)) | (with_reducible exact quiet_left (Q2.out _)) | (with_reducible exact quiet_left (Q3.out _))))
              go_wp2
              go_ret
              exact ⟨rfl, below_drewN (Below.refl _ _) _⟩
            | false =>
              have he' := str_some he
              clear he
              go_enter Try.func49, Try.ntmps49
              go_wp2_with fail
              go_quiet ((go_at_call 53; first | (with_reducible exact quiet_left (Q1.out _)) | (with_reducible exact quiet_left (Q2.out _)) | (with_reducible exact quiet_left (Q3.out _))))
              go_wp2
              go_ret
              exact ⟨rfl, below_drewN (Below.refl _ _) _⟩
          · have h0' : (b == 0) = false := by simpa using h0
            rw [h0']
            clear h0
            cases he : v.data.toList.isEmpty with
            | true =>
              obtain rfl := str_empty he
              clear he
              go_enter Try.func49, Try.ntmps49
              go_wp2_with fail
              go_quiet ((go_at_call 53; first | (with_reducible exact quiet_left (Q1.out _)) | (with_reducible exact quiet_left (Q2.out _)) | (with_reducible exact quiet_left (Q3.out _))))
              go_wp2
              go_ret
              exact ⟨rfl, below_drewN (Below.refl _ _) _⟩
            | false =>
              have he' := str_some he
              clear he
              go_enter Try.func49, Try.ntmps49
              go_wp2_with fail
              go_quiet ((go_at_call 53; first | (with_reducible exact quiet_left (Q1.out _)) | (with_reducible exact quiet_left (Q2.out _)) | (with_reducible exact quiet_left (Q3.out _))))
              go_wp2
              go_ret
              exact ⟨rfl, below_drewN (Below.refl _ _) _⟩
        · have d64 : decide ((v.size : Int) ≤ 64) = false := by simp; omega
          rw [decide_eq_false h64]
          clear h64
          go_enter Try.func49, Try.ntmps49
          go_wp2_with fail
          go_quiet ((go_at_call 53; first | (with_reducible exact quiet_left (Q1.out _)) | (with_reducible exact quiet_left (Q2.out _)) | (with_reducible exact quiet_left (Q3.out _))))
          go_wp2
          go_ret
          exact ⟨rfl, below_drewN (Below.refl _ _) _⟩
end Go.Proofs.Ytkmiknefbbjggaa

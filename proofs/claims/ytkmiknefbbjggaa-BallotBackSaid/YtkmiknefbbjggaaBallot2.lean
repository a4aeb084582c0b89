/- The walks of ballot: May, text, Bytes, Read; the reference's May, Read. -/
import Derived.Test.YtkmiknefbbjggaaBallot
import Derived.Test.YtkmiknefbbjggaaRef3b
import Derived.BigRegion
namespace Go.Proofs.Ytkmiknefbbjggaa
open Go.RowKit

abbrev recV (i m b : Int) (v : ByteArray) : Value := .agg #[.int .i64 i, .int .i64 m, .int .i64 b, .string v]

set_option maxHeartbeats 400000 in
theorem May_any (i m b : Int) (v : ByteArray) (w : World) (hv : v.size ≤ maxLen) :
    Calls Try.prog 35 #[recV i m b v] w fun e w' => e = .returned (.bool (mayB i m b v.data.toList)) ∧ Below w.heap.size w w' := by
  have HM := Lib.hid (fun g w => may_rec g i m b v w hv)
  generalize mayB i m b v.data.toList = q at *
  go_enter Try.func35, Try.ntmps35
  go_wp2_with fail
  refine (HM.out (w.heap.size + 1) _ ?_).mono ?_
  · have h := Blk.new (w.alloc (Obj.cells #[.int .i64 i, .int .i64 m, .int .i64 b, .string v] 55)) 87 #[.int .i64 i, .int .i64 m, .int .i64 b, .string v]
    simpa using h
  rintro e w1 ⟨rfl, hB⟩
  go_wp2_with fail
  go_ret
  exact ⟨rfl, below_step (((Below.refl _ _).alloc (Nat.le_refl _) _).alloc (by simp) _) hB (by simp; omega)⟩

set_option maxHeartbeats 1000000 in
set_option maxRecDepth 100000 in
theorem rMay_any (i m b : Int) (v : ByteArray) (w : World) (hv : v.size ≤ maxLen) :
    Calls Try.prog 50 #[recV i m b v] w fun e w' => e = .returned (.bool (mayB i m b v.data.toList)) ∧ Below w.heap.size w w' := by
  unfold maxLen at hv
  have hB := fun o => (Below.refl w.heap.size w).alloc (Nat.le_refl _) o
  have HB := Lib.hid hB; clear hB
  by_cases h : 0 ≤ i ∧ i ≤ 512 ∧ 0 ≤ m ∧ m ≤ 1099511627776 ∧ 0 ≤ b ∧ b ≤ m ∧ v.size ≤ 64
  · obtain ⟨h1, h2, h3, h4, h5, h6, h7⟩ := h
    have hm : mayB i m b v.data.toList = ((b == 0) == v.data.toList.isEmpty) := by
      unfold mayB betB
      rw [decide_eq_true ⟨h1, h2⟩, decide_eq_true ⟨h3, h4⟩, decide_eq_true ⟨h5, h6⟩, decide_eq_true (by rw [bytes_length]; exact h7)]; rfl
    rw [hm]
    clear hm
    cases he : v.data.toList.isEmpty with
    | true =>
      obtain rfl := str_empty he
      clear he
      by_cases h0 : b = 0
      · subst h0
        go_enter Try.func50, Try.ntmps50
        go_wp2_with fail
        go_ret
        exact ⟨rfl, HB.out _⟩
      · have h0' : (b == 0) = false := by simpa using h0
        rw [h0']
        have hp : 0 < b := by omega
        clear h0 h0'
        go_enter Try.func50, Try.ntmps50
        go_wp2_with fail
        go_ret
        exact ⟨rfl, HB.out _⟩
    | false =>
      have he' := str_some he
      have he2 : (!v.toList.isEmpty) = true := by rw [he']; rfl
      clear he
      by_cases h0 : b = 0
      · subst h0
        go_enter Try.func50, Try.ntmps50
        go_wp2_with fail
        go_ret
        exact ⟨rfl, HB.out _⟩
      · have h0' : (b == 0) = false := by simpa using h0
        rw [h0']
        have hp : 0 < b := by omega
        clear h0 h0'
        go_enter Try.func50, Try.ntmps50
        go_wp2_with fail
        go_ret
        exact ⟨rfl, HB.out _⟩
  · have hm : mayB i m b v.data.toList = false := by
      unfold mayB betB
      rw [bytes_length]
      by_cases k1 : 0 ≤ i ∧ i ≤ 512
      · by_cases k2 : 0 ≤ m ∧ m ≤ 1099511627776
        · by_cases k3 : 0 ≤ b ∧ b ≤ m
          · have k4 : ¬ v.size ≤ 64 := by omega
            simp [k4]
          · simp [k3]
        · simp [k2]
      · simp [k1]
    rw [hm]
    clear hm
    by_cases h1 : i < 0
    · go_enter Try.func50, Try.ntmps50
      go_wp2_with fail
      go_ret
      exact ⟨rfl, HB.out _⟩
    by_cases h2 : 512 < i
    · go_enter Try.func50, Try.ntmps50
      go_wp2_with fail
      go_ret
      exact ⟨rfl, HB.out _⟩
    by_cases h3 : m < 0
    · go_enter Try.func50, Try.ntmps50
      go_wp2_with fail
      go_ret
      exact ⟨rfl, HB.out _⟩
    by_cases h4 : 1099511627776 < m
    · go_enter Try.func50, Try.ntmps50
      go_wp2_with fail
      go_ret
      exact ⟨rfl, HB.out _⟩
    by_cases h5 : b < 0
    · go_enter Try.func50, Try.ntmps50
      go_wp2_with fail
      go_ret
      exact ⟨rfl, HB.out _⟩
    by_cases h6 : m < b
    · go_enter Try.func50, Try.ntmps50
      go_wp2_with fail
      go_ret
      exact ⟨rfl, HB.out _⟩
    have h7 : (64 : Int) < (v.size : Int) := by omega
    clear h
    go_enter Try.func50, Try.ntmps50
    go_wp2_with fail
    go_ret
    exact ⟨rfl, HB.out _⟩

end Go.Proofs.Ytkmiknefbbjggaa

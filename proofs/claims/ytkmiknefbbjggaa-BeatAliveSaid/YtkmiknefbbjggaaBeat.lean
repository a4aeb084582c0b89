/- The walks of beat. -/
import Derived.Test.YtkmiknefbbjggaaFields
import Derived.Test.YtkmiknefbbjggaaBeatPlain
namespace Go.Proofs.Ytkmiknefbbjggaa
open Go.RowKit

theorem since_any (t u : Int) (w : World) (h1 : -9223372036854775808 ≤ t - u) (h2 : t - u ≤ 9223372036854775807) :
    Calls Try.prog 47 #[.int .i64 t, .int .i64 u] w fun e w' => e = .returned (.tuple #[.int .i64 (t - u), .bool (decide (u ≤ t))]) ∧ w = w' := by
  go_enter Try.func47, Try.ntmps47
  go_wp2
  go_ret2
  exact ⟨rfl, rfl⟩

theorem Over_any (x0 x1 x2 x3 x4 x5 lease x7 asked now : Int) (w : World) (h1 : -4503599627370496 ≤ asked) (h2 : asked ≤ 4503599627370496) (h3 : -4503599627370496 ≤ now) (h4 : now ≤ 4503599627370496) :
    Calls Try.prog 30 #[.agg #[.int .i64 x0, .int .i64 x1, .int .i64 x2, .int .i64 x3, .int .i64 x4, .int .i64 x5, .int .i64 lease, .int .i64 x7], .int .i64 asked, .int .i64 now] w fun e w' => e = .returned (.bool (overB lease asked now)) ∧ Below w.heap.size w w' := by
  by_cases hc1 : asked ≤ now
  · have d1 : decide (asked ≤ now) = true := by simp [hc1]
    by_cases hc2 : 0 < now - asked
    · by_cases hc3 : lease < now - asked
      · have hv : overB lease asked now = true := decide_eq_true (by omega)
        rw [hv]
        clear hv
        go_enter Try.func30, Try.ntmps30
        go_wp2_with (go_at_call 47; refine (since_any _ _ _ (by omega) (by omega)).mono ?_; rintro e w' ⟨rfl, rfl⟩)
        go_ret
        exact ⟨rfl, (Below.refl _ _).alloc (Nat.le_refl _) _⟩
      · have hv : overB lease asked now = false := decide_eq_false (by omega)
        rw [hv]
        clear hv
        have d3 : decide (lease < now - asked) = false := by simp; omega
        go_enter Try.func30, Try.ntmps30
        go_wp2_with (go_at_call 47; refine (since_any _ _ _ (by omega) (by omega)).mono ?_; rintro e w' ⟨rfl, rfl⟩)
        go_ret
        exact ⟨rfl, (Below.refl _ _).alloc (Nat.le_refl _) _⟩
    · have hv : overB lease asked now = false := decide_eq_false (by omega)
      rw [hv]
      clear hv
      go_enter Try.func30, Try.ntmps30
      go_wp2_with (go_at_call 47; refine (since_any _ _ _ (by omega) (by omega)).mono ?_; rintro e w' ⟨rfl, rfl⟩)
      go_ret
      exact ⟨rfl, (Below.refl _ _).alloc (Nat.le_refl _) _⟩
  · have d1 : decide (asked ≤ now) = false := by simp; omega
    have hv : overB lease asked now = false := decide_eq_false (by omega)
    rw [hv]
    clear hv
    go_enter Try.func30, Try.ntmps30
    go_wp2_with (go_at_call 47; refine (since_any _ _ _ (by omega) (by omega)).mono ?_; rintro e w' ⟨rfl, rfl⟩)
    go_ret
    exact ⟨rfl, (Below.refl _ _).alloc (Nat.le_refl _) _⟩

theorem Blk.cells8 {w : World} {g : Nat} {t : TypeId} {a0 a1 a2 a3 a4 a5 a6 a7 : Value} (h : Blk w g t #[a0, a1, a2, a3, a4, a5, a6, a7]) :
    w.cell? ⟨g, 0, none⟩ = some a0 ∧ w.cell? ⟨g, 1, none⟩ = some a1 ∧ w.cell? ⟨g, 2, none⟩ = some a2 ∧ w.cell? ⟨g, 3, none⟩ = some a3 ∧ w.cell? ⟨g, 4, none⟩ = some a4 ∧ w.cell? ⟨g, 5, none⟩ = some a5 ∧ w.cell? ⟨g, 6, none⟩ = some a6 ∧ w.cell? ⟨g, 7, none⟩ = some a7 :=
  ⟨h.cell 0, h.cell 1, h.cell 2, h.cell 3, h.cell 4, h.cell 5, h.cell 6, h.cell 7⟩
/-- a watch's and a geometry's value -/
abbrev watchV (key count since : Int) (looked : Bool) : Value := .agg #[.int .i64 key, .int .i64 count, .int .i64 since, .bool looked]
theorem below2 (w : World) (o o' : Obj) : Below w.heap.size w ((w.alloc o).alloc o') := ((Below.refl _ _).alloc (Nat.le_refl _) o).alloc (by simp) o'

theorem Dead_any (x0 x1 x2 x3 x4 x5 x6 wait key count since now : Int) (looked : Bool) (w : World) (h1 : -4503599627370496 ≤ since) (h2 : since ≤ 4503599627370496) (h3 : -4503599627370496 ≤ now) (h4 : now ≤ 4503599627370496) :
    Calls Try.prog 28 #[.agg #[.int .i64 x0, .int .i64 x1, .int .i64 x2, .int .i64 x3, .int .i64 x4, .int .i64 x5, .int .i64 x6, .int .i64 wait], watchV key count since looked, .int .i64 now] w fun e w' => e = .returned (.bool (deadB wait key since looked now)) ∧ Below w.heap.size w w' := by
  cases looked with
  | false =>
    rw [show deadB wait key since false now = false from rfl]
    go_enter Try.func28, Try.ntmps28
    go_wp2_with (go_at_call 47; refine (since_any _ _ _ (by omega) (by omega)).mono ?_; rintro e w' ⟨rfl, rfl⟩)
    go_ret
    exact ⟨rfl, below2 _ _ _⟩
  | true =>
    by_cases hk : 0 < key
    · by_cases hc1 : since ≤ now
      · have d1 : decide (since ≤ now) = true := by simp [hc1]
        by_cases hc2 : wait ≤ now - since
        · have hv : deadB wait key since true now = true := decide_eq_true ⟨hk, hc1, hc2⟩
          rw [hv]
          clear hv
          go_enter Try.func28, Try.ntmps28
          go_wp2_with (go_at_call 47; refine (since_any _ _ _ (by omega) (by omega)).mono ?_; rintro e w' ⟨rfl, rfl⟩)
          go_ret
          exact ⟨rfl, below2 _ _ _⟩
        · have hv : deadB wait key since true now = false := decide_eq_false (fun h => hc2 h.2.2)
          rw [hv]
          clear hv
          have d3 : decide (wait ≤ now - since) = false := by simp; omega
          go_enter Try.func28, Try.ntmps28
          go_wp2_with (go_at_call 47; refine (since_any _ _ _ (by omega) (by omega)).mono ?_; rintro e w' ⟨rfl, rfl⟩)
          go_ret
          exact ⟨rfl, below2 _ _ _⟩
      · have d1 : decide (since ≤ now) = false := by simp; omega
        have hv : deadB wait key since true now = false := decide_eq_false (fun h => hc1 h.2.1)
        rw [hv]
        clear hv
        go_enter Try.func28, Try.ntmps28
        go_wp2_with (go_at_call 47; refine (since_any _ _ _ (by omega) (by omega)).mono ?_; rintro e w' ⟨rfl, rfl⟩)
        go_ret
        exact ⟨rfl, below2 _ _ _⟩
    · have hv : deadB wait key since true now = false := decide_eq_false (fun h => hk h.1)
      rw [hv]
      clear hv
      go_enter Try.func28, Try.ntmps28
      go_wp2_with (go_at_call 47; refine (since_any _ _ _ (by omega) (by omega)).mono ?_; rintro e w' ⟨rfl, rfl⟩)
      go_ret
      exact ⟨rfl, below2 _ _ _⟩

theorem sees_any (key count since k c : Int) (looked : Bool) (w : World) :
    Calls Try.prog 46 #[watchV key count since looked, .int .i64 k, .int .i64 c] w fun e w' => e = .returned (.bool (looked && decide (key = k ∧ count = c))) ∧ Below w.heap.size w w' := by
  cases looked with
  | false =>
    go_enter Try.func46, Try.ntmps46
    go_wp2
    go_ret
    exact ⟨rfl, (Below.refl _ _).alloc (Nat.le_refl _) _⟩
  | true =>
    by_cases hk : key = k
    · have hkb : (key == k) = true := by simp [hk]
      by_cases hc : count = c
      · have hcb : (count == c) = true := by simp [hc]
        rw [show (true && decide (key = k ∧ count = c)) = true by simp [hk, hc]]
        clear hk hc
        go_enter Try.func46, Try.ntmps46
        go_wp2
        go_ret
        exact ⟨rfl, (Below.refl _ _).alloc (Nat.le_refl _) _⟩
      · have hcb : (count == c) = false := by simp [hc]
        rw [show (true && decide (key = k ∧ count = c)) = false by simp [hc]]
        clear hk hc
        go_enter Try.func46, Try.ntmps46
        go_wp2
        go_ret
        exact ⟨rfl, (Below.refl _ _).alloc (Nat.le_refl _) _⟩
    · have hkb : (key == k) = false := by simp [hk]
      rw [show (true && decide (key = k ∧ count = c)) = false by simp [hk]]
      clear hk
      go_enter Try.func46, Try.ntmps46
      go_wp2
      go_ret
      exact ⟨rfl, (Below.refl _ _).alloc (Nat.le_refl _) _⟩

set_option maxHeartbeats 400000 in
theorem Bytes7_any (key count : Int) (w : World) :
    Calls Try.prog 26 #[.int .i64 key, .int .i64 count] w fun e w' => e = .returned (.tuple #[.string (mkS (bytesR7 key count).1), .int .i64 (bytesR7 key count).2]) ∧ Below w.heap.size w w' := by
  by_cases h : key < 1 ∨ count < 1
  · rw [bytesR7, if_pos h]
    go_enter Try.func26, Try.ntmps26
    go_wp2_with fail
    all_goals go_ret2
    all_goals exact ⟨rfl, Below.refl _ _⟩
  · rw [bytesR7, if_neg h]
    have hm := Make_any 3 ByteArray.empty (some ⟨w.heap.size, 0, none⟩) (some ⟨w.heap.size + 1, 0, none⟩) 2 2 [6, 6] [key, count] ((w.alloc (Obj.cells #[.int .i64 6, .int .i64 6] 3)).alloc (Obj.cells #[.int .i64 key, .int .i64 count] 3))
      (by omega) (by decide) (by simp) (by simp) (by exact reads_blk ((Blk.new w 3 #[.int .i64 6, .int .i64 6]).alloc _) rfl rfl) (by
        have h := Blk.new (w.alloc (Obj.cells #[.int .i64 6, .int .i64 6] 3)) 3 #[.int .i64 key, .int .i64 count]
        rw [show (w.alloc (Obj.cells #[.int .i64 6, .int .i64 6] 3)).heap.size = w.heap.size + 1 by simp] at h
        exact reads_blk h rfl rfl)
    rw [show ByteArray.empty.data.toList = [] from rfl] at hm
    unfold MakePost at hm
    have HM := Lib.hid hm; clear hm
    have h1 : 1 ≤ key := by omega
    have h2 : 1 ≤ count := by omega
    clear h
    go_enter Try.func26, Try.ntmps26
    go_wp2_with fail
    all_goals
      refine HM.out.mono ?_
      rintro e w1 ⟨rfl, hB⟩
      go_wp2_with fail
      go_ret2
      exact ⟨rfl, below_step (below2 _ _ _) hB (by simp; omega)⟩
end Go.Proofs.Ytkmiknefbbjggaa

/- The walks of breakwaterlaw07's wakes and far. -/
import Derived.Test.YtkmiknefbbjggaaSeen
namespace Go.Proofs.Ytkmiknefbbjggaa
open Go.RowKit

theorem look_first (x : Bs) (k c now : Int) (h : seenR x = (k, c)) : lookR 0 0 0 false x now = (k, c, now, true) := by
  rw [lookR, h]; rfl
theorem look_again (x : Bs) (k c s now : Int) (h : seenR x = (k, c)) : lookR k c s true x now = (k, c, s, true) := by
  rw [lookR, h]; simp
theorem look_other (x : Bs) (k c k' c' s now : Int) (h : seenR x = (k, c)) (hne : c' ≠ c) : lookR k' c' s true x now = (k, c, now, true) := by
  rw [lookR, h]; simp [hne]

set_option maxHeartbeats 2000000 in
set_option maxRecDepth 100000 in
theorem wakes07 (w : World) : Calls Try.prog 25 #[] w fun e w' => e = .returned (.bool true) ∧ Below w.heap.size w w' := by
  obtain ⟨x, hx, hxl, hxs⟩ := bytes_ok (key := 17) (count := 1) (by omega) (by omega) (by omega) (by omega)
  have hby := fun w => Bytes7_any 17 1 w
  rw [hx] at hby
  have hlo := fun w => Look_any 0 0 0 10 false (mkS x) w (by rw [mkS_size]; omega)
  rw [mkS_toList, look_first x 17 1 10 hxs] at hlo
  have HBY := Lib.hid hby; clear hby
  have HLO := Lib.hid hlo; clear hlo hx hxl hxs
  generalize mkS x = X at *
  go_enter Try.func25, Try.ntmps25
  go_wp2_with fail
  refine (HBY.out _).mono ?_
  rintro e w1 ⟨rfl, hB1⟩
  have hbG : Blk w1 w.heap.size 42 #[.int .i64 0, .int .i64 0, .int .i64 0, .int .i64 0, .int .i64 0, .int .i64 0, .int .i64 3, .int .i64 5] := (Blk.new w _ _).below hB1 (by simp)
  have hB := below_step ((Below.refl _ _).alloc (Nat.le_refl _) _) hB1 (by simp)
  clear hB1
  have HG := Lib.hid hbG; clear hbG
  have HB := Lib.hid hB; clear hB
  go_wp2_with fail
  refine (HLO.out _).mono ?_
  rintro e w2 ⟨rfl, hB1⟩
  have hbG := HG.out.below hB1 HG.out.lt
  have hB := below_step HB.out hB1 HB.out.size
  clear hB1 HG HB
  obtain ⟨g0, g1, g2, g3, g4, g5, g6, g7⟩ := hbG.cells8
  have hlt := hbG.lt
  have HG := Lib.hid hbG; clear hbG
  have HB := Lib.hid hB; clear hB
  go_wp2_with fail
  clear g0 g1 g2 g3 g4 g5 g6 g7
  refine (Dead_any 0 0 0 0 0 0 3 5 17 1 10 14 true _ (by omega) (by omega) (by omega) (by omega)).mono ?_
  rw [show deadB 5 17 10 true 14 = false from by decide]
  rintro e w3 ⟨rfl, hB1⟩
  have hbG := (HG.out.alloc (Obj.cells #[.int .i64 17, .int .i64 1, .int .i64 10, .bool true] 44)).below hB1 (by simp; omega)
  have hbW := (Blk.new w2 44 #[.int .i64 17, .int .i64 1, .int .i64 10, .bool true]).below hB1 (by simp)
  have hB := below_step (HB.out.alloc HB.out.size (Obj.cells #[.int .i64 17, .int .i64 1, .int .i64 10, .bool true] 44)) hB1 (by have := HB.out.size; simp; omega)
  clear hB1 HG HB
  obtain ⟨g0, g1, g2, g3, g4, g5, g6, g7⟩ := hbG.cells8
  obtain ⟨q0, q1, q2, q3⟩ := hbW.cells4
  have HG := Lib.hid hbG; clear hbG
  have HW := Lib.hid hbW; clear hbW
  have HB := Lib.hid hB; clear hB
  go_wp2_with fail
  refine (Dead_any 0 0 0 0 0 0 3 5 17 1 10 15 true _ (by omega) (by omega) (by omega) (by omega)).mono ?_
  rw [show deadB 5 17 10 true 15 = true from by decide]
  rintro e w3 ⟨rfl, hB1⟩
  clear g0 g1 g2 g3 g4 g5 g6 g7 q0 q1 q2 q3
  have hbG := HG.out.below hB1 HG.out.lt
  have hbW := HW.out.below hB1 HW.out.lt
  have hB := below_step HB.out hB1 HB.out.size
  clear hB1 HG HW HB
  obtain ⟨g0, g1, g2, g3, g4, g5, g6, g7⟩ := hbG.cells8
  obtain ⟨q0, q1, q2, q3⟩ := hbW.cells4
  have HG := Lib.hid hbG; clear hbG
  have HW := Lib.hid hbW; clear hbW
  have HB := Lib.hid hB; clear hB
  go_wp2_with fail
  refine (Over_any 0 0 0 0 0 0 3 5 10 13 _ (by omega) (by omega) (by omega) (by omega)).mono ?_
  rw [show overB 3 10 13 = false from by decide]
  rintro e w3 ⟨rfl, hB1⟩
  clear g0 g1 g2 g3 g4 g5 g6 g7 q0 q1 q2 q3
  have hbG := HG.out.below hB1 HG.out.lt
  have hbW := HW.out.below hB1 HW.out.lt
  have hB := below_step HB.out hB1 HB.out.size
  clear hB1 HG HW HB
  obtain ⟨g0, g1, g2, g3, g4, g5, g6, g7⟩ := hbG.cells8
  obtain ⟨q0, q1, q2, q3⟩ := hbW.cells4
  have HG := Lib.hid hbG; clear hbG
  have HW := Lib.hid hbW; clear hbW
  have HB := Lib.hid hB; clear hB
  go_wp2_with fail
  refine (Over_any 0 0 0 0 0 0 3 5 10 14 _ (by omega) (by omega) (by omega) (by omega)).mono ?_
  rw [show overB 3 10 14 = true from by decide]
  rintro e w4 ⟨rfl, hB1⟩
  have hB := below_step HB.out hB1 HB.out.size
  clear hB1
  go_wp2_with fail
  go_ret
  exact ⟨rfl, hB⟩

def farB (l : List Int) : Bool := l.any fun n => decide (1125899906842624 < n ∨ n < -1125899906842624)
theorem farB_at {l : List Int} {j : Nat} (hj : j < l.length) (h : 1125899906842624 < l[j] ∨ l[j] < -1125899906842624) : farB l = true := by
  rw [farB, List.any_eq_true]; exact ⟨l[j], List.getElem_mem hj, decide_eq_true h⟩
theorem farB_no {l : List Int} (h : ∀ j (hj : j < l.length), ¬ (1125899906842624 < l[j] ∨ l[j] < -1125899906842624)) : farB l = false := by
  rw [farB, List.any_eq_false]
  intro n hn
  obtain ⟨j, hj, rfl⟩ := List.getElem_of_mem hn
  simpa using h j hj

set_option maxHeartbeats 1000000 in
theorem far_any (A : Option Addr) (c : Nat) (l : List Int) (w : World) (hl : l.length ≤ 1000000) (hr : Reads w w.heap.size 1 A l.length (icells l)) :
    Calls Try.prog 29 #[.slice A l.length c] w fun e w' => e = .returned (.bool (farB l)) ∧ w = w' := by
  have HR := Lib.hid hr; clear hr
  go_enter Try.func29, Try.ntmps29
  go_wp2_with fail
  go_loopg [3] l.length (fun k i wr => ∃ j : Nat, j ≤ l.length ∧ k = l.length - j ∧ i = .int .i64 j ∧ wr = w ∧ ∀ t (h : t < l.length), t < j → ¬ (1125899906842624 < l[t] ∨ l[t] < -1125899906842624))
  case atStart => exact ⟨0, by omega, rfl, rfl, rfl, fun t _ h => absurd h (by omega)⟩
  case round =>
    obtain ⟨j, hj, rfl, rfl, rfl, hn⟩ := hrel
    have HN := Lib.hid hn; clear hn
    by_cases hlt : j < l.length
    · obtain ⟨ad, rfl, _, hc⟩ := HR.out.cell_ hlt (icells_get l j hlt)
      have hat := @farB_at l j hlt
      have HAT := Lib.hid hat; clear hat
      have HNX : Hid (∀ t (h : t < l.length), t < j + 1 → (¬ (1125899906842624 < l[j] ∨ l[j] < -1125899906842624)) → ¬ (1125899906842624 < l[t] ∨ l[t] < -1125899906842624)) := fun t h ht h0 => by
        rcases Nat.lt_or_ge t j with h1 | h1
        · exact HN.out t h h1
        · obtain rfl : t = j := by omega
          exact h0
      generalize l[j] = n at *
      by_cases h1 : 1125899906842624 < n
      · have hf := HAT.out (.inl h1)
        have HF := Lib.hid hf; clear hf
        go_wp2_with fail
        go_ret
        exact ⟨by rw [HF.out]; rfl, rfl⟩
      · by_cases h2 : n < -1125899906842624
        · have hf := HAT.out (.inr h2)
          have HF := Lib.hid hf; clear hf
          go_wp2_with fail
          go_ret
          exact ⟨by rw [HF.out]; rfl, rfl⟩
        · go_wp2_with fail
          go_roundg (l.length - (j + 1))
          case rel => exact ⟨j + 1, by omega, rfl, by go_num, rfl, fun t h ht => HNX.out t h ht (by omega)⟩
          case measure => omega
    · have hf := farB_no (l := l) (fun t ht => HN.out t ht (by omega))
      have HF := Lib.hid hf; clear hf
      go_wp2_with fail
      go_ret
      exact ⟨by rw [HF.out]; rfl, rfl⟩
end Go.Proofs.Ytkmiknefbbjggaa

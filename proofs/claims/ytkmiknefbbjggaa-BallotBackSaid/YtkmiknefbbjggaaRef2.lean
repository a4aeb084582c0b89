/- breakwaterref02: the walks of step, Move, Add, Sum. -/
import Derived.Test.YtkmiknefbbjggaaCrc
namespace Go.Proofs.Ytkmiknefbbjggaa
open Go.RowKit

theorem and_one (x : Nat) (h : x < 4294967296) : bits .and .i64 (x : Int) 1 = ((x % 2 : Nat) : Int) := by
  have := i64_and_nat x 1 (by omega) (by omega)
  rw [nat_mask1] at this
  exact this
theorem and_mask (x : Nat) (h : x < 4294967296) : bits .and .i64 (x : Int) 4294967295 = (x : Int) := by
  have := i64_and_nat x 4294967295 (by omega) (by omega)
  rw [show (4294967295 : Nat) = 2 ^ 32 - 1 from rfl, Nat.and_two_pow_sub_one_eq_mod, Nat.mod_eq_of_lt (by omega)] at this
  exact this

theorem rstep_any (x : Nat) (w : World) (h : x < 4294967296) :
    Calls Try.prog 65 #[.int .i64 x] w fun e w' => e = .returned (.int .i64 (step x)) ∧ w = w' := by
  have h1 := and_one x h
  have h2 : (x : Int) / 2 = ((x / 2 : Nat) : Int) := by simp
  have h3 := i64_xor_nat (x / 2) 2197175160 (by omega) (by omega)
  rcases Nat.mod_two_eq_zero_or_one x with hm | hm
  · have hs : step x = x / 2 := by rw [step, if_neg (by omega)]
    rw [hm] at h1
    rw [hs]
    have h1' : bits .and .i64 (x : Int) 1 = 0 := h1
    clear h1 h3 hs hm
    have H2 := Lib.hid h2; clear h2
    go_enter Try.func65, Try.ntmps65
    go_wp2
    go_ret
    exact ⟨by rw [← H2.out]; rfl, rfl⟩
  · have hs : step x = x / 2 ^^^ 2197175160 := by rw [step, if_pos hm]
    rw [hm] at h1
    rw [hs]
    have h1' : bits .and .i64 (x : Int) 1 = 1 := h1
    rw [← h2] at h3
    clear h1 hs hm h2
    have H3 := Lib.hid h3; clear h3
    go_enter Try.func65, Try.ntmps65
    go_wp2
    go_ret
    exact ⟨by rw [← H3.out]; rfl, rfl⟩

set_option maxHeartbeats 400000 in
theorem rMove_any (x n : Nat) (w : World) (h : x < 4294967296) (hn : n ≤ 1000000000) :
    Calls Try.prog 63 #[.int .i64 x, .int .i64 n] w fun e w' => e = .returned (.int .i64 (steps (8 * n) x)) ∧ w = w' := by
  have hm := and_mask x h
  go_enter Try.func63, Try.ntmps63
  go_wp2_with fail
  clear hm
  go_loopg [0, 5] n (fun k y i wr => ∃ j : Nat, j ≤ n ∧ k = n - j ∧ i = .int .i64 j ∧ y = .int .i64 ((steps (8 * j) x : Nat) : Int) ∧ w = wr)
  case atStart => exact ⟨0, by omega, rfl, rfl, rfl, rfl⟩
  case round =>
    obtain ⟨j, hj, rfl, rfl, rfl, rfl⟩ := hrel
    by_cases hlt : j < n
    · have hxl := steps_lt (8 * j) h
      have hsa := fun t => steps_add t (8 * j) x
      generalize steps (8 * j) x = y at *
      have HSA := Lib.hid hsa; clear hsa
      go_wp2_with fail
      go_loopg [0, 6] 8 (fun k z i wr' => ∃ t : Nat, t ≤ 8 ∧ k = 8 - t ∧ i = .int .i64 t ∧ z = .int .i64 ((steps t y : Nat) : Int) ∧ w = wr')
      case atStart => exact ⟨0, by omega, rfl, rfl, rfl, rfl⟩
      case round =>
        obtain ⟨t, ht, rfl, rfl, rfl, rfl⟩ := hrel
        by_cases htn : t < 8
        · have hsl := steps_lt t hxl
          have hst : steps (t + 1) y = step (steps t y) := rfl
          generalize steps t y = z at *
          have HST := Lib.hid hst; clear hst
          go_wp2_with fail
          refine (rstep_any z _ hsl).mono ?_
          rintro e w' ⟨rfl, rfl⟩
          go_wp2_with fail
          go_roundg (8 - (t + 1))
          case rel => exact ⟨t + 1, by omega, rfl, by go_num, by rw [HST.out], rfl⟩
          case measure => omega
        · obtain rfl : t = 8 := by omega
          have hnx : steps (8 * (j + 1)) x = steps 8 y := by rw [← HSA.out, show 8 + 8 * j = 8 * (j + 1) by omega]
          have HNX := Lib.hid hnx; clear hnx
          go_wp2_with fail
          go_roundg (n - (j + 1))
          case rel => exact ⟨j + 1, by omega, rfl, by go_num, by rw [HNX.out], rfl⟩
          case measure => omega
    · obtain rfl : j = n := by omega
      go_wp2_with fail
      go_ret
      exact ⟨rfl, rfl⟩

set_option maxHeartbeats 400000 in
theorem rAdd_any (A : Option Addr) (c : Nat) (l : Bs) (w : World) (hbd : l.length ≤ 1000000000) (hr : Reads w w.heap.size 1 A l.length (bcells l)) :
    Calls Try.prog 58 #[.int .i64 0, .slice A l.length c] w fun e w' => e = .returned (.int .i64 (crcSum l)) ∧ w = w' := by
  have h0 : bits .and .i64 0 4294967295 = 0 := by decide +kernel
  have h0' : bits .xor .i64 0 4294967295 = 4294967295 := by decide +kernel
  go_enter Try.func58, Try.ntmps58
  go_wp2_with fail
  clear h0 h0'
  go_loopg [5, 6] l.length (fun k y i wr => ∃ j : Nat, j ≤ l.length ∧ k = l.length - j ∧ i = .int .i64 j ∧ y = .int .i64 ((crcReg 4294967295 (l.take j) : Nat) : Int) ∧ w = wr)
  case atStart => exact ⟨0, by omega, rfl, rfl, rfl, rfl⟩
  case round =>
    obtain ⟨j, hj, rfl, rfl, rfl, rfl⟩ := hrel
    by_cases hlt : j < l.length
    · obtain ⟨ad, rfl, had, hc⟩ := hr.cell_ hlt (bcells_get l j hlt)
      have hxl : crcReg 4294967295 (l.take j) < 4294967296 := crcReg_lt (by omega) _
      have hsn : crcReg 4294967295 (l.take (j + 1)) = crcByte (crcReg 4294967295 (l.take j)) l[j] := by rw [List.take_succ_eq_append_getElem hlt, crcReg_snoc]
      unfold crcByte at hsn
      generalize crcReg 4294967295 (l.take j) = y at *
      have hcl := l[j].toNat_lt
      generalize l[j].toNat = z at *
      have HS := Lib.hid hsn; clear hsn hr
      have hxx := i64_xor_nat y z (by omega) (by omega)
      have hpl : y ^^^ z < 4294967296 := Nat.xor_lt_two_pow (n := 32) (by omega) (by omega)
      generalize y ^^^ z = p at *
      go_wp2_with fail
      refine (rMove_any p 1 _ hpl (by omega)).mono ?_
      rintro e w' ⟨rfl, rfl⟩
      go_wp2_with fail
      go_roundg (l.length - (j + 1))
      case rel => exact ⟨j + 1, by omega, rfl, by go_num, by rw [HS.out], rfl⟩
      case measure => omega
    · obtain rfl : j = l.length := by omega
      rw [List.take_length]
      have hxl : crcReg 4294967295 l < 4294967296 := crcReg_lt (by omega) _
      have hx := i64_xor_nat (crcReg 4294967295 l) 4294967295 (by omega) (by omega)
      have hs : crcSum l = crcReg 4294967295 l ^^^ 4294967295 := rfl
      rw [← hs] at hx
      have HX := Lib.hid hx; clear hx hs
      generalize crcReg 4294967295 l = y at *
      go_wp2_with fail
      go_ret
      exact ⟨by rw [← HX.out]; rfl, rfl⟩

theorem rSum_any (A : Option Addr) (c : Nat) (l : Bs) (w : World) (hbd : l.length ≤ 1000000000) (hr : Reads w w.heap.size 1 A l.length (bcells l)) :
    Calls Try.prog 42 #[.slice A l.length c] w fun e w' => e = .returned (.int .i64 (crcSum l)) ∧ w = w' := by
  go_enter Try.func42, Try.ntmps42
  go_wp2_with fail
  refine (rAdd_any A c l w hbd hr).mono ?_
  rintro e w1 ⟨rfl, rfl⟩
  go_wp2_with fail
  go_ret
  exact ⟨rfl, rfl⟩
end Go.Proofs.Ytkmiknefbbjggaa

/- The walks of geo.Bytes, breakwaterref04.Bytes, and of breakwaterlaw04's small and wakes. -/
import Derived.Test.YthfnbageimpbiaaGeoWhat
import Derived.Test.YthfnbageimpbiaaFrame
namespace Go.Proofs.Ythfnbageimpbiaa
open Go.RowKit

def bytesW (l : List ByteArray) : Int := l.foldl (fun n s => wrap64 (n + (s.size : Int))) 0
theorem bytesW_take (l : List ByteArray) (k : Nat) (h : k < l.length) : bytesW (l.take (k + 1)) = wrap64 (bytesW (l.take k) + (l[k].size : Int)) := by
  unfold bytesW
  rw [List.take_succ_eq_append_getElem h, List.foldl_append]
  rfl

set_option maxHeartbeats 1000000 in
theorem Bytes_any (A : Option Addr) (c : Nat) (l : List ByteArray) (w : World) (hl : l.length ≤ 1000000) (hr : Reads w w.heap.size 1 A l.length (scells l)) :
    Calls Try.prog 10 #[.slice A l.length c] w fun e w' => e = .returned (.int .i64 (bytesW l)) ∧ w = w' := by
  have HR := Lib.hid hr; clear hr
  go_enter Try.func10, Try.ntmps10
  go_wp2_with fail
  go_loopg [2, 4, 7] l.length (fun gk n _ i wr => ∃ k : Nat, k ≤ l.length ∧ gk = l.length - k ∧ i = .int .i64 k ∧ n = .int .i64 (bytesW (l.take k)) ∧ wr = w)
  case atStart => exact ⟨0, by omega, rfl, rfl, rfl, rfl⟩
  case round =>
    obtain ⟨k, hk, rfl, rfl, rfl, rfl⟩ := hrel
    by_cases hlt : k < l.length
    · obtain ⟨ad, rfl, had, hc⟩ := HR.out.cell_ hlt (scells_get l k hlt)
      have HT := Lib.hid (bytesW_take l k hlt)
      generalize bytesW (l.take k) = n at *
      generalize l[k] = s at *
      go_wp2_with fail
      go_roundg (l.length - (k + 1))
      case rel => exact ⟨k + 1, by omega, rfl, by go_num, by rw [HT.out], rfl⟩
      case measure => omega
    · obtain rfl : k = l.length := by omega
      have ht : bytesW (l.take l.length) = bytesW l := by rw [List.take_length]
      have HT := Lib.hid ht; clear ht
      go_wp2_with fail
      go_ret
      exact ⟨by rw [HT.out]; rfl, rfl⟩

set_option maxHeartbeats 1000000 in
theorem RBytes_any (A : Option Addr) (c : Nat) (l : List ByteArray) (w : World) (hl : l.length ≤ 1000000) (hr : Reads w w.heap.size 1 A l.length (scells l)) :
    Calls Try.prog 11 #[.slice A l.length c] w fun e w' => e = .returned (.int .i64 (bytesW l)) ∧ w = w' := by
  have HR := Lib.hid hr; clear hr
  go_enter Try.func11, Try.ntmps11
  go_wp2_with fail
  go_loopg [3, 4] l.length (fun gk n i wr => ∃ k : Nat, k ≤ l.length ∧ gk = l.length - k ∧ i = .int .i64 k ∧ n = .int .i64 (bytesW (l.take k)) ∧ wr = w)
  case atStart => exact ⟨0, by omega, rfl, rfl, rfl, rfl⟩
  case round =>
    obtain ⟨k, hk, rfl, rfl, rfl, rfl⟩ := hrel
    by_cases hlt : k < l.length
    · obtain ⟨ad, rfl, had, hc⟩ := HR.out.cell_ hlt (scells_get l k hlt)
      have HT := Lib.hid (bytesW_take l k hlt)
      generalize bytesW (l.take k) = n at *
      generalize l[k] = s at *
      go_wp2_with fail
      go_roundg (l.length - (k + 1))
      case rel => exact ⟨k + 1, by omega, rfl, by go_num, by rw [HT.out], rfl⟩
      case measure => omega
    · obtain rfl : k = l.length := by omega
      have ht : bytesW (l.take l.length) = bytesW l := by rw [List.take_length]
      have HT := Lib.hid ht; clear ht
      go_wp2_with fail
      go_ret
      exact ⟨by rw [HT.out]; rfl, rfl⟩

def smallG : Geo := ⟨2, 1, 1, 1, 3, 8, 1, 2⟩
set_option maxHeartbeats 400000 in
theorem small_any (w : World) : Calls Try.prog 31 #[] w fun e w' => e = .returned smallG.v ∧ Below w.heap.size w w' := by
  go_enter Try.func31, Try.ntmps31
  go_wp2_with fail
  refine ret_blk (cs := #[.int .i64 2, .int .i64 1, .int .i64 1, .int .i64 1, .int .i64 3, .int .i64 8, .int .i64 1, .int .i64 2]) rfl rfl (Blk.new w _ _) Try.underlying23 rfl (by kernel_rfl) rfl ?_
  exact ⟨rfl, (Below.refl _ _).alloc (Nat.le_refl _) _⟩

set_option maxHeartbeats 4000000 in
set_option maxRecDepth 100000 in
theorem wakes04 (w : World) : Calls Try.prog 7 #[] w fun e w' => e = .returned (.bool true) ∧ Below w.heap.size w w' := by
  have a1 : -9223372036854775808 ≤ smallG.wait := by decide +kernel
  have a2 : smallG.wait ≤ 9223372036854775807 := by decide +kernel
  have h0 := fun w => What_any smallG 15 w (by omega) (by omega) a1 a2
  rw [show whatL smallG.rgsM 15 = (6, 0, 1) from by decide +kernel] at h0
  have h1 := fun w => May_any smallG w a1 a2
  rw [show smallG.may = true from by decide +kernel] at h1
  have h2 := fun w => Total_any smallG w a1 a2
  rw [show smallG.totalS = 18 from by decide +kernel] at h2
  have h3 := fun w => Lease_any smallG 1 w a1 a2
  rw [show smallG.leaseS 1 = 2 from by decide +kernel] at h3
  have h4 := fun w => Paxos_any smallG 0 w a1 a2
  rw [show smallG.paxosS 0 = 3 from by decide +kernel] at h4
  have h5 := fun w => Log_any smallG 0 w a1 a2
  rw [show smallG.logS 0 = 5 from by decide +kernel] at h5
  have h6 := fun w => Head_any smallG 0 w a1 a2
  rw [show smallG.headS 0 = 13 from by decide +kernel] at h6
  have h7 := fun w => Journal_any smallG 0 4 w (by omega) a1 a2
  rw [show smallG.journalS 0 4 = 15 from by decide +kernel] at h7
  have h8 := fun w => Data_any smallG 0 0 w a1 a2
  rw [show smallG.dataS 0 0 = 17 from by decide +kernel] at h8
  have hs := fun w => small_any w
  dsimp only [Geo.v, smallG, whatV] at *
  have H0 := Lib.hid h0; clear h0
  have H1 := Lib.hid h1; clear h1
  have H2 := Lib.hid h2; clear h2
  have H3 := Lib.hid h3; clear h3
  have H4 := Lib.hid h4; clear h4
  have H5 := Lib.hid h5; clear h5
  have H6 := Lib.hid h6; clear h6
  have H7 := Lib.hid h7; clear h7
  have H8 := Lib.hid h8; clear h8
  have HS := Lib.hid hs; clear hs a1 a2
  go_enter Try.func7, Try.ntmps7
  have HB := Lib.hid (Below.refl w.heap.size w)
  go_wp2_with fail
  refine (HS.out _).mono ?_
  rintro e x0 ⟨rfl, hB1⟩
  have HBx := Lib.hid (below_step HB.out hB1 HB.out.size); clear HB hB1
  go_wp2_with fail
  refine (H0.out _).mono ?_
  rintro e w0 ⟨rfl, hB1⟩
  have HB := Lib.hid (below_step HBx.out hB1 HBx.out.size); clear HBx hB1
  go_wp2_with fail
  refine (HS.out _).mono ?_
  rintro e x1 ⟨rfl, hB1⟩
  have HBx := Lib.hid (below_step HB.out hB1 HB.out.size); clear HB hB1
  go_wp2_with fail
  refine (H1.out _).mono ?_
  rintro e w1 ⟨rfl, hB1⟩
  have HB := Lib.hid (below_step HBx.out hB1 HBx.out.size); clear HBx hB1
  go_wp2_with fail
  refine (HS.out _).mono ?_
  rintro e x2 ⟨rfl, hB1⟩
  have HBx := Lib.hid (below_step HB.out hB1 HB.out.size); clear HB hB1
  go_wp2_with fail
  refine (H2.out _).mono ?_
  rintro e w2 ⟨rfl, hB1⟩
  have HB := Lib.hid (below_step HBx.out hB1 HBx.out.size); clear HBx hB1
  go_wp2_with fail
  refine (HS.out _).mono ?_
  rintro e x3 ⟨rfl, hB1⟩
  have HBx := Lib.hid (below_step HB.out hB1 HB.out.size); clear HB hB1
  go_wp2_with fail
  refine (H3.out _).mono ?_
  rintro e w3 ⟨rfl, hB1⟩
  have HB := Lib.hid (below_step HBx.out hB1 HBx.out.size); clear HBx hB1
  go_wp2_with fail
  refine (HS.out _).mono ?_
  rintro e x4 ⟨rfl, hB1⟩
  have HBx := Lib.hid (below_step HB.out hB1 HB.out.size); clear HB hB1
  go_wp2_with fail
  refine (H4.out _).mono ?_
  rintro e w4 ⟨rfl, hB1⟩
  have HB := Lib.hid (below_step HBx.out hB1 HBx.out.size); clear HBx hB1
  go_wp2_with fail
  refine (HS.out _).mono ?_
  rintro e x5 ⟨rfl, hB1⟩
  have HBx := Lib.hid (below_step HB.out hB1 HB.out.size); clear HB hB1
  go_wp2_with fail
  refine (H5.out _).mono ?_
  rintro e w5 ⟨rfl, hB1⟩
  have HB := Lib.hid (below_step HBx.out hB1 HBx.out.size); clear HBx hB1
  go_wp2_with fail
  refine (HS.out _).mono ?_
  rintro e x6 ⟨rfl, hB1⟩
  have HBx := Lib.hid (below_step HB.out hB1 HB.out.size); clear HB hB1
  go_wp2_with fail
  refine (H6.out _).mono ?_
  rintro e w6 ⟨rfl, hB1⟩
  have HB := Lib.hid (below_step HBx.out hB1 HBx.out.size); clear HBx hB1
  go_wp2_with fail
  refine (HS.out _).mono ?_
  rintro e x7 ⟨rfl, hB1⟩
  have HBx := Lib.hid (below_step HB.out hB1 HB.out.size); clear HB hB1
  go_wp2_with fail
  refine (H7.out _).mono ?_
  rintro e w7 ⟨rfl, hB1⟩
  have HB := Lib.hid (below_step HBx.out hB1 HBx.out.size); clear HBx hB1
  go_wp2_with fail
  refine (HS.out _).mono ?_
  rintro e x8 ⟨rfl, hB1⟩
  have HBx := Lib.hid (below_step HB.out hB1 HB.out.size); clear HB hB1
  go_wp2_with fail
  refine (H8.out _).mono ?_
  rintro e w8 ⟨rfl, hB1⟩
  have HB := Lib.hid (below_step HBx.out hB1 HBx.out.size); clear HBx hB1
  go_wp2_with fail
  have HBx := Lib.hid (HB.out.alloc HB.out.size (.cells #[.string ⟨#[97, 98]⟩, .string ⟨#[99]⟩] 9)); clear HB
  refine (Bytes_any _ _ [⟨#[97, 98]⟩, ⟨#[99]⟩] _ (by simp) (reads_blk (Blk.new w8 9 #[.string ⟨#[97, 98]⟩, .string ⟨#[99]⟩]) rfl rfl)).mono ?_
  rw [show bytesW [⟨#[97, 98]⟩, ⟨#[99]⟩] = 3 from by decide +kernel]
  rintro e w' ⟨rfl, rfl⟩
  go_wp2_with fail
  go_ret
  exact ⟨rfl, HBx.out⟩
end Go.Proofs.Ythfnbageimpbiaa

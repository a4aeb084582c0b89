/- The walks of Open, Of. -/
import Derived.Test.YtkmiknefbbjggaaSeal
import Derived.Deep.QuietTactic
import Derived.BigQuiet
namespace Go.Proofs.Ytkmiknefbbjggaa
open Go.RowKit

def OpenPost (w : World) (s : Bs) (e : Ending) (w' : World) : Prop :=
  e = .returned (.tuple #[.int .i8 (openR s).1, .string (mkS (openR s).2.1), .int .i64 (openR s).2.2]) ∧ Below w.heap.size w w'

theorem getD_byte (s : ByteArray) (h : 0 < s.size) : s.data.toList.getD 0 0 = s[0] := by
  rw [List.getD_eq_getElem?_getD, List.getElem?_eq_getElem (by simpa using h), Option.getD_some, bytes_getElem s 0 h]

theorem open_fail (s : ByteArray) (w : World) (hr : openR s.data.toList = (0, [], 30)) (e : Ending) (w' : World)
    (h : e = .returned (.tuple #[.int .i8 0, .string (mkS []), .int .i64 30]) ∧ Below w.heap.size w w') : OpenPost w s.data.toList e w' := by
  unfold OpenPost; rw [hr]; exact h

set_option maxHeartbeats 1000000 in
set_option maxRecDepth 100000 in
theorem open_sum (s : ByteArray) (n : Nat) (w : World) (h5 : n ≤ 505) (hz1 : 1 ≤ (s.data.toList.getD 0 0).toNat) (hz2 : (s.data.toList.getD 0 0).toNat ≤ 127) (h0 : 0 < s.size)
    (hl : s.size = n + 7) (hn : n = le ((s.data.toList.drop 1).take 2)) :
    Calls Try.prog 15 #[.string s] w fun e w' => OpenPost w s.data.toList e w' := by
  have hsm : s.size ≤ maxLen := by unfold maxLen; omega
  have hgd := getD_byte s h0
  have hll : s.data.toList.length = n + 7 := by rw [bytes_length]; exact hl
  have hg : getS s.data.toList 1 2 = ((n : Int), 0) := by
    have := getS_ok (l := s.data.toList) (a := 1) (w := 2) (by omega) (by omega) (by rw [← hn]; omega)
    rw [← hn] at this; exact this
  have hget := get_any s 1 2 w hsm
  rw [hg] at hget
  have hsl : (s.data.toList.drop (3 + n)).take 4 = s.data.toList.drop (s.data.toList.length - 4) := by
    rw [show s.data.toList.length - 4 = 3 + n by omega]; exact List.take_of_length_le (by rw [List.length_drop]; omega)
  have htk : (s.extract 0 (3 + n)).data.toList = s.data.toList.take (s.data.toList.length - 4) := by
    rw [Lib.extract_data, List.drop_zero, Nat.sub_zero, show s.data.toList.length - 4 = 3 + n by omega]
  have hex : (s.extract 3 (3 + n)).data.toList = (s.data.toList.drop 3).take (s.data.toList.length - 7) := by
    rw [Lib.extract_data, show s.data.toList.length - 7 = n by omega, Nat.add_sub_cancel_left]
  have hmk : Value.string (mkS ((s.data.toList.drop 3).take (s.data.toList.length - 7))) = .string (s.extract 3 (3 + n)) := by rw [← hex, mkS_self]
  have hsmlt : le (s.data.toList.drop (s.data.toList.length - 4)) < 4294967296 := by rw [← hsl]; exact le_take_lt _ _ 4
  have hg2 : getS s.data.toList (3 + (n : Int)) 4 = (((le (s.data.toList.drop (s.data.toList.length - 4)) : Nat) : Int), 0) := by
    have := getS_ok (l := s.data.toList) (a := 3 + n) (w := 4) (by omega) (by omega) (by rw [hsl]; omega)
    rw [hsl] at this
    rw [← this]; congr 1
  have hget2 := get_any s (3 + (n : Int)) 4 w hsm
  rw [hg2] at hget2
  obtain ⟨c, w1, hrun, -, -, hbr, hB, -⟩ := run_bytes_new (P := Try.prog) w 9 28 5 (s.extract 0 (3 + n)) Try.underlying9 Try.underlying28 Try.underlying5 (by rw [← bytes_length, htk, List.length_take]; omega)
  have hxs : (s.extract 0 (3 + n)).size = (s.data.toList.take (s.data.toList.length - 4)).length := by rw [← htk, bytes_length]
  rw [hxs] at hrun hbr
  rw [htk] at hbr
  have hsum := Sum_any (some ⟨w.heap.size, 0, none⟩) c (s.data.toList.take (s.data.toList.length - 4)) w1 (by rw [List.length_take]; omega) hbr.reads
  have HRok := @openR_ok s.data.toList (by omega) (by omega) hz1 hz2 (by omega)
  have HRsum := @openR_sum s.data.toList (by omega)
  have hcrl := crcSum_lt (s.data.toList.take (s.data.toList.length - 4))
  have HG := Lib.hid hget; clear hget hg
  have HG2 := Lib.hid hget2; clear hget2 hg2
  have HSUM := Lib.hid hsum; clear hsum
  have HB := Lib.hid hB; clear hB
  have HMK := Lib.hid hmk; clear hmk
  have HOK := Lib.hid HRok; clear HRok
  have HBAD := Lib.hid HRsum; clear HRsum
  have HGD := Lib.hid hgd; clear hgd
  clear hbr hex htk hsl hll hxs hn
  have hlb : ((s.size : Int) != 3 + (n : Int) + 4) = false := by simp; omega
  have hx0 : (0 : Int) < (s.size : Int) := by omega
  have hl1 : s.size ≤ n + 7 := by omega
  have hl2 : n + 7 ≤ s.size := by omega
  clear hl
  have hz1' : 1 ≤ s[0].toNat := by rw [← HGD.out]; exact hz1
  have hz2' : s[0].toNat ≤ 127 := by rw [← HGD.out]; exact hz2
  clear hz1 hz2
  have hzb : ((s[0].toNat : Int) == 0) = false := by simp; omega
  have hzb2 : ¬ (127 : Int) < (s[0].toNat : Int) := by omega
  generalize le (s.data.toList.drop (s.data.toList.length - 4)) = sm at *
  generalize crcSum (s.data.toList.take (s.data.toList.length - 4)) = cr at *
  generalize (s.data.toList.take (s.data.toList.length - 4)).length = m at *
  by_cases heq : sm = cr
  · subst heq
    have hsb : ((sm : Int) != (sm : Int)) = false := by simp
    have HR := Lib.hid (HOK.out rfl)
    clear HOK HBAD
    go_enter Try.func15, Try.ntmps15
    go_wp2_with fail
    refine HG.out.mono ?_
    rintro e w' ⟨rfl, rfl⟩
    go_wp2_with fail
    refine HG2.out.mono ?_
    rintro e w' ⟨rfl, rfl⟩
    go_wp2_with fail
    refine HSUM.out.mono ?_
    rintro e w2 ⟨rfl, hB2⟩
    have HB2 := Lib.hid (HB.out.trans (hB2.mono HB.out.size)); clear hB2
    clear hrun
    go_wp2_with fail
    go_quiet (fail)
    go_wp2
    go_ret3
    show OpenPost w s.data.toList _ _
    unfold OpenPost
    rw [HR.out]
    refine ⟨?_, Go.Proofs.Ytkmiknefbbjggaa.below_drewN HB2.out _⟩
    rw [HMK.out, HGD.out]
    rfl
  · have hsb : ((sm : Int) != (cr : Int)) = true := by simp; omega
    have hr := HBAD.out heq
    have HR := Lib.hid hr; clear hr
    go_enter Try.func15, Try.ntmps15
    go_wp2_with fail
    refine HG.out.mono ?_
    rintro e w' ⟨rfl, rfl⟩
    go_wp2_with fail
    refine HG2.out.mono ?_
    rintro e w' ⟨rfl, rfl⟩
    go_wp2_with fail
    refine HSUM.out.mono ?_
    rintro e w2 ⟨rfl, hB2⟩
    have HB2 := Lib.hid (HB.out.trans (hB2.mono HB.out.size)); clear hB2
    clear hrun
    go_wp2_with fail
    go_ret3
    exact open_fail s _ HR.out _ _ ⟨rfl, HB2.out⟩

set_option maxHeartbeats 1000000 in
theorem Open_any (s : ByteArray) (w : World) (hs : s.size ≤ 1000000000) :
    Calls Try.prog 15 #[.string s] w fun e w' => OpenPost w s.data.toList e w' := by
  have hsm : s.size ≤ maxLen := by unfold maxLen; omega
  by_cases h3 : s.size < 3
  · have hr := openR_short (s := s.data.toList) (by simp; omega)
    have hg : getS s.data.toList 1 2 = (0, 10) := getS_out ⟨by omega, by omega⟩ (by simp; omega)
    have HR := Lib.hid hr; clear hr
    have hget := get_any s 1 2 w hsm
    rw [hg] at hget
    have HG := Lib.hid hget; clear hget hg
    go_enter Try.func15, Try.ntmps15
    go_wp2_with fail
    refine HG.out.mono ?_
    rintro e w' ⟨rfl, rfl⟩
    go_wp2_with fail
    go_ret3
    exact open_fail s _ HR.out _ _ ⟨rfl, Below.refl _ _⟩
  · have hge : 3 ≤ s.size := by omega
    obtain ⟨n, hn⟩ : ∃ n, n = le ((s.data.toList.drop 1).take 2) := ⟨_, rfl⟩
    have hnl : n < 65536 := by rw [hn]; exact le_take_lt _ 1 2
    have hg : getS s.data.toList 1 2 = ((n : Int), 0) := by
      have := getS_ok (l := s.data.toList) (a := 1) (w := 2) (by omega) (by simp; omega) (by rw [← hn]; omega)
      rw [← hn] at this; exact this
    have hget := get_any s 1 2 w hsm
    rw [hg] at hget
    have HG := Lib.hid hget; clear hget hg
    have HN := Lib.hid hn; clear hn
    by_cases hl : s.size = n + 7
    · have hlb : ((s.size : Int) != 3 + (n : Int) + 4) = false := by simp; omega
      have hx0 : (0 : Int) < (s.size : Int) := by omega
      have h0 : 0 < s.size := by omega
      have hgd := getD_byte s h0
      have HGD := Lib.hid hgd; clear hgd
      have HL := Lib.hid hl
      have hl1 : s.size ≤ n + 7 := by omega
      have hl2 : n + 7 ≤ s.size := by omega
      clear hl
      by_cases h5 : n ≤ 505
      · by_cases hz : s[0].toNat = 0
        · have hr := openR_zero (s := s.data.toList) (by rw [HGD.out]; exact hz)
          have HR := Lib.hid hr; clear hr
          have hzb : ((s[0].toNat : Int) == 0) = true := by simp [hz]
          have HZ := Lib.hid hz; clear hz
          go_enter Try.func15, Try.ntmps15
          go_wp2_with fail
          refine HG.out.mono ?_
          rintro e w' ⟨rfl, rfl⟩
          go_wp2_with fail
          go_ret3
          exact open_fail s _ HR.out _ _ ⟨rfl, Below.refl _ _⟩
        · by_cases hz2 : 127 < s[0].toNat
          · have hr := openR_big (s := s.data.toList) (by rw [HGD.out]; exact hz2)
            have HR := Lib.hid hr; clear hr
            have hzb : ((s[0].toNat : Int) == 0) = false := by simp; omega
            have hzb2 : (127 : Int) < (s[0].toNat : Int) := by omega
            go_enter Try.func15, Try.ntmps15
            go_wp2_with fail
            refine HG.out.mono ?_
            rintro e w' ⟨rfl, rfl⟩
            go_wp2_with fail
            go_ret3
            exact open_fail s _ HR.out _ _ ⟨rfl, Below.refl _ _⟩
          · exact open_sum s n w h5 (by rw [HGD.out]; omega) (by rw [HGD.out]; omega) h0 HL.out HN.out
      · have hr := openR_long (s := s.data.toList) (by simp; omega)
        have HR := Lib.hid hr; clear hr
        go_enter Try.func15, Try.ntmps15
        go_wp2_with fail
        refine HG.out.mono ?_
        rintro e w' ⟨rfl, rfl⟩
        go_wp2_with fail
        go_ret3
        exact open_fail s _ HR.out _ _ ⟨rfl, Below.refl _ _⟩
    · have hr : openR s.data.toList = (0, [], 30) := by
        rcases Nat.lt_or_ge s.size 7 with h | h
        · exact openR_short (by simpa using h)
        · exact openR_len (by simpa using h) (by rw [← HN.out]; simp; omega)
      have HR := Lib.hid hr; clear hr
      have hlb : ((s.size : Int) != 3 + (n : Int) + 4) = true := by simp; omega
      have HL := Lib.hid hl; clear hl
      go_enter Try.func15, Try.ntmps15
      go_wp2_with fail
      refine HG.out.mono ?_
      rintro e w' ⟨rfl, rfl⟩
      go_wp2_with fail
      go_ret3
      exact open_fail s _ HR.out _ _ ⟨rfl, Below.refl _ _⟩

set_option maxHeartbeats 400000 in
theorem Of_any (k : Int) (s : ByteArray) (w : World) (hs : s.size ≤ 1000000000) :
    Calls Try.prog 18 #[.int .i8 k, .string s] w fun e w' => e = .returned (.tuple #[.string (mkS (ofR k s.data.toList).1), .int .i64 (ofR k s.data.toList).2]) ∧ Below w.heap.size w w' := by
  have ho := Open_any s w hs
  unfold OpenPost at ho
  have hof : ofR k s.data.toList = if (openR s.data.toList).2.2 = 0 ∧ (openR s.data.toList).1 = k then ((openR s.data.toList).2.1, 0) else ([], 30) := rfl
  rcases openR_cases s.data.toList with h | ⟨k', l, h, _, _, _, _⟩
  · rw [h] at ho hof
    rw [hof]
    have HO := Lib.hid ho; clear ho hof h
    go_enter Try.func18, Try.ntmps18
    go_wp2_with fail
    refine HO.out.mono ?_
    rintro e w1 ⟨rfl, hB⟩
    go_wp2_with fail
    go_ret2
    exact ⟨rfl, hB⟩
  · rw [h] at ho hof
    by_cases hk : k' = k
    · rw [if_pos ⟨rfl, hk⟩] at hof
      rw [hof]
      have HO := Lib.hid ho; clear ho hof h
      have hkb : (k' != k) = false := by simp [hk]
      clear hk
      go_enter Try.func18, Try.ntmps18
      go_wp2_with fail
      refine HO.out.mono ?_
      rintro e w1 ⟨rfl, hB⟩
      go_wp2_with fail
      go_ret2
      exact ⟨rfl, hB⟩
    · rw [if_neg (fun h' => hk h'.2)] at hof
      rw [hof]
      have HO := Lib.hid ho; clear ho hof h
      have hkb : (k' != k) = true := by simp [hk]
      clear hk
      go_enter Try.func18, Try.ntmps18
      go_wp2_with fail
      refine HO.out.mono ?_
      rintro e w1 ⟨rfl, hB⟩
      go_wp2_with fail
      go_ret2
      exact ⟨rfl, hB⟩

theorem seal_one : sealR 1 [] = ([1, 0, 0] ++ leBytes 4 (crcSum [1, 0, 0]), 0) := by rw [sealR_ok (by omega) (by simp)]; rfl
set_option maxHeartbeats 400000 in
theorem wakes03 (w : World) : Calls Try.prog 13 #[] w fun e w' => e = .returned (.bool true) ∧ Below w.heap.size w w' := by
  have hs := Seal_any 1 ByteArray.empty w (by omega)
  rw [show ByteArray.empty.data.toList = [] from rfl, seal_one] at hs
  have h1 : (mkS ([1, 0, 0] ++ leBytes 4 (crcSum [1, 0, 0]))).size = 7 := by rw [mkS_size]; simp [leBytes_length]
  have h2 : (mkS ([1, 0, 0] ++ leBytes 4 (crcSum [1, 0, 0]))).extract 0 3 = ⟨#[1, 0, 0]⟩ := by
    rw [← mkS_self ((mkS ([1, 0, 0] ++ leBytes 4 (crcSum [1, 0, 0]))).extract 0 3), Lib.extract_data, mkS_toList]; simp [mkS]
  have HS := Lib.hid hs; clear hs
  generalize mkS ([1, 0, 0] ++ leBytes 4 (crcSum [1, 0, 0])) = x at *
  have ho := fun w => Open_any ByteArray.empty w (by decide)
  unfold OpenPost at ho
  rw [show openR ByteArray.empty.data.toList = (0, [], 30) from openR_short (by decide)] at ho
  have HO := Lib.hid ho; clear ho
  go_enter Try.func13, Try.ntmps13
  go_wp2_with fail
  refine HS.out.mono ?_
  rintro e w1 ⟨rfl, hB1⟩
  go_wp2_with fail
  refine (HO.out w1).mono ?_
  rintro e w2 ⟨rfl, hB2⟩
  go_wp2_with fail
  go_ret
  exact ⟨rfl, hB1.trans (hB2.mono hB1.size)⟩
end Go.Proofs.Ytkmiknefbbjggaa

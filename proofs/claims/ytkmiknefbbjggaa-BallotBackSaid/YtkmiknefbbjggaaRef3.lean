/- breakwaterref03: the walks of Seal, Open, Of. -/
import Derived.Test.YtkmiknefbbjggaaRef1
import Derived.Test.YtkmiknefbbjggaaRef2
import Derived.Test.YtkmiknefbbjggaaOpen
namespace Go.Proofs.Ytkmiknefbbjggaa
open Go.RowKit

theorem str_ne {a b : ByteArray} (h : a ≠ b) : (!a.toList == b.toList) = true := by
  have : a.toList ≠ b.toList := by
    rw [Lib.toList_data, Lib.toList_data]
    intro e
    exact h (by rw [← mkS_self a, ← mkS_self b, e])
  simp [this]
theorem leBytes4 (x : Nat) (h : x < 4294967296) : bcells (leBytes 4 x) = [.int .u8 ((x : Int) % 256), .int .u8 ((x : Int) / 256 % 256), .int .u8 ((x : Int) / 65536 % 256), .int .u8 ((x : Int) / 16777216)] := by
  have e : (x : Int) / 16777216 = (x : Int) / 16777216 % 256 := by omega
  rw [e]
  simp only [leBytes, bcells, List.map_cons, List.map_nil, Nat.div_div_eq_div_mul]
  simp

set_option maxHeartbeats 1000000 in
set_option maxRecDepth 100000 in
theorem rSeal_ok (q : UInt8) (s : ByteArray) (w : World) (hq : 1 ≤ q.toNat) (hq2 : q.toNat ≤ 127) (hl : s.size ≤ 505) :
    Calls Try.prog 16 #[.int .i8 q.toNat, .string s] w fun e w' =>
      e = .returned (.tuple #[.string (mkS (sealHead q.toNat s.data.toList ++ leBytes 4 (crcSum (sealHead q.toNat s.data.toList)))), .int .i64 0]) ∧ Below w.heap.size w w' := by
  obtain ⟨i0, hi0, hz0, hz1, hz2⟩ := info_parts u8_info
  have hkw : IntKind.u8.wrap (q.toNat : Int) = q.toNat := by rw [IntKind.wrap_u8']; omega
  have hb1 : decide ((q.toNat : Int) < 1) = false := by simp; omega
  have hb2 : decide ((505 : Int) < (s.size : Int)) = false := by simp; omega
  have hhd : [q] ++ leBytes 2 s.size ++ s.data.toList = sealHead q.toNat s.data.toList := by simp [sealHead]
  have hhl : (sealHead q.toNat s.data.toList).length ≤ 508 := by rw [sealHead_length]; simp; omega
  generalize sealHead q.toNat s.data.toList = hd at *
  have HH := Lib.hid hhd; clear hhd
  go_enter Try.func16, Try.ntmps16
  go_wp2_with fail
  refine (rPut_any (some ⟨w.heap.size, 0, none⟩) (some ⟨w.heap.size + 1, 0, none⟩) 1 1 2 [q] [(s.size : Int)] _ (by simp) ?h1 ?h2).mono ?_
  case h1 => exact reads_blk ((Blk.new w 5 #[Value.int IntKind.u8 q.toNat]).alloc (Obj.cells #[Value.int IntKind.i64 s.size] 3)) rfl rfl
  case h2 =>
    have h := Blk.new (w.alloc (Obj.cells #[Value.int IntKind.u8 q.toNat] 5)) 3 #[Value.int IntKind.i64 s.size]
    rw [show (w.alloc (Obj.cells #[Value.int IntKind.u8 q.toNat] 5)).heap.size = w.heap.size + 1 by simp] at h
    exact reads_blk h rfl rfl
  rw [show putS [q] (2 : Int) [(s.size : Int)] = some ([q] ++ leBytes 2 s.size) from putS_one (wd := 2) (by omega) (by omega) (by simp [mostW]; omega)]
  rintro e w1 ⟨v1, rfl, hown1, hB1⟩
  have hB : Below w.heap.size w w1 := (((Below.refl _ _).alloc (Nat.le_refl _) _).alloc (by simp) _).trans (hB1.mono (by simp; omega))
  have ho1 := own_base hown1 (base' := w.heap.size) (by simp; omega)
  obtain ⟨A1, n1, rfl⟩ : ∃ A1 n1, v1 = .slice A1 3 n1 := by
    obtain ⟨A1, n1, e1, _⟩ := own_reads ho1; exact ⟨A1, n1, by rw [e1]; simp [leBytes_length]⟩
  have hsz := hB.size
  have HB := Lib.hid hB; clear hB hB1 hown1
  have HO1 := Lib.hid ho1; clear ho1
  go_wp2_with (first
    | (at_builtin; refine wpList_append_src _ rfl (.tmp 26) (.tmp 27) 28 9 rfl w.heap.size 5 i0 (.int .u8 0) 1 Try.underlying28 hi0 hz0 hz1 hz2 rfl (.slice A1 3 n1) _ _ (by rfl) HO1.out (by simp) (.string s) s.size (byteCells s) (by rfl) (Src.ofString _ Try.underlying9 s) (by simp [leBytes_length, maxLen]; omega) (by simp [leBytes_length]; omega) hsz ?_; intro v2 w2 hown2 hg2 hat2; (have ho2 : w2.ownsRow w.heap.size 5 1 v2 hd.length (bcells hd) := by (rw [← HH.out, bcells_append, List.length_append]; exact hown2)); obtain ⟨A2, n2, rfl, -, -, hr2⟩ := own_reads ho2; have HB2 := Lib.hid (below_own HB.out HO1.out hg2 hsz); have HO2 := Lib.hid ho2; have HR2 := Lib.hid hr2; clear hown2 ho2 hg2 hat2 hr2))
  refine (rSum_any A2 n2 hd w2 (by omega) HR2.out).mono ?_
  rintro e w3 ⟨rfl, rfl⟩
  have hcl := crcSum_lt hd
  have hl4 := leBytes4 (crcSum hd) hcl
  have HL4 := Lib.hid hl4; clear hl4
  generalize hcr : crcSum hd = cr at *
  have HCR := Lib.hid hcr; clear hcr
  have hsz2 := HB2.out.size
  go_wp2_with (first
    | (at_builtin; go_loud (refine wpList_append_any _ rfl (.tmp 31) (.tmp 43) 28 rfl w.heap.size 5 i0 (.int .u8 0) 1 1 Try.underlying28 hi0 hz0 hz1 hz2 rfl (by decide) (.slice A2 hd.length n2) hd.length (bcells hd) (by rfl) (HO2.out.alloc _) _ (some ⟨w2.heap.size, 0, none⟩) 4 4 (bcells (leBytes 4 cr)) (by rfl) (by rw [HL4.out]; exact reads_blk (Blk.new _ _ _) rfl rfl) (bcells_one _) (by unfold maxLen; omega) (by omega) (by simp; omega) ?_); intro v4 w4 hown4 hg4 hat4; (have hB4 := below_own (HB2.out.alloc hsz2 _) (HO2.out.alloc _) hg4 (by simp; omega)); (rw [← bcells_append] at hown4); obtain ⟨A4, n4, rfl, -, -, hr4⟩ := own_reads hown4; (have hr4' : Reads w4 w4.heap.size 1 A4 (hd ++ leBytes 4 cr).length (bcells (hd ++ leBytes 4 cr)) := by (rw [List.length_append, leBytes_length]; exact hr4)); (have hconv := run_string_of (P := Try.prog) w4 28 9 5 Try.underlying28 Try.underlying5 Try.underlying9 w4.heap.size A4 n4 _ hr4'); rw [List.length_append, leBytes_length] at hconv; have HB4 := Lib.hid hB4; clear hB4 hg4 hat4 hown4 hr4 hr4'))
  go_ret2
  exact ⟨by rw [HCR.out]; rfl, HB4.out⟩

theorem rSeal_any (k : Int) (s : ByteArray) (w : World) (hk2 : k ≤ 127) (hs : s.size ≤ 9223372036854775807) :
    Calls Try.prog 16 #[.int .i8 k, .string s] w fun e w' =>
      e = .returned (.tuple #[.string (mkS (sealR k s.data.toList).1), .int .i64 (sealR k s.data.toList).2]) ∧ Below w.heap.size w w' := by
  by_cases h : 1 ≤ k ∧ s.size ≤ 505
  · obtain ⟨q, rfl⟩ : ∃ q : UInt8, k = (q.toNat : Int) := ⟨UInt8.ofNat k.toNat, by simp; omega⟩
    rw [sealR_ok h.1 (by simpa using h.2)]
    exact rSeal_ok q s w (by omega) (by omega) h.2
  · rw [sealR_bad (by simpa using h)]
    by_cases hk : k < 1
    · go_enter Try.func16, Try.ntmps16
      go_wp2
      go_ret2
      exact ⟨rfl, Below.refl _ _⟩
    · have hl : (505 : Int) < s.size := by omega
      go_enter Try.func16, Try.ntmps16
      go_wp2
      go_ret2
      exact ⟨rfl, Below.refl _ _⟩

set_option maxHeartbeats 1000000 in
set_option maxRecDepth 100000 in
theorem rOpen_any (s : ByteArray) (w : World) (hs : s.size ≤ 1000000000) :
    Calls Try.prog 17 #[.string s] w fun e w' => OpenPost w s.data.toList e w' := by
  by_cases h7 : s.size < 7
  · have hr := openR_short (s := s.data.toList) (by simpa using h7)
    have HR := Lib.hid hr; clear hr
    have h7' : (s.size : Int) < 7 := by omega
    go_enter Try.func17, Try.ntmps17
    go_wp2_with fail
    go_ret3
    exact open_fail s _ HR.out _ _ ⟨rfl, Below.refl _ _⟩
  · by_cases h5 : 512 < s.size
    · have hr := openR_long (s := s.data.toList) (by simpa using h5)
      have HR := Lib.hid hr; clear hr
      have h5' : (512 : Int) < (s.size : Int) := by omega
      go_enter Try.func17, Try.ntmps17
      go_wp2_with fail
      go_ret3
      exact open_fail s _ HR.out _ _ ⟨rfl, Below.refl _ _⟩
    · have h0 : 0 < s.size := by omega
      have hx0 : (0 : Int) < (s.size : Int) := by omega
      have hgd := getD_byte s h0
      have HGD := Lib.hid hgd; clear hgd
      by_cases hz : s[0].toNat = 0
      · have hr := openR_zero (s := s.data.toList) (by rw [HGD.out]; exact hz)
        have HR := Lib.hid hr; clear hr
        have hzb : (s[0].toNat : Int) < 1 := by omega
        clear hz
        go_enter Try.func17, Try.ntmps17
        go_wp2_with fail
        go_ret3
        exact open_fail s _ HR.out _ _ ⟨rfl, Below.refl _ _⟩
      · have hzb : ¬ (s[0].toNat : Int) < 1 := by omega
        clear hz
        by_cases hz2 : 127 < s[0].toNat
        · have hr := openR_big (s := s.data.toList) (by rw [HGD.out]; exact hz2)
          have HR := Lib.hid hr; clear hr
          have hzb2 : (127 : Int) < (s[0].toNat : Int) := by omega
          go_enter Try.func17, Try.ntmps17
          go_wp2_with fail
          go_ret3
          exact open_fail s _ HR.out _ _ ⟨rfl, Below.refl _ _⟩
        · have hzb2 : ¬ (127 : Int) < (s[0].toNat : Int) := by omega
          have hwr : IntKind.i8.wrap (s[0].toNat : Int) = (s[0].toNat : Int) := IntWalk.i8_in _ (by omega)
          have hex : (s.extract 3 (s.size - 4)).data.toList = (s.data.toList.drop 3).take (s.data.toList.length - 7) := by
            rw [Lib.extract_data]; congr 1
          have hxl : (s.extract 3 (s.size - 4)).size ≤ 505 := by rw [← bytes_length, hex, List.length_take]; simp; omega
          have hse := fun w => rSeal_any (s[0].toNat : Int) (s.extract 3 (s.size - 4)) w (by omega) (by omega)
          have hoR : openR s.data.toList = if sealB s[0].toNat ((s.data.toList.drop 3).take (s.data.toList.length - 7)) = some s.data.toList then ((s[0].toNat : Int), (s.data.toList.drop 3).take (s.data.toList.length - 7), 0) else (0, [], 30) := by
            have h := HGD.out
            unfold openR
            rw [h]
            by_cases hc : sealB s[0].toNat ((s.data.toList.drop 3).take (s.data.toList.length - 7)) = some s.data.toList
            · rw [if_pos hc, if_pos ⟨by simp; omega, by simp; omega, by omega, by omega, hc⟩]
            · rw [if_neg hc, if_neg (fun h => hc h.2.2.2.2)]
          have hmk : mkS ((s.data.toList.drop 3).take (s.data.toList.length - 7)) = s.extract 3 (s.size - 4) := by rw [← hex, mkS_self]
          have hsb : ∃ x, sealB s[0].toNat ((s.data.toList.drop 3).take (s.data.toList.length - 7)) = some x := ⟨_, sealB_some (by omega) (by rw [← hex, bytes_length]; exact hxl)⟩
          obtain ⟨x, hx⟩ := hsb
          rw [hex] at hse
          rw [sealR, hx] at hse
          dsimp only at hse
          rw [hx] at hoR
          generalize (s.data.toList.drop 3).take (s.data.toList.length - 7) = ld at *
          have b7 : ¬ (s.size : Int) < 7 := by omega
          have b5 : ¬ (512 : Int) < (s.size : Int) := by omega
          have HSE := Lib.hid hse; clear hse hx hex
          have HMK := Lib.hid hmk; clear hmk
          by_cases hq : mkS x = s
          · rw [hq] at HSE
            rw [show x = s.data.toList by rw [← hq, mkS_toList], if_pos rfl] at hoR
            have HO := Lib.hid hoR; clear hoR hq
            go_enter Try.func17, Try.ntmps17
            go_wp2_with fail
            go_quiet (fail)
            go_wp2_with fail
            refine (HSE.out _).mono ?_
            rintro e w1 ⟨rfl, hB1⟩
            have HB1 := Lib.hid ((below_drewN (Below.refl w.heap.size w) _).trans hB1); clear hB1
            go_wp2_with fail
            go_ret3
            show OpenPost w s.data.toList _ _
            unfold OpenPost
            rw [HO.out]
            exact ⟨by rw [HMK.out]; rfl, HB1.out⟩
          · rw [if_neg (by intro h; apply hq; injection h with h; rw [h, mkS_self])] at hoR
            have HO := Lib.hid hoR; clear hoR
            have hqb := str_ne hq
            clear hq
            generalize mkS x = Y at *
            go_enter Try.func17, Try.ntmps17
            go_wp2_with fail
            go_quiet (fail)
            go_wp2_with fail
            refine (HSE.out _).mono ?_
            rintro e w1 ⟨rfl, hB1⟩
            have HB1 := Lib.hid ((below_drewN (Below.refl w.heap.size w) _).trans hB1); clear hB1
            go_wp2_with fail
            go_ret3
            exact open_fail s _ HO.out _ _ ⟨rfl, HB1.out⟩

set_option maxHeartbeats 400000 in
theorem rOf_any (k : Int) (s : ByteArray) (w : World) (hs : s.size ≤ 1000000000) :
    Calls Try.prog 19 #[.int .i8 k, .string s] w fun e w' => e = .returned (.tuple #[.string (mkS (ofR k s.data.toList).1), .int .i64 (ofR k s.data.toList).2]) ∧ Below w.heap.size w w' := by
  have ho := rOpen_any s w hs
  unfold OpenPost at ho
  have hof : ofR k s.data.toList = if (openR s.data.toList).2.2 = 0 ∧ (openR s.data.toList).1 = k then ((openR s.data.toList).2.1, 0) else ([], 30) := rfl
  rcases openR_cases s.data.toList with h | ⟨k', l, h, _, _, _, _⟩
  · rw [h] at ho hof
    rw [hof]
    have HO := Lib.hid ho; clear ho hof h
    go_enter Try.func19, Try.ntmps19
    go_wp2_with fail
    refine HO.out.mono ?_
    rintro e w1 ⟨rfl, hB⟩
    go_wp2_with fail
    go_ret2
    exact ⟨rfl, hB⟩
  · rw [h] at ho hof
    by_cases hk : k' = k
    · rw [if_pos ⟨rfl, hk⟩] at hof
      rw [hof]
      have HO := Lib.hid ho; clear ho hof h
      have hkb : (k' != k) = false := by simp [hk]
      clear hk
      go_enter Try.func19, Try.ntmps19
      go_wp2_with fail
      refine HO.out.mono ?_
      rintro e w1 ⟨rfl, hB⟩
      go_wp2_with fail
      go_ret2
      exact ⟨rfl, hB⟩
    · rw [if_neg (fun h' => hk h'.2)] at hof
      rw [hof]
      have HO := Lib.hid ho; clear ho hof h
      have hkb : (k' != k) = true := by simp [hk]
      clear hk
      go_enter Try.func19, Try.ntmps19
      go_wp2_with fail
      refine HO.out.mono ?_
      rintro e w1 ⟨rfl, hB⟩
      go_wp2_with fail
      go_ret2
      exact ⟨rfl, hB⟩
end Go.Proofs.Ytkmiknefbbjggaa

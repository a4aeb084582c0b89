/- breakwaterref01: the walks of most, Fits, Get, Put. -/
import Derived.Test.YtkmiknefbbjggaaPut2
namespace Go.Proofs.Ytkmiknefbbjggaa
open Go.RowKit

theorem pow256_5 (k : Nat) (h : k ≤ 5) : 256 ^ k ≤ 1099511627776 := by
  have := Nat.pow_le_pow_right (n := 256) (by omega) h
  omega

set_option maxHeartbeats 400000 in
theorem rmost_in (n : Nat) (w : World) (h1 : 1 ≤ n) (h2 : n ≤ 6) :
    Calls Try.prog 56 #[.int .i64 n] w fun e w' => e = .returned (.int .i64 (mostW n)) ∧ w = w' := by
  go_enter Try.func56, Try.ntmps56
  go_wp2
  go_loop [3, 4] (fun x i => ∃ k : Nat, k ≤ n ∧ i = .int .i64 k ∧ x = .int .i64 ((256 ^ k : Nat) : Int)) (fun _ i => n - (intOf i).toNat)
  case atStart => exact ⟨0, Nat.zero_le _, rfl, rfl⟩
  case round =>
    obtain ⟨k, hk, rfl, rfl⟩ := hrel
    have hsn : 256 ^ (k + 1) = 256 ^ k * 256 := Nat.pow_succ _ _
    have HS := Lib.hid hsn; clear hsn
    have h6 := pow256_le k (by omega)
    by_cases hlt : k < n
    · have hq := pow256_5 k (by omega)
      generalize 256 ^ k = q at *
      go_wp2
      go_round
      case rel => exact ⟨k + 1, by omega, by go_num, congrArg (Value.int .i64) (by rw [HS.out]; go_num)⟩
      case measure => simp [intOf]; omega
    · obtain rfl : k = n := by omega
      have hp : 0 < 256 ^ k := Nat.pow_pos (by omega)
      have hm : mostW k = min (256 ^ k - 1) 1099511627776 := rfl
      have HM := Lib.hid hm; clear hm
      generalize 256 ^ k = q at *
      by_cases hb : q - 1 ≤ 1099511627776
      · have hb' : (q : Int) - 1 ≤ 1099511627776 := by omega
        go_wp2
        go_ret
        exact ⟨congrArg (fun x => Ending.returned (.int .i64 x)) (by rw [HM.out]; omega), rfl⟩
      · have hb' : (1099511627776 : Int) < (q : Int) - 1 := by omega
        go_wp2
        go_ret
        exact ⟨congrArg (fun x => Ending.returned (.int .i64 x)) (by rw [HM.out]; omega), rfl⟩

def mostI (n : Int) : Int := if 1 ≤ n ∧ n ≤ 6 then (mostW n.toNat : Int) else -1
theorem rmost_any (n : Int) (w : World) :
    Calls Try.prog 56 #[.int .i64 n] w fun e w' => e = .returned (.int .i64 (mostI n)) ∧ w = w' := by
  by_cases h : 1 ≤ n ∧ n ≤ 6
  · rw [mostI, if_pos h]
    obtain ⟨m, rfl⟩ := Int.eq_ofNat_of_zero_le (show 0 ≤ n by omega)
    exact rmost_in m w (by omega) (by omega)
  · rw [mostI, if_neg h]
    by_cases h1 : n < 1
    · go_enter Try.func56, Try.ntmps56
      go_wp2
      go_ret
      exact ⟨rfl, rfl⟩
    · have h6 : 6 < n := by omega
      go_enter Try.func56, Try.ntmps56
      go_wp2
      go_ret
      exact ⟨rfl, rfl⟩
theorem fits_mostI (n wd : Int) (h0 : 0 ≤ n) : fitsB n wd = decide (n ≤ mostI wd) := by
  unfold fitsB mostI
  by_cases h : 1 ≤ wd ∧ wd ≤ 6
  · rw [if_pos h]; simp [h.1, h.2, h0]
  · rw [if_neg h]
    have : ¬ n ≤ -1 := by omega
    simp only [this, decide_false]
    exact decide_eq_false (by omega)
theorem rFits_any (n wd : Int) (w : World) :
    Calls Try.prog 57 #[.int .i64 n, .int .i64 wd] w fun e w' => e = .returned (.bool (fitsB n wd)) ∧ w = w' := by
  by_cases h0 : 0 ≤ n
  · rw [fits_mostI n wd h0]
    have hm := rmost_any wd w
    generalize mostI wd = q at *
    have HM := Lib.hid hm; clear hm
    go_enter Try.func57, Try.ntmps57
    go_wp2_with fail
    refine HM.out.mono ?_
    rintro e w' ⟨rfl, rfl⟩
    go_wp2_with fail
    all_goals go_ret
    all_goals exact ⟨rfl, rfl⟩
  · have hf : fitsB n wd = false := by simp [fitsB, h0]
    rw [hf]
    clear hf
    go_enter Try.func57, Try.ntmps57
    go_wp2_with fail
    go_ret
    exact ⟨rfl, rfl⟩

theorem le_front (s : ByteArray) (a n p : Nat) (hp : p < n) (hb : a + p < s.size) :
    le ((s.data.toList.drop (a + p)).take (n - p)) = s[a + p].toNat + 256 * le ((s.data.toList.drop (a + (p + 1))).take (n - (p + 1))) := by
  rw [List.drop_eq_getElem_cons (by simpa using hb), show n - p = n - (p + 1) + 1 by omega, List.take_succ_cons, le, bytes_getElem s _ hb, Nat.add_assoc]

set_option maxHeartbeats 400000 in
theorem rGet_in (s : ByteArray) (a n : Nat) (w : World) (hs : s.size ≤ maxLen) (h1 : 1 ≤ n) (h2 : n ≤ 6) (h3 : a + n ≤ s.size) :
    Calls Try.prog 44 #[.string s, .int .i64 a, .int .i64 n] w fun e w' => e = .returned (.tuple #[.int .i64 (getS s.data.toList a n).1, .int .i64 (getS s.data.toList a n).2]) ∧ w = w' := by
  unfold maxLen at hs
  have hm := rmost_in n w h1 h2
  have hmb : (mostW n : Int) ≤ 1099511627776 := by unfold mostW; omega
  generalize mostW n = q at *
  have HM := Lib.hid hm; clear hm
  have b0 : decide ((q : Int) < 0) = false := by simp
  have b1 : decide ((a : Int) < 0) = false := by simp
  have b2 : decide ((s.size : Int) < (a : Int)) = false := by simp; omega
  have b2' : decide (s.size < a) = false := by simp; omega
  have b3 : decide ((s.size : Int) - (a : Int) < (n : Int)) = false := by simp; omega
  go_enter Try.func44, Try.ntmps44
  go_wp2_with fail
  refine HM.out.mono ?_
  rintro e w' ⟨rfl, rfl⟩
  go_wp2_with fail
  go_loop [8, 9] (fun x i => ∃ v : Int, -1 ≤ v ∧ v ≤ (n : Int) - 1 ∧ i = .int .i64 v ∧ x = .int .i64 ((le ((s.data.toList.drop (a + (v + 1).toNat)).take (n - (v + 1).toNat)) : Nat) : Int)) (fun _ i => (intOf i + 1).toNat)
  case atStart => exact ⟨(n : Int) - 1, by omega, by omega, rfl, by simp [le]⟩
  case round =>
    obtain ⟨v, hv1, hv2, rfl, rfl⟩ := hrel
    by_cases hv : 0 ≤ v
    · obtain ⟨p, rfl⟩ := Int.eq_ofNat_of_zero_le hv
      have hp : p < n := by omega
      have hb : a + p < s.size := by omega
      have hfr := le_front s a n p hp hb
      have hlt := le_take_lt s.data.toList (a + (p + 1)) (n - (p + 1))
      have h5 := pow256_5 (n - (p + 1)) (by omega)
      have hc := s[a + p].toNat_lt
      rw [show ((p : Int) + 1).toNat = p + 1 by omega]
      generalize le ((s.data.toList.drop (a + (p + 1))).take (n - (p + 1))) = x at *
      have hx : x < 1099511627776 := by omega
      have HF := Lib.hid hfr; clear hfr hlt h5
      go_wp2_with fail
      go_round
      case rel =>
        refine ⟨(p : Int) - 1, by omega, by omega, rfl, congrArg (Value.int .i64) ?_⟩
        rw [show ((p : Int) - 1 + 1).toNat = p by omega, HF.out]
        try unfold wrap64
        omega
      case measure => simp [intOf] <;> omega
    · obtain rfl : v = -1 := by omega
      rw [show (((-1 : Int)) + 1).toNat = 0 from rfl, Nat.add_zero, Nat.sub_zero]
      by_cases hbig : le ((s.data.toList.drop a).take n) ≤ 1099511627776
      · have hx := getS_ok ⟨h1, h2⟩ (by simpa using h3) hbig
        have HX := Lib.hid hx; clear hx
        go_wp2_with fail
        go_ret2
        exact ⟨by rw [HX.out]; rfl, rfl⟩
      · have hx := getS_big ⟨h1, h2⟩ (by simpa using h3) hbig
        have HX := Lib.hid hx; clear hx
        go_wp2_with fail
        go_ret2
        exact ⟨by rw [HX.out]; rfl, rfl⟩

theorem rGet_any (s : ByteArray) (a n : Int) (w : World) (hs : s.size ≤ maxLen) :
    Calls Try.prog 44 #[.string s, .int .i64 a, .int .i64 n] w fun e w' => e = .returned (.tuple #[.int .i64 (getS s.data.toList a n).1, .int .i64 (getS s.data.toList a n).2]) ∧ w = w' := by
  by_cases hn : 1 ≤ n ∧ n ≤ 6
  · by_cases ha : 0 ≤ a ∧ a + n ≤ s.size
    · obtain ⟨n', rfl⟩ := Int.eq_ofNat_of_zero_le (show 0 ≤ n by omega)
      obtain ⟨a', rfl⟩ := Int.eq_ofNat_of_zero_le ha.1
      exact rGet_in s a' n' w hs (by omega) (by omega) (by omega)
    · rw [getS_out hn (by simpa using ha)]
      unfold maxLen at hs
      have hm := rmost_any n w
      have hmb : 0 ≤ mostI n := by rw [mostI, if_pos hn]; omega
      generalize mostI n = q at *
      have HM := Lib.hid hm; clear hm
      have b0 : ¬ q < 0 := by omega
      by_cases h0 : a < 0
      · go_enter Try.func44, Try.ntmps44
        go_wp2_with fail
        refine HM.out.mono ?_
        rintro e w' ⟨rfl, rfl⟩
        go_wp2_with fail
        go_ret2
        exact ⟨rfl, rfl⟩
      · by_cases h1 : s.size < a
        · go_enter Try.func44, Try.ntmps44
          go_wp2_with fail
          refine HM.out.mono ?_
          rintro e w' ⟨rfl, rfl⟩
          go_wp2_with fail
          go_ret2
          exact ⟨rfl, rfl⟩
        · have h2 : (s.size : Int) - a < n := by omega
          go_enter Try.func44, Try.ntmps44
          go_wp2_with fail
          refine HM.out.mono ?_
          rintro e w' ⟨rfl, rfl⟩
          go_wp2_with fail
          go_ret2
          exact ⟨rfl, rfl⟩
  · rw [getS_bad hn]
    have hm := rmost_any n w
    rw [mostI, if_neg hn] at hm
    have HM := Lib.hid hm; clear hm
    go_enter Try.func44, Try.ntmps44
    go_wp2_with fail
    refine HM.out.mono ?_
    rintro e w' ⟨rfl, rfl⟩
    go_wp2_with fail
    go_ret2
    exact ⟨rfl, rfl⟩

theorem byte_of2 (x t : Nat) : ((x / 256 ^ t : Nat) : Int) % 256 = ((x / 256 ^ t % 256 : Nat) : Int) := by omega
set_option maxHeartbeats 1000000 in
set_option maxRecDepth 100000 in
theorem rPut_in (Ab Al : Option Addr) (cb cl n : Nat) (b : Bs) (l : List Int) (w : World) (hn1 : 1 ≤ n) (hn6 : n ≤ 6) (hbd : b.length + 6 * l.length ≤ 1000000000)
    (hb : Reads w w.heap.size 1 Ab b.length (bcells b)) (hl : Reads w w.heap.size 1 Al l.length (icells l)) :
    Calls Try.prog 41 #[.slice Ab b.length cb, .int .i64 n, .slice Al l.length cl] w fun e w' => PutPost w (putS b n l) e w' := by
  obtain ⟨i0, hi0, hz0, hz1, hz2⟩ := info_parts u8_info
  have hm := rmost_in n w hn1 hn6
  have hmb : (mostW n : Int) ≤ 1099511627776 := by unfold mostW; omega
  generalize mostW n = q at *
  have HM := Lib.hid hm; clear hm
  have b0 : decide ((q : Int) < 0) = false := by simp
  have HB := Lib.hid hb; clear hb
  have HL := Lib.hid hl; clear hl
  go_enter Try.func41, Try.ntmps41
  go_wp2_with fail
  refine HM.out.mono ?_
  rintro e w' ⟨rfl, rfl⟩
  go_wp2_with (at_builtin; refine wpList_append_any _ rfl (.tmp 15) (.tmp 16) 28 rfl w.heap.size 5 i0 (.int .u8 0) 1 1 Try.underlying28 hi0 hz0 hz1 hz2 rfl (by decide) (.slice none 0 0) 0 [] (by rfl) (World.ownsRow_nil _ _ _ _) w.heap.size Ab b.length cb (bcells b) (by rfl) HB.out (bcells_one b) (by unfold maxLen; omega) (by omega) (Nat.le_refl _) ?_; intro v0 w0 hown0 hg0 hat0)
  have hB0 : Below w.heap.size w w0 := below_none (Below.refl _ _) hg0 (Nat.le_refl _)
  rw [Nat.zero_add, List.nil_append] at hown0
  clear hg0 hat0
  go_loopg [8, 9] l.length (fun k v i wr => ∃ j : Nat, j ≤ l.length ∧ k = l.length - j ∧ i = .int .i64 j ∧ wr.ownsRow w.heap.size 5 1 v (b ++ putAll n (l.take j)).length (bcells (b ++ putAll n (l.take j))) ∧ Below w.heap.size w wr ∧ ∀ t (h : t < l.length), t < j → fitsB l[t] n = true)
  case atStart => exact ⟨0, Nat.zero_le _, by simp, rfl, by simpa [putAll] using hown0, hB0, fun t _ h => absurd h (by omega)⟩
  case round =>
    clear hown0 hB0
    obtain ⟨j, hj, rfl, rfl, hown, hB, hfit⟩ := hrel
    have HF := Lib.hid hfit; clear hfit
    by_cases hlt : j < l.length
    · obtain ⟨ad, rfl, had, hc⟩ := (HL.out.below hB).cell_ hlt (icells_get l j hlt)
      by_cases hf : fitsB l[j] n = true
      · obtain ⟨x, hx⟩ : ∃ x : Nat, l[j] = (x : Int) := ⟨l[j].toNat, by have := of_decide_eq_true hf; omega⟩
        rw [hx] at hc hf
        have hx2 := fits_lt hf
        have HFx := Lib.hid hf
        have HX := Lib.hid hx; clear hx
        generalize hpre : b ++ putAll n (l.take j) = pre at *
        have HP := Lib.hid hpre; clear hpre
        go_wp2_with (first
          | (go_at_call 57; refine (rFits_any _ _ _).mono ?_; rintro e w' ⟨rfl, rfl⟩))
        have hpl : pre.length + 6 ≤ 2000000000 := by
          have h1 := HP.out; have h2 := congrArg List.length h1
          rw [List.length_append, putAll_length, List.length_take] at h2
          have h3 : n * min j l.length ≤ 6 * l.length := Nat.mul_le_mul hn6 (by omega)
          omega
        go_loopg [8, 10, 11] n (fun k v y i wr => ∃ t : Nat, t ≤ n ∧ k = n - t ∧ i = .int .i64 t ∧ y = .int .i64 ((x / 256 ^ t : Nat) : Int) ∧ wr.ownsRow w.heap.size 5 1 v (pre ++ leBytes t x).length (bcells (pre ++ leBytes t x)) ∧ Below w.heap.size w wr)
        case atStart => exact ⟨0, Nat.zero_le _, by simp, rfl, by simp, by simpa [leBytes] using hown, hB⟩
        case round =>
          clear hown hc hB hf
          rename_i wo
          obtain ⟨t, ht, rfl, rfl, rfl, hown, hB⟩ := hrel
          by_cases htn : t < n
          · have hlen : (pre ++ leBytes t x).length = pre.length + t := by simp [leBytes_length]
            have HLN := Lib.hid hlen; clear hlen
            have hyb : x / 256 ^ t ≤ 1099511627776 := Nat.le_trans (Nat.div_le_self _ _) hx2.2.1
            have hsn := leBytes_snoc t x
            have hdv : x / 256 ^ (t + 1) = x / 256 ^ t / 256 := by rw [Nat.pow_succ, Nat.div_div_eq_div_mul]
            have HSN := Lib.hid hsn; clear hsn
            have HDV := Lib.hid hdv; clear hdv
            generalize x / 256 ^ t = y at *
            go_wp2_with (first
              | (at_builtin; refine wpList_append_own _ rfl (.tmp 40) (.tmp 44) 28 rfl w.heap.size 5 i0 (.int .u8 0) 1 1 Try.underlying28 hi0 hz0 hz1 hz2 rfl (by decide) u8 _ _ (by rfl) (hown.alloc _) ⟨wr.heap.size, 0, none⟩ 1 1 _ rfl rfl (cell_one_new _ _ _) (by intro u hu; simp at hu; subst hu; rfl) (by rw [HLN.out]; unfold maxLen; omega) (by rw [HLN.out]; omega) (by have := hB.size; simp; omega) ?_; intro v1 w1 hown1 hg1 _))
            have hown2 : w1.ownsRow w.heap.size 5 1 v1 (pre ++ leBytes (t + 1) x).length (bcells (pre ++ leBytes (t + 1) x)) := by
              rw [HSN.out, ← List.append_assoc, bcells_append, List.length_append]
              simpa [bcells] using hown1
            have hB2 : Below w.heap.size w w1 := below_own (hB.alloc hB.size _) (hown.alloc _) hg1 (by have := hB.size; simp; omega)
            clear hown1 hg1 hown
            go_wp2
            go_roundg (n - (t + 1))
            case rel => exact ⟨t + 1, by omega, rfl, by go_num, congrArg (Value.int .i64) (by rw [HDV.out]; omega), hown2, hB2⟩
            case measure => omega
          · obtain rfl : t = n := by omega
            go_wp2
            go_roundg (l.length - (j + 1))
            case rel =>
              refine ⟨j + 1, by omega, rfl, by go_num, ?_, hB, fun i hi hij => ?_⟩
              · have e : b ++ putAll t (l.take (j + 1)) = pre ++ leBytes t x := by
                  rw [List.take_succ_eq_append_getElem hlt, putAll_snoc, HX.out, Int.toNat_natCast, ← List.append_assoc, HP.out]
                rw [e]; exact hown
              · rcases Nat.lt_or_ge i j with h | h
                · exact HF.out i hi h
                · obtain rfl : i = j := by omega
                  rw [HX.out]; exact HFx.out
            case measure => omega
      · have hf' : fitsB l[j] n = false := by simpa using hf
        have hps := putS_bad (b := b) hlt hf'
        have HPS := Lib.hid hps; clear hps
        go_wp2_with (first
          | (go_at_call 57; refine (rFits_any _ _ _).mono ?_; rintro e w' ⟨rfl, rfl⟩))
        go_ret2
        show PutPost w (putS b n l) _ _
        rw [HPS.out]
        exact ⟨rfl, hB⟩
    · obtain rfl : j = l.length := by omega
      have hps := putS_ok (b := b) hn1 hn6 (fun t ht => HF.out t ht ht)
      rw [List.take_length] at hown
      have HPS := Lib.hid hps; clear hps
      go_wp2
      go_ret2
      show PutPost w (putS b n l) _ _
      rw [HPS.out]
      exact ⟨_, rfl, hown, hB⟩

theorem rPut_any (Ab Al : Option Addr) (cb cl : Nat) (n : Int) (b : Bs) (l : List Int) (w : World) (hbd : b.length + 6 * l.length ≤ 1000000000)
    (hb : Reads w w.heap.size 1 Ab b.length (bcells b)) (hl : Reads w w.heap.size 1 Al l.length (icells l)) :
    Calls Try.prog 41 #[.slice Ab b.length cb, .int .i64 n, .slice Al l.length cl] w fun e w' => PutPost w (putS b n l) e w' := by
  by_cases hn : 1 ≤ n ∧ n ≤ 6
  · obtain ⟨n', rfl⟩ := Int.eq_ofNat_of_zero_le (show 0 ≤ n by omega)
    exact rPut_in Ab Al cb cl n' b l w (by omega) (by omega) hbd hb hl
  · have hps : putS b n l = none := by rw [putS, if_neg (fun h => hn h.1)]
    rw [hps]
    clear hb hl
    have hm := rmost_any n w
    rw [mostI, if_neg hn] at hm
    have HM := Lib.hid hm; clear hm
    go_enter Try.func41, Try.ntmps41
    go_wp2_with fail
    refine HM.out.mono ?_
    rintro e w' ⟨rfl, rfl⟩
    go_wp2_with fail
    go_ret2
    exact ⟨rfl, Below.refl _ _⟩
end Go.Proofs.Ytkmiknefbbjggaa

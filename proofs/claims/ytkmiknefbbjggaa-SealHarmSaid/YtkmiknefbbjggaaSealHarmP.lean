/- breakwaterlaw03.SealHarm returns true for every input: up to 32 bits side by side that are turned about, all ahead of the sum or all in it, are told. No condition. -/
import Derived.Test.YtkmiknefbbjggaaRows
import Derived.Test.YtkmiknefbbjggaaOpen
import Derived.Test.YtkmiknefbbjggaaHarmPlain
import Derived.ProofKit
import Derived.OpenShut
import Derived.ShutString
import Derived.ChangeOld
namespace Go.Proofs.Ytkmiknefbbjggaa.sealHarm
open Go.ChangeShapes Go.WideShapes Go.ChangeAt Go.RowKit
open Go.ChangeMaps (open_string shut_string)
set_option linter.unusedVariables false

theorem wf_i8 {n : Int} (h : (Lit.int .i8 n).wf = true) : -128 ≤ n ∧ n ≤ 127 := by
  have h1 : IntKind.i8.min = -128 := rfl
  have h2 : IntKind.i8.max = 127 := rfl
  simp only [Lit.wf, Bool.and_eq_true, decide_eq_true_eq] at h
  omega
theorem wf_u32 {n : Int} (h : (Lit.int .u32 n).wf = true) : 0 ≤ n ∧ n < 4294967296 := by
  have h1 : IntKind.u32.min = 0 := rfl
  have h2 : IntKind.u32.max = 4294967295 := rfl
  simp only [Lit.wf, Bool.and_eq_true, decide_eq_true_eq] at h
  omega

theorem early (a0 a2 a3 : Int) (a1 : ByteArray) (w : World) (h : 505 < a1.size ∨ a0 < 1) :
    Calls Try.prog 3 #[.int .i8 a0, .string a1, .int .i64 a2, .int .u32 a3] w fun e w' => e = .returned (.bool true) ∧ Below w.heap.size w w' := by
  by_cases h1 : 505 < a1.size
  · have b1 : (505 : Int) < (a1.size : Int) := by omega
    go_enter Try.func3, Try.ntmps3
    go_wp2_with (go_at_call 13; refine (wakes03 _).mono ?_; rintro e w' ⟨rfl, hB⟩)
    go_ret
    exact ⟨rfl, hB⟩
  · have b0 : ¬ (505 : Int) < (a1.size : Int) := by omega
    have b3 : a0 < 1 := by omega
    go_enter Try.func3, Try.ntmps3
    go_wp2_with (go_at_call 13; refine (wakes03 _).mono ?_; rintro e w' ⟨rfl, hB⟩)
    go_ret
    exact ⟨rfl, hB⟩

/-- ((first % n) + n) % n, as the program has it -/
def firstOf (a n : Int) : Int := (a.tmod n + n).tmod n
theorem firstOf_bd (a : Int) (n : Nat) (hn : 0 < n) : 0 ≤ firstOf a n ∧ firstOf a n < n := by
  unfold firstOf
  have h1 : (a.tmod n) < n := Int.tmod_lt_of_pos a (by omega)
  have h2 : -(n : Int) < a.tmod n := by
    have := Int.lt_tmod_of_pos a (show (0 : Int) < n by omega)
    omega
  have h3 : 0 ≤ a.tmod n + n := by omega
  exact ⟨Int.tmod_nonneg _ h3, Int.tmod_lt_of_pos _ (by omega)⟩

def chB (B j : Nat) : Bool := decide (B % 2 ^ j ≠ 0)
theorem chB_zero (B : Nat) : chB B 0 = false := by simp [chB, Nat.mod_one]
theorem chB_same (B j : Nat) (h : B / 2 ^ j % 2 = 0) : chB B (j + 1) = chB B j := by unfold chB; rw [mask_same B j h]
theorem chB_set (B j : Nat) (h : B / 2 ^ j % 2 = 1) : chB B (j + 1) = true := by
  unfold chB
  rw [Nat.mod_pow_succ, h, Nat.mul_one]
  have : 0 < 2 ^ j := Nat.pow_pos (by omega)
  exact decide_eq_true (by omega)
theorem flip_byte (c : UInt8) (t : Nat) (h : t < 8) : bits .xor .u8 (c.toNat : Int) ((2 : Int) ^ t % 256) = (((c ^^^ UInt8.ofNat (2 ^ t)).toNat : Nat) : Int) := by
  have hp : 2 ^ t ≤ 2 ^ 7 := Nat.pow_le_pow_right (by omega) (by omega)
  have e : ((2 : Int) ^ t % 256) = ((2 ^ t : Nat) : Int) := by
    have h1 : ((2 : Int) ^ t) = ((2 ^ t : Nat) : Int) := by simp
    rw [h1]
    generalize 2 ^ t = p at *
    omega
  have hc := c.toNat_lt
  rw [e, u8_xor_nat _ _ (by omega) (by omega), UInt8.toNat_xor, toNat_pow t h]
theorem bcells_set (b : Bs) (i : Nat) (c : UInt8) : (bcells b).set i (.int .u8 (c.toNat : Int)) = bcells (b.set i c) := by simp [bcells, List.map_set]
theorem bit_of (B j : Nat) (h : B < 4294967296) : bits .and .u32 ((B : Int) / 2 ^ j) 1 = ((B / 2 ^ j % 2 : Nat) : Int) := by
  have e : ((B : Int) / 2 ^ j) = ((B / 2 ^ j : Nat) : Int) := by simp
  have h1 : B / 2 ^ j ≤ B := Nat.div_le_self _ _
  have := u32_and_nat (B / 2 ^ j) 1 (by omega) (by omega)
  rw [nat_mask1] at this
  rw [e]; exact this

set_option maxHeartbeats 2000000 in
set_option maxRecDepth 100000 in
theorem late (a0 a2 : Int) (B : Nat) (a1 : ByteArray) (w : World) (h7 : a0 ≤ 127) (hB32 : B < 4294967296) (h2 : -9223372036854775808 ≤ a2) (h2' : a2 ≤ 9223372036854775807) (h1 : a1.size ≤ 505) (h4 : 1 ≤ a0) :
    Calls Try.prog 3 #[.int .i8 a0, .string a1, .int .i64 a2, .int .u32 B] w fun e w' => e = .returned (.bool true) ∧ Below w.heap.size w w' := by
  have b0 : decide ((505 : Int) < (a1.size : Int)) = false := by simp; omega
  have b3 : decide (a0 < 1) = false := by simp; omega
  have hs := Seal_any a0 a1 w h7
  obtain ⟨x, hx⟩ : ∃ x, sealB a0 a1.data.toList = some x := ⟨_, sealB_some h4 (by simpa using h1)⟩
  have hsr : sealR a0 a1.data.toList = (x, 0) := by rw [sealR, hx]
  rw [hsr] at hs
  have hlen : x.length = a1.size + 7 := by have := (sealB_parts hx).2.2.2; simpa using this
  have hxs : (mkS x).size = a1.size + 7 := by rw [mkS_size]; exact hlen
  have b5 : (((mkS x).size : Int) != (a1.size : Int) + 7) = false := by rw [hxs]; simp
  have hconv := fun w => run_bytes_new (P := Try.prog) w 9 28 5 (mkS x) Try.underlying9 Try.underlying28 Try.underlying5 (by rw [hxs]; unfold maxLen; omega)
  have HC := Lib.hid hconv; clear hconv
  have HS := Lib.hid hs; clear hs
  have HX := Lib.hid hx; clear hx hsr
  have HL := Lib.hid hlen
  obtain ⟨N, hN⟩ : ∃ N : Nat, N = 8 * x.length := ⟨_, rfl⟩
  have eN : 8 * ((a1.size : Int) + 7) = (N : Int) := by omega
  have hNlo : 56 ≤ N := by omega
  have hNhi : N ≤ 4096 := by omega
  have hfb := firstOf_bd a2 N (by omega)
  obtain ⟨f, hf⟩ : ∃ f : Nat, firstOf a2 N = (f : Int) := ⟨(firstOf a2 N).toNat, by omega⟩
  have hfN : f < N := by omega
  have ht1 : (a2.tmod N) < N := Int.tmod_lt_of_pos a2 (by omega)
  have ht2 : -(N : Int) < a2.tmod N := by
    have := Int.lt_tmod_of_pos a2 (show (0 : Int) < N by omega)
    omega
  have hf1 : (a2.tmod N + N).tmod N = (f : Int) := hf
  have hf2 : (a2.tmod N + N) % N = (f : Int) := (Int.tmod_eq_emod_of_nonneg (by omega)).symm.trans hf1
  clear hf hfb hlen
  have HN := Lib.hid hN; clear hN
  obtain ⟨e, hpos⟩ : ∃ e : Nat, (f < N - 32 ∧ e = N - 32) ∨ (N - 32 ≤ f ∧ e = N) := by
    by_cases h : f < N - 32
    · exact ⟨_, .inl ⟨h, rfl⟩⟩
    · exact ⟨_, .inr ⟨by omega, rfl⟩⟩
  have HP := Lib.hid hpos
  have hfe : f ≤ e := by omega
  have heN : e ≤ N := by omega
  have hcase : ((f : Int) < (N : Int) - 32 ∧ e + 32 ≤ N ∧ N ≤ e + 32) ∨ (¬ (f : Int) < (N : Int) - 32 ∧ e ≤ N ∧ N ≤ e) := by omega
  clear hpos
  rcases hcase with ⟨hte, he1, he2⟩ | ⟨hte, he1, he2⟩
  all_goals
    go_enter Try.func3, Try.ntmps3
    go_wp2_with fail
    refine HS.out.mono ?_
    rintro e w1 ⟨rfl, hB1⟩
    obtain ⟨c, w2, hrun, -, -, hbr, hB2, -⟩ := HC.out w1
    rw [mkS_toList] at hbr
    have hB := below_step hB1 hB2 hB1.size
    have hsz := hB1.size
    clear hB1 hB2
    rw [hxs] at hrun hbr
    have HBR := Lib.hid hbr; clear hbr
    have HB := Lib.hid hB; clear hB
    go_wp2_with fail
    go_loopg [14, 15] 32 (fun k ch i wr => ∃ (j : Nat) (b : Bs), j ≤ 32 ∧ k = 32 - j ∧ f + j ≤ e ∧ i = .int .i64 j ∧ ch = .bool (chB B j) ∧ BRow wr w1.heap.size (a1.size + 7) 5 (bcells b) ∧ b.length = a1.size + 7 ∧ le b = le x ^^^ 2 ^ f * (B % 2 ^ j) ∧ Below w.heap.size w wr)
    case atStart => exact ⟨0, x, by omega, rfl, by omega, rfl, by rw [chB_zero], HBR.out, HL.out, by simp [Nat.mod_one], HB.out⟩
    case round =>
      clear hrun HBR HB HS HC hf1 hf2 ht1 ht2 h2 h2' eN hte b5
      obtain ⟨j, b, hj, rfl, hfj, rfl, rfl, hbr, hbl, hle, hB⟩ := hrel
      have HLE := Lib.hid hle; clear hle
      have HBL := Lib.hid hbl
      have hbl1 : b.length ≤ a1.size + 7 := by omega
      clear hbl
      by_cases hc : j < 32 ∧ f + j < e
      · obtain ⟨hc1, hc2⟩ := hc
        have hNx : N = 8 * (a1.size + 7) := by have := HN.out; have := HL.out; omega
        have hq : (f + j) / 8 < a1.size + 7 := by omega
        have hcell := hbr.cell ((f + j) / 8) hq
        have hfz := hbr.frozen ((f + j) / 8) hq
        have hqb : (f + j) / 8 < b.length := by have := HBL.out; omega
        rw [bcells_get b ((f + j) / 8) hqb] at hcell
        obtain ⟨cb, hcb⟩ : ∃ cb, cb = b[(f + j) / 8] := ⟨_, rfl⟩
        rw [← hcb] at hcell
        have HCB := Lib.hid hcb; clear hcb
        have hbit := bit_of B j hB32
        have HBR := Lib.hid hbr; clear hbr
        clear hNx
        by_cases hb1 : B / 2 ^ j % 2 = 1
        · rw [hb1] at hbit
          have hbt : (bits .and .u32 ((B : Int) / 2 ^ j) 1 == 1) = true := by rw [hbit]; rfl
          have HB1 := Lib.hid hb1; clear hb1 hbit
          have hq1 : (0 : Int) ≤ ((f : Int) + (j : Int)) / 8 := by omega
          have hq2 : ((f : Int) + (j : Int)) / 8 < (a1.size : Int) + 7 := by omega
          have hfl := flip_byte cb ((f + j) % 8) (by omega)
          have HFL := Lib.hid hfl; clear hfl
          go_wp2_with fail
          have hbr2 := HBR.out.set_ ((f + j) / 8) (.int .u8 (bits .xor .u8 (cb.toNat : Int) ((2 : Int) ^ ((f + j) % 8) % 256)))
          have hB2 := hB.setCell (p := ⟨w1.heap.size, (f + j) / 8, none⟩) hsz (.int .u8 (bits .xor .u8 (cb.toNat : Int) ((2 : Int) ^ ((f + j) % 8) % 256)))
          have hbr3 : BRow (wr.setCell ⟨w1.heap.size, (f + j) / 8, none⟩ (.int .u8 (bits .xor .u8 (cb.toNat : Int) ((2 : Int) ^ ((f + j) % 8) % 256)))) w1.heap.size (a1.size + 7) 5 (bcells (flip b (f + j))) := by
            have e : bcells (flip b (f + j)) = (bcells b).set ((f + j) / 8) (.int .u8 (bits .xor .u8 (cb.toNat : Int) ((2 : Int) ^ ((f + j) % 8) % 256))) := by
              rw [HFL.out, bcells_set, flip, List.getD_eq_getElem?_getD, List.getElem?_eq_getElem hqb, Option.getD_some, HCB.out]
            rw [e]; exact hbr2
          have hle2 : le (flip b (f + j)) = le x ^^^ 2 ^ f * (B % 2 ^ (j + 1)) := by
            rw [le_flip b (f + j) (by have := HBL.out; omega), HLE.out, mask_succ B j HB1.out, mul_xor, Nat.xor_assoc, Nat.pow_add]
          clear hbr2
          go_roundg (32 - (j + 1))
          case rel => exact ⟨j + 1, flip b (f + j), by omega, rfl, by omega, by go_num, by rw [chB_set B j HB1.out], hbr3, by rw [flip_length]; exact HBL.out, hle2, hB2⟩
          case measure => omega
        · have hb0 : B / 2 ^ j % 2 = 0 := by omega
          rw [hb0] at hbit
          have hbt : (bits .and .u32 ((B : Int) / 2 ^ j) 1 == 1) = false := by rw [hbit]; rfl
          have HB0 := Lib.hid hb0; clear hb1 hb0 hbit hcell hfz
          go_wp2_with fail
          go_roundg (32 - (j + 1))
          case rel => exact ⟨j + 1, b, by omega, rfl, by omega, by go_num, by rw [chB_same B j HB0.out], HBR.out, HBL.out, by rw [mask_same B j HB0.out]; exact HLE.out, hB⟩
          case measure => omega
      · have hrd := hbr.reads
        have hcv := run_string_of (P := Try.prog) wr 28 9 5 Try.underlying28 Try.underlying5 Try.underlying9 wr.heap.size (some ⟨w1.heap.size, 0, none⟩) c b (by rw [HBL.out]; exact hrd)
        rw [HBL.out] at hcv
        have ho := Open_any (mkS b) wr (by rw [mkS_size, HBL.out]; omega)
        unfold OpenPost at ho
        rw [mkS_toList] at ho
        have HO := Lib.hid ho; clear ho hrd hbr
        have hres : ∃ k l, openR b = (k, l, if chB B j then 30 else 0) := by
          by_cases hE : B % 2 ^ j = 0
          · have hb : b = x := le_inj (by rw [HBL.out, HL.out]) (by rw [HLE.out, hE]; simp)
            rw [hb, openR_seal h7 HX.out]
            refine ⟨a0, a1.data.toList, ?_⟩
            rw [if_neg (by simp [chB, hE])]
          · have := harm_told (b := b) (f := f) (m := j) HX.out h7 (by rw [HBL.out, HL.out]) HLE.out (Nat.mod_lt _ (Nat.pow_pos (by omega))) (by omega) hE (by have := HN.out; have := HP.out; omega)
            rw [this]
            refine ⟨0, [], ?_⟩
            rw [if_pos (show chB B j = true from decide_eq_true hE)]
        obtain ⟨k, l, hres⟩ := hres
        have hop := HO.out
        rw [hres] at hop
        have HOP := Lib.hid hop; clear hop HO hres
        have hguard : (j : Int) < 32 → ¬ (f : Int) + (j : Int) < (e : Int) := by omega
        by_cases hch : chB B j = true
        · rw [hch] at HOP ⊢
          simp only [if_true] at HOP
          by_cases hj32 : j < 32
          all_goals
            go_wp2_with fail
            refine HOP.out.mono ?_
            rintro e w3 ⟨rfl, hB3⟩
            have hB' := below_step hB hB3 hB.size
            clear hcv hB hB3
            go_wp2_with fail
            refine (wakes03 _).mono ?_
            rintro e w4 ⟨rfl, hB4⟩
            have hB'' := below_step hB' hB4 hB'.size
            go_wp2_with fail
            go_ret
            exact ⟨rfl, hB''⟩
        · have hch' : chB B j = false := by simpa using hch
          rw [hch'] at HOP ⊢
          simp only [Bool.false_eq_true, if_false] at HOP
          by_cases hj32 : j < 32
          all_goals
            go_wp2_with fail
            refine HOP.out.mono ?_
            rintro e w3 ⟨rfl, hB3⟩
            have hB' := below_step hB hB3 hB.size
            clear hcv hB hB3
            go_wp2_with fail
            refine (wakes03 _).mono ?_
            rintro e w4 ⟨rfl, hB4⟩
            have hB'' := below_step hB' hB4 hB'.size
            go_wp2_with fail
            go_ret
            exact ⟨rfl, hB''⟩

theorem wf_i64 {n : Int} (h : (Lit.int .i64 n).wf = true) : -9223372036854775808 ≤ n ∧ n ≤ 9223372036854775807 := by
  have h1 : IntKind.i64.min = -9223372036854775808 := rfl
  have h2 : IntKind.i64.max = 9223372036854775807 := rfl
  simp only [Lit.wf, Bool.and_eq_true, decide_eq_true_eq] at h
  omega

theorem walk (a0 : Int) (w0 : (Lit.int .i8 a0).wf = true) (a1 : ByteArray) (w1 : a1.size ≤ maxLen) (a2 : Int) (w2 : (Lit.int .i64 a2).wf = true) (a3 : Int) (w3 : (Lit.int .u32 a3).wf = true) (w : World) :
    Calls Try.prog 3 #[.int .i8 a0, .string a1, .int .i64 a2, .int .u32 a3] w fun e w' => e = .returned (.bool true) ∧ Below w.heap.size w w' := by
  by_cases h : 505 < a1.size ∨ a0 < 1
  · exact early a0 a2 a3 a1 w h
  · obtain ⟨B, rfl⟩ := Int.eq_ofNat_of_zero_le (wf_u32 w3).1
    exact late a0 a2 B a1 w (wf_i8 w0).2 (by have := (wf_u32 w3).2; omega) (wf_i64 w2).1 (wf_i64 w2).2 (by omega) (by omega)

theorem own : ownKnob Try.prog.godebug = none := by kernel_rfl
theorem laidOut : laidOutB Try.prog = true := by kernel_rfl
set_option maxRecDepth 100000 in
theorem lifted (os : Os) (started : os.Started) (H : Type) (enc : TypeId × Value → H) :
    ReturnsInHanded {} Try.checked os 3 .any (Rows.sealHarmSpec.pre6 enc Try.prog Try.f3 Rows.sealHarmRow.domain false) (Rows.sealHarmSpec.post enc Try.prog Try.f3 false true false false) := by
  refine returnsInHanded_of_change (C := Try.checked) own started (by kernel_rfl) Try.func3
    (ChangeSpec.witness6 (enc := enc) (C := Try.checked) false ⟨#[], #[.int .i8 0, .string ByteArray.empty, .int .i64 0, .int .u32 0], []⟩ 8 (by kernel_rfl) (by kernel_rfl) (by kernel_rfl) (by kernel_rfl)) ?_
  intro W base args ds gs before hval0 hW hcnd _
  have hval : ∀ (j : Nat) t v, Try.f3.params[j]? = some t → args[j]? = some v → Value.okWide Try.prog W .any base t v := hval0
  have hW' := hW
  obtain ⟨p, q, hA0, hV, rfl, hfz, hnd⟩ := hW
  have hA : DataW.TrodAll enc Try.prog W 0 (fun _ => true) true Try.f3.params.toList args.toList ds p := hA0
  rw [Try.params3] at hA hval
  obtain ⟨v0, vs0, d0, ds0, p0, q0, hargs, rfl, rfl, h0, r0⟩ := trodAll_cons hA
  obtain ⟨v1, vs1, d1, ds1, p1, q1, rfl, rfl, rfl, h1, r1⟩ := trodAll_cons r0
  obtain ⟨v2, vs2, d2, ds2, p2, q2, rfl, rfl, rfl, h2, r2⟩ := trodAll_cons r1
  obtain ⟨v3, vs3, d3, ds3, p3, q3, rfl, rfl, rfl, h3, r3⟩ := trodAll_cons r2
  obtain ⟨rfl, rfl, rfl⟩ := trodAll_nil r3
  obtain rfl : args = #[v0, v1, v2, v3] := by cases args; simp_all
  obtain ⟨rfl, rfl⟩ := trodVars_none hV
  have k0 := h0
  have lt0 : ∀ x ∈ p0, x.block < W.heap.size := by obtain ⟨m, hm⟩ := k0; exact DataW.trod_lt m _ _ _ hm
  obtain ⟨a0, rfl, -, -, w0⟩ := open_int Try.underlying22 (hval 0 22 v0 rfl rfl) h0
  have k1 := h1
  have lt1 : ∀ x ∈ p1, x.block < W.heap.size := by obtain ⟨m, hm⟩ := k1; exact DataW.trod_lt m _ _ _ hm
  obtain ⟨a1, rfl, -, -, w1⟩ := open_string Try.underlying9 (hval 1 9 v1 rfl rfl) h1
  have k2 := h2
  have lt2 : ∀ x ∈ p2, x.block < W.heap.size := by obtain ⟨m, hm⟩ := k2; exact DataW.trod_lt m _ _ _ hm
  obtain ⟨a2, rfl, -, -, w2⟩ := open_int Try.underlying3 (hval 2 3 v2 rfl rfl) h2
  have k3 := h3
  have lt3 : ∀ x ∈ p3, x.block < W.heap.size := by obtain ⟨m, hm⟩ := k3; exact DataW.trod_lt m _ _ _ hm
  obtain ⟨a3, rfl, -, -, w3⟩ := open_int Try.underlying23 (hval 3 23 v3 rfl rfl) h3
  clear hA0 hval0
  refine (walk a0 w0 a1 w1 a2 w2 a3 w3 W).mono fun e W' ⟨he, bel⟩ => ?_
  subst he
  exact ⟨_, rfl, _, _, _, [], _, [], hW', trodAll_mk1 (shut_bool Try.underlying4 _), (trodAll_cons_mk (Below.trod laidOut (by kernel_rfl) (of_decide_eq_true (by kernel_rfl)) k0 bel lt0) (trodAll_cons_mk (Below.trod laidOut (by kernel_rfl) (of_decide_eq_true (by kernel_rfl)) k1 bel lt1) (trodAll_cons_mk (Below.trod laidOut (by kernel_rfl) (of_decide_eq_true (by kernel_rfl)) k2 bel lt2) (trodAll_cons_mk (Below.trod laidOut (by kernel_rfl) (of_decide_eq_true (by kernel_rfl)) k3 bel lt3) trodAll_mk0)))), rfl, bel.frame _, fun h => by cases h⟩

/-- The statement. -/
theorem proved : Rows.SealHarmSaid :=
  OpenClaim.holds_of_wide 3 Try.f3 rfl rfl rfl rfl rfl rfl rfl ⟨rfl, rfl, rfl, rfl, rfl⟩ rfl rfl rfl rfl rfl (by kernel_rfl) Try.func3 (by kernel_rfl)
    (of_decide_eq_true (by kernel_rfl)) (by unfold Func.isWrapper; first | (rw [if_pos (by decide +kernel)]; kernel_rfl) | (rw [if_neg (by decide +kernel)]; exact ⟨rfl, rfl⟩))
    (fun os started H enc _ => lifted os started H enc)
end Go.Proofs.Ytkmiknefbbjggaa.sealHarm

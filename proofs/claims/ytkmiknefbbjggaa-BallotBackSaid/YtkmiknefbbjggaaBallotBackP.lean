/- breakwaterlaw08.BallotBack returns true for every input: a record's sector is read as it, and is none with one bit turned about; what is read has that sector, but the empty one. No condition. -/
import Derived.Test.YtkmiknefbbjggaaRows
import Derived.Test.YtkmiknefbbjggaaWakes8
import Derived.Test.YtkmiknefbbjggaaFrame
namespace Go.Proofs.Ytkmiknefbbjggaa.ballotBack
open Go.ChangeShapes Go.WideShapes Go.ChangeAt Go.RowKit Go.Joins Go.Deep
open Go.ChangeMaps (open_string shut_string)
set_option linter.unusedVariables false

set_option maxRecDepth 100000 in
theorem open_api_Rec_arg {H : Type} {enc : TypeId × Value → H} {w : World} {base : Nat} {spare : Nat → Bool} {held : Bool} {r : Reach} {b0 : Nat} {v : Value} {d : DataW H} {p : List MemPlace}
    (hv : Value.okWide Try.prog w r b0 55 v) (h : DataW.Trod enc Try.prog w base spare held 55 v d p) :
    ∃ (a0 a1 a2 : Int) (a3 : ByteArray), v = .agg #[.int .i64 a0, .int .i64 a1, .int .i64 a2, .string a3] ∧
      (Lit.int .i64 a0).wf = true ∧ (Lit.int .i64 a1).wf = true ∧ (Lit.int .i64 a2).wf = true ∧ a3.size ≤ maxLen := by
  obtain ⟨vs, n, rfl, hlen, hf⟩ := open_struct_arg Try.underlying55 (by kernel_rfl) (by kernel_rfl) hv h
  match vs, hlen, hf with
  | [c0, c1, c2, c3], _, hf =>
    obtain ⟨u, y, hu, ht⟩ := hf 0 _ rfl
    obtain ⟨a0, e, _, w0⟩ := DataW.trod_int Try.underlying3 ht
    injection e with e
    subst e
    simp at hu
    subst hu
    obtain ⟨u, y, hu, ht⟩ := hf 1 _ rfl
    obtain ⟨a1, e, _, w1⟩ := DataW.trod_int Try.underlying3 ht
    injection e with e
    subst e
    simp at hu
    subst hu
    obtain ⟨u, y, hu, ht⟩ := hf 2 _ rfl
    obtain ⟨a2, e, _, w2⟩ := DataW.trod_int Try.underlying3 ht
    injection e with e
    subst e
    simp at hu
    subst hu
    obtain ⟨u, y, hu, ht⟩ := hf 3 _ rfl
    obtain ⟨a3, e, _, w3⟩ := DataW.trod_string Try.underlying9 ht
    injection e with e
    subst e
    simp at hu
    subst hu
    exact ⟨a0, a1, a2, a3, rfl, w0, w1, w2, w3⟩

def firstOf (a n : Int) : Int := (a.tmod n + n).tmod n
theorem firstOf_bd (a : Int) (n : Nat) (hn : 0 < n) : 0 ≤ firstOf a n ∧ firstOf a n < n := by
  unfold firstOf
  have h1 : (a.tmod n) < n := Int.tmod_lt_of_pos a (by omega)
  have h2 : -(n : Int) < a.tmod n := by
    have := Int.lt_tmod_of_pos a (show (0 : Int) < n by omega)
    omega
  have h3 : 0 ≤ a.tmod n + n := by omega
  exact ⟨Int.tmod_nonneg _ h3, Int.tmod_lt_of_pos _ (by omega)⟩
theorem flip_byte (c : UInt8) (t : Nat) (h : t < 8) : bits .xor .u8 (c.toNat : Int) ((2 : Int) ^ t % 256) = (((c ^^^ UInt8.ofNat (2 ^ t)).toNat : Nat) : Int) := by
  have hp : 2 ^ t ≤ 2 ^ 7 := Nat.pow_le_pow_right (by omega) (by omega)
  have e : ((2 : Int) ^ t % 256) = ((2 ^ t : Nat) : Int) := by
    have h1 : ((2 : Int) ^ t) = ((2 ^ t : Nat) : Int) := by simp
    rw [h1]
    generalize 2 ^ t = p at *
    omega
  have hc := c.toNat_lt
  rw [e, u8_xor_nat _ _ (by omega) (by omega), UInt8.toNat_xor, toNat_pow t h]
theorem bcells_set (b : Bs) (i : Nat) (c : UInt8) : (bcells b).set i (.int .u8 (c.toNat : Int)) = bcells (b.set i c) := by simp [bcells, List.map_set]
theorem mayB_zero : mayB 0 0 0 [] = true := by decide

theorem early (i m b bit : Int) (v s : ByteArray) (w : World) (h : 1000 < v.size ∨ 1000 < s.size) :
    Calls Try.prog 11 #[recV i m b v, .string s, .int .i64 bit] w fun e w' => e = .returned (.bool true) ∧ Below w.heap.size w w' := by
  have HB := Lib.hid (fun o => (Below.refl w.heap.size w).alloc (Nat.le_refl _) o)
  by_cases h1 : 1000 < v.size
  · have b1 : (1000 : Int) < (v.size : Int) := by omega
    go_enter Try.func11, Try.ntmps11
    go_wp2_with (go_at_call 31; refine (wakes08 _).mono ?_; rintro e w' ⟨rfl, hB⟩)
    go_ret
    exact ⟨rfl, below_step (HB.out _) hB (by simp)⟩
  · have b1 : ¬ (1000 : Int) < (v.size : Int) := by omega
    have b2 : (1000 : Int) < (s.size : Int) := by omega
    go_enter Try.func11, Try.ntmps11
    go_wp2_with (go_at_call 31; refine (wakes08 _).mono ?_; rintro e w' ⟨rfl, hB⟩)
    go_ret
    exact ⟨rfl, below_step (HB.out _) hB (by simp)⟩

set_option maxHeartbeats 4000000 in
set_option maxRecDepth 100000 in
theorem not_bad (i m b bit : Int) (v s : ByteArray) (w : World) (hv : v.size ≤ 1000) (hs : s.size ≤ 1000) (k1 : -9223372036854775808 ≤ bit) (k2 : bit ≤ 9223372036854775807) (hr : readR s.data.toList = ((0, 0, 0, []), 50)) (hm0 : mayB i m b v.data.toList = false) :
    Calls Try.prog 11 #[recV i m b v, .string s, .int .i64 bit] w fun e w' => e = .returned (.bool true) ∧ Below w.heap.size w w' := by
  have d1 : decide ((1000 : Int) < (v.size : Int)) = false := by simp; omega
  have d2 : decide ((1000 : Int) < (s.size : Int)) = false := by simp; omega
  have rs := fun w => Read_any s w (by omega)
  rw [hr] at rs
  unfold ReadPost at rs
  dsimp only at rs
  rw [mkS_nil] at rs
  have RS := Lib.hid rs; clear rs hr
  have by0 := fun w => Bytes_any i m b v w (by omega)
  rw [bytes_not hm0] at by0
  unfold MakePost at by0
  have BY := Lib.hid by0; clear by0 hm0
  go_enter Try.func11, Try.ntmps11
  go_wp2_with fail
  refine (BY.out _).mono ?_
  rintro e w1 ⟨rfl, hB⟩
  have HB1 := Lib.hid (below_step ((Below.refl w.heap.size w).alloc (Nat.le_refl _) _) hB (by simp)); clear hB
  go_wp2_with fail
  refine (RS.out _).mono ?_
  rintro e t1 ⟨rfl, hB⟩
  have HT1 := Lib.hid (below_step HB1.out hB HB1.out.size); clear hB HB1
  go_wp2_with fail
  refine (wakes08 _).mono ?_
  rintro e t2 ⟨rfl, hB⟩
  have hB2 := below_step (HT1.out.alloc HT1.out.size _) hB (by have := HT1.out.size; simp; omega); clear hB
  go_wp2_with fail
  go_ret
  exact ⟨rfl, hB2⟩

set_option maxHeartbeats 4000000 in
set_option maxRecDepth 100000 in
theorem may_bad (i m b bit : Int) (v s : ByteArray) (w : World) (hv : v.size ≤ 1000) (hs : s.size ≤ 1000) (k1 : -9223372036854775808 ≤ bit) (k2 : bit ≤ 9223372036854775807) (hr : readR s.data.toList = ((0, 0, 0, []), 50)) (hm0 : mayB i m b v.data.toList = true) :
    Calls Try.prog 11 #[recV i m b v, .string s, .int .i64 bit] w fun e w' => e = .returned (.bool true) ∧ Below w.heap.size w w' := by
  have d1 : decide ((1000 : Int) < (v.size : Int)) = false := by simp; omega
  have d2 : decide ((1000 : Int) < (s.size : Int)) = false := by simp; omega
  have rs := fun w => Read_any s w (by omega)
  rw [hr] at rs
  unfold ReadPost at rs
  dsimp only at rs
  rw [mkS_nil] at rs
  have RS := Lib.hid rs; clear rs hr
  obtain ⟨lx, x, hx, hxs, hxr, hxl⟩ := bytes_may hm0
  have hl64 := (mayB_parts hm0).2.2.2.2.2.2
  have by0 := fun w => Bytes_any i m b v w (by omega)
  rw [hx] at by0
  unfold MakePost at by0
  have rd0 := fun w => Read_any (mkS x) w (by rw [mkS_size]; omega)
  rw [mkS_toList, hxr] at rd0
  unfold ReadPost at rd0
  dsimp only at by0 rd0
  rw [mkS_self] at rd0
  obtain ⟨z, hz⟩ : ∃ z, z = x.length := ⟨_, rfl⟩
  have hz1 : 21 ≤ z := by omega
  have hz2 : z ≤ 85 := by omega
  have hxz : (mkS x).size = z := by rw [mkS_size, hz]
  have b5 : (((mkS x).size : Int) == 0) = false := by rw [hxz]; simp; omega
  have HC := Lib.hid (fun w => run_bytes_new (P := Try.prog) w 9 28 5 (mkS x) Try.underlying9 Try.underlying28 Try.underlying5 (by rw [hxz]; unfold maxLen; omega))
  obtain ⟨N, hN⟩ : ∃ N : Nat, N = 8 * z := ⟨_, rfl⟩
  have eN : 8 * (z : Int) = (N : Int) := by omega
  have hfb := firstOf_bd bit N (by omega)
  obtain ⟨f, hf⟩ : ∃ f : Nat, firstOf bit N = (f : Int) := ⟨(firstOf bit N).toNat, by omega⟩
  have hfN : f < N := by omega
  have ht1 : (bit.tmod N) < N := Int.tmod_lt_of_pos bit (by omega)
  have ht2 : -(N : Int) < bit.tmod N := by
    have := Int.lt_tmod_of_pos bit (show (0 : Int) < N by omega)
    omega
  have hf1 : (bit.tmod N + N).tmod N = (f : Int) := hf
  have hf2 : (bit.tmod N + N) % N = (f : Int) := (Int.tmod_eq_emod_of_nonneg (by omega)).symm.trans hf1
  have hNhi : N ≤ 680 := by omega
  have hNlo : 168 ≤ N := by omega
  have hq : f / 8 < z := by omega
  have hq1 : (0 : Int) ≤ (f : Int) / 8 := by omega
  have hq2 : (f : Int) / 8 < (z : Int) := by omega
  have hqb : f / 8 < x.length := by omega
  have hfl : readR (flip x f) = ((0, 0, 0, []), 50) := read_flip hxs (by omega)
  have rf := fun w => Read_any (mkS (flip x f)) w (by rw [mkS_size, flip_length]; omega)
  rw [mkS_toList, hfl] at rf
  unfold ReadPost at rf
  have HFL := Lib.hid (flip_length x f)
  have HZ0 := Lib.hid hz
  clear hf hfb hl64 hfl hxs hxr hx hxl hz hN hm0
  have BY := Lib.hid by0; clear by0
  have RD := Lib.hid rd0; clear rd0
  have RF := Lib.hid rf; clear rf
  go_enter Try.func11, Try.ntmps11
  go_wp2_with fail
  refine (BY.out _).mono ?_
  rintro e w1 ⟨rfl, hB⟩
  have hz0 := (Blk.new w 55 (recCells i m b v)).below hB (by simp)
  have HB1 := Lib.hid (below_step ((Below.refl w.heap.size w).alloc (Nat.le_refl _) _) hB (by simp)); clear hB
  have HZ1 := Lib.hid hz0; clear hz0
  go_wp2_with fail
  refine (RD.out _).mono ?_
  rintro e w2 ⟨rfl, hB⟩
  have hz0 := HZ1.out.below hB HZ1.out.lt
  have hlt0 := hz0.lt
  have HB2 := Lib.hid (below_step HB1.out hB HB1.out.size); clear hB HB1 HZ1
  obtain ⟨c0, c1, c2, c3⟩ := hz0.cells4
  clear hz0
  obtain ⟨c, w3, hrun, -, -, hbr, hB3, -⟩ := HC.out (w2.alloc (Obj.cells (recCells i m b v) 55))
  rw [mkS_toList] at hbr
  rw [hxz] at hrun hbr
  have hsz := HB2.out.size
  have HB3 := Lib.hid (below_step (HB2.out.alloc HB2.out.size _) hB3 (by simp; omega)); clear hB3 HB2
  have hcell := hbr.cell (f / 8) hq
  have hfz := hbr.frozen (f / 8) hq
  rw [bcells_get x (f / 8) hqb] at hcell
  have hbr2 := hbr.set_ (f / 8) (.int .u8 (bits .xor .u8 (x[f / 8].toNat : Int) ((2 : Int) ^ (f % 8) % 256)))
  have e2 : (bcells x).set (f / 8) (.int .u8 (bits .xor .u8 (x[f / 8].toNat : Int) ((2 : Int) ^ (f % 8) % 256))) = bcells (flip x f) := by
    rw [flip_byte _ _ (by omega), bcells_set, flip, List.getD_eq_getElem?_getD, List.getElem?_eq_getElem hqb, Option.getD_some]
  rw [e2] at hbr2
  have hlen : z = (flip x f).length := by rw [HFL.out, HZ0.out]
  have hrd := hbr2.reads
  rw [hlen] at hrd
  have hcv := run_string_of (P := Try.prog) _ 28 9 5 Try.underlying28 Try.underlying5 Try.underlying9 _ _ c (flip x f) hrd
  rw [← hlen] at hcv
  clear hrd hbr2 hbr e2 hlen HFL HZ0
  have HB4 := Lib.hid (HB3.out.setCell (p := ⟨(w2.alloc (Obj.cells (recCells i m b v) 55)).heap.size, f / 8, none⟩) (by simp; omega) (.int .u8 (bits .xor .u8 (x[f / 8].toNat : Int) ((2 : Int) ^ (f % 8) % 256)))); clear HB3
  have hszA : (w2.alloc (Obj.cells (recCells i m b v) 55)).heap.size = w2.heap.size + 1 := by simp
  rw [hszA] at hcell hfz hrun hcv HB4
  clear hszA
  generalize x[f / 8] = cb at *
  generalize mkS (flip x f) = FX at *
  go_wp2_with fail
  refine (RF.out _).mono ?_
  rintro e w5 ⟨rfl, hB⟩
  have HB5 := Lib.hid (below_step HB4.out hB HB4.out.size); clear hB HB4
  clear hcv hcell hfz hrun c0 c1 c2 c3
  go_wp2_with fail
  refine (RS.out _).mono ?_
  rintro e t1 ⟨rfl, hB⟩
  have HT1 := Lib.hid (below_step HB5.out hB HB5.out.size); clear hB HB5
  go_wp2_with fail
  refine (wakes08 _).mono ?_
  rintro e t2 ⟨rfl, hB⟩
  have hB2 := below_step (HT1.out.alloc HT1.out.size _) hB (by have := HT1.out.size; simp; omega); clear hB
  go_wp2_with fail
  go_ret
  exact ⟨rfl, hB2⟩

set_option maxHeartbeats 4000000 in
set_option maxRecDepth 100000 in
theorem not_empty (i m b bit : Int) (v s : ByteArray) (w : World) (hv : v.size ≤ 1000) (hs : s.size ≤ 1000) (k1 : -9223372036854775808 ≤ bit) (k2 : bit ≤ 9223372036854775807) (hr : s = ⟨#[]⟩) (hm0 : mayB i m b v.data.toList = false) :
    Calls Try.prog 11 #[recV i m b v, .string s, .int .i64 bit] w fun e w' => e = .returned (.bool true) ∧ Below w.heap.size w w' := by
  have d1 : decide ((1000 : Int) < (v.size : Int)) = false := by simp; omega
  have d2 : decide ((1000 : Int) < (s.size : Int)) = false := by simp; omega
  subst hr
  have rs := fun w => Read_any ⟨#[]⟩ w (by decide)
  rw [show readR (⟨#[]⟩ : ByteArray).data.toList = ((0, 0, 0, []), 0) from rfl] at rs
  obtain ⟨_, y, hy, _, _, hyl⟩ := bytes_may mayB_zero
  have ys := fun w => Bytes_any 0 0 0 ⟨#[]⟩ w (by decide)
  have ms := fun w => May_any 0 0 0 ⟨#[]⟩ w (by decide)
  rw [show (⟨#[]⟩ : ByteArray).data.toList = [] from rfl] at ys ms
  rw [hy] at ys
  rw [mayB_zero] at ms
  unfold ReadPost at rs
  unfold MakePost at ys
  dsimp only at rs ys
  rw [mkS_nil] at rs
  have RS := Lib.hid rs; clear rs
  have YS := Lib.hid ys; clear ys
  have MS := Lib.hid ms; clear ms
  clear hy hyl
  generalize mkS y = Y at *
  have by0 := fun w => Bytes_any i m b v w (by omega)
  rw [bytes_not hm0] at by0
  unfold MakePost at by0
  have BY := Lib.hid by0; clear by0 hm0
  go_enter Try.func11, Try.ntmps11
  go_wp2_with fail
  refine (BY.out _).mono ?_
  rintro e w1 ⟨rfl, hB⟩
  have HB1 := Lib.hid (below_step ((Below.refl w.heap.size w).alloc (Nat.le_refl _) _) hB (by simp)); clear hB
  go_wp2_with fail
  refine (RS.out _).mono ?_
  rintro e t1 ⟨rfl, hB⟩
  have HT1 := Lib.hid (below_step HB1.out hB HB1.out.size); clear hB HB1
  go_wp2_with fail
  refine (YS.out _).mono ?_
  rintro e t2 ⟨rfl, hB⟩
  have hz := (Blk.new t1 55 (recCells 0 0 0 ⟨#[]⟩)).below hB (by simp)
  have HT2 := Lib.hid (below_step (HT1.out.alloc HT1.out.size _) hB (by have := HT1.out.size; simp; omega)); clear hB HT1
  obtain ⟨c0, c1, c2, c3⟩ := hz.cells4
  have HZ := Lib.hid hz; clear hz
  go_wp2_with fail
  refine (MS.out _).mono ?_
  rintro e t3 ⟨rfl, hB⟩
  have hz := HZ.out.below hB HZ.out.lt
  have HT3 := Lib.hid (below_step HT2.out hB HT2.out.size); clear hB HT2 HZ c0 c1 c2 c3
  obtain ⟨c0, c1, c2, c3⟩ := hz.cells4
  clear hz
  go_wp2_with fail
  refine (wakes08 _).mono ?_
  rintro e t4 ⟨rfl, hB⟩
  have hB4 := below_step HT3.out hB HT3.out.size; clear hB
  go_wp2_with fail
  go_ret
  exact ⟨rfl, hB4⟩

set_option maxHeartbeats 4000000 in
set_option maxRecDepth 100000 in
theorem may_empty (i m b bit : Int) (v s : ByteArray) (w : World) (hv : v.size ≤ 1000) (hs : s.size ≤ 1000) (k1 : -9223372036854775808 ≤ bit) (k2 : bit ≤ 9223372036854775807) (hr : s = ⟨#[]⟩) (hm0 : mayB i m b v.data.toList = true) :
    Calls Try.prog 11 #[recV i m b v, .string s, .int .i64 bit] w fun e w' => e = .returned (.bool true) ∧ Below w.heap.size w w' := by
  have d1 : decide ((1000 : Int) < (v.size : Int)) = false := by simp; omega
  have d2 : decide ((1000 : Int) < (s.size : Int)) = false := by simp; omega
  subst hr
  have rs := fun w => Read_any ⟨#[]⟩ w (by decide)
  rw [show readR (⟨#[]⟩ : ByteArray).data.toList = ((0, 0, 0, []), 0) from rfl] at rs
  obtain ⟨_, y, hy, _, _, hyl⟩ := bytes_may mayB_zero
  have ys := fun w => Bytes_any 0 0 0 ⟨#[]⟩ w (by decide)
  have ms := fun w => May_any 0 0 0 ⟨#[]⟩ w (by decide)
  rw [show (⟨#[]⟩ : ByteArray).data.toList = [] from rfl] at ys ms
  rw [hy] at ys
  rw [mayB_zero] at ms
  unfold ReadPost at rs
  unfold MakePost at ys
  dsimp only at rs ys
  rw [mkS_nil] at rs
  have RS := Lib.hid rs; clear rs
  have YS := Lib.hid ys; clear ys
  have MS := Lib.hid ms; clear ms
  clear hy hyl
  generalize mkS y = Y at *
  obtain ⟨lx, x, hx, hxs, hxr, hxl⟩ := bytes_may hm0
  have hl64 := (mayB_parts hm0).2.2.2.2.2.2
  have by0 := fun w => Bytes_any i m b v w (by omega)
  rw [hx] at by0
  unfold MakePost at by0
  have rd0 := fun w => Read_any (mkS x) w (by rw [mkS_size]; omega)
  rw [mkS_toList, hxr] at rd0
  unfold ReadPost at rd0
  dsimp only at by0 rd0
  rw [mkS_self] at rd0
  obtain ⟨z, hz⟩ : ∃ z, z = x.length := ⟨_, rfl⟩
  have hz1 : 21 ≤ z := by omega
  have hz2 : z ≤ 85 := by omega
  have hxz : (mkS x).size = z := by rw [mkS_size, hz]
  have b5 : (((mkS x).size : Int) == 0) = false := by rw [hxz]; simp; omega
  have HC := Lib.hid (fun w => run_bytes_new (P := Try.prog) w 9 28 5 (mkS x) Try.underlying9 Try.underlying28 Try.underlying5 (by rw [hxz]; unfold maxLen; omega))
  obtain ⟨N, hN⟩ : ∃ N : Nat, N = 8 * z := ⟨_, rfl⟩
  have eN : 8 * (z : Int) = (N : Int) := by omega
  have hfb := firstOf_bd bit N (by omega)
  obtain ⟨f, hf⟩ : ∃ f : Nat, firstOf bit N = (f : Int) := ⟨(firstOf bit N).toNat, by omega⟩
  have hfN : f < N := by omega
  have ht1 : (bit.tmod N) < N := Int.tmod_lt_of_pos bit (by omega)
  have ht2 : -(N : Int) < bit.tmod N := by
    have := Int.lt_tmod_of_pos bit (show (0 : Int) < N by omega)
    omega
  have hf1 : (bit.tmod N + N).tmod N = (f : Int) := hf
  have hf2 : (bit.tmod N + N) % N = (f : Int) := (Int.tmod_eq_emod_of_nonneg (by omega)).symm.trans hf1
  have hNhi : N ≤ 680 := by omega
  have hNlo : 168 ≤ N := by omega
  have hq : f / 8 < z := by omega
  have hq1 : (0 : Int) ≤ (f : Int) / 8 := by omega
  have hq2 : (f : Int) / 8 < (z : Int) := by omega
  have hqb : f / 8 < x.length := by omega
  have hfl : readR (flip x f) = ((0, 0, 0, []), 50) := read_flip hxs (by omega)
  have rf := fun w => Read_any (mkS (flip x f)) w (by rw [mkS_size, flip_length]; omega)
  rw [mkS_toList, hfl] at rf
  unfold ReadPost at rf
  have HFL := Lib.hid (flip_length x f)
  have HZ0 := Lib.hid hz
  clear hf hfb hl64 hfl hxs hxr hx hxl hz hN hm0
  have BY := Lib.hid by0; clear by0
  have RD := Lib.hid rd0; clear rd0
  have RF := Lib.hid rf; clear rf
  go_enter Try.func11, Try.ntmps11
  go_wp2_with fail
  refine (BY.out _).mono ?_
  rintro e w1 ⟨rfl, hB⟩
  have hz0 := (Blk.new w 55 (recCells i m b v)).below hB (by simp)
  have HB1 := Lib.hid (below_step ((Below.refl w.heap.size w).alloc (Nat.le_refl _) _) hB (by simp)); clear hB
  have HZ1 := Lib.hid hz0; clear hz0
  go_wp2_with fail
  refine (RD.out _).mono ?_
  rintro e w2 ⟨rfl, hB⟩
  have hz0 := HZ1.out.below hB HZ1.out.lt
  have hlt0 := hz0.lt
  have HB2 := Lib.hid (below_step HB1.out hB HB1.out.size); clear hB HB1 HZ1
  obtain ⟨c0, c1, c2, c3⟩ := hz0.cells4
  clear hz0
  obtain ⟨c, w3, hrun, -, -, hbr, hB3, -⟩ := HC.out (w2.alloc (Obj.cells (recCells i m b v) 55))
  rw [mkS_toList] at hbr
  rw [hxz] at hrun hbr
  have hsz := HB2.out.size
  have HB3 := Lib.hid (below_step (HB2.out.alloc HB2.out.size _) hB3 (by simp; omega)); clear hB3 HB2
  have hcell := hbr.cell (f / 8) hq
  have hfz := hbr.frozen (f / 8) hq
  rw [bcells_get x (f / 8) hqb] at hcell
  have hbr2 := hbr.set_ (f / 8) (.int .u8 (bits .xor .u8 (x[f / 8].toNat : Int) ((2 : Int) ^ (f % 8) % 256)))
  have e2 : (bcells x).set (f / 8) (.int .u8 (bits .xor .u8 (x[f / 8].toNat : Int) ((2 : Int) ^ (f % 8) % 256))) = bcells (flip x f) := by
    rw [flip_byte _ _ (by omega), bcells_set, flip, List.getD_eq_getElem?_getD, List.getElem?_eq_getElem hqb, Option.getD_some]
  rw [e2] at hbr2
  have hlen : z = (flip x f).length := by rw [HFL.out, HZ0.out]
  have hrd := hbr2.reads
  rw [hlen] at hrd
  have hcv := run_string_of (P := Try.prog) _ 28 9 5 Try.underlying28 Try.underlying5 Try.underlying9 _ _ c (flip x f) hrd
  rw [← hlen] at hcv
  clear hrd hbr2 hbr e2 hlen HFL HZ0
  have HB4 := Lib.hid (HB3.out.setCell (p := ⟨(w2.alloc (Obj.cells (recCells i m b v) 55)).heap.size, f / 8, none⟩) (by simp; omega) (.int .u8 (bits .xor .u8 (x[f / 8].toNat : Int) ((2 : Int) ^ (f % 8) % 256)))); clear HB3
  have hszA : (w2.alloc (Obj.cells (recCells i m b v) 55)).heap.size = w2.heap.size + 1 := by simp
  rw [hszA] at hcell hfz hrun hcv HB4
  clear hszA
  generalize x[f / 8] = cb at *
  generalize mkS (flip x f) = FX at *
  go_wp2_with fail
  refine (RF.out _).mono ?_
  rintro e w5 ⟨rfl, hB⟩
  have HB5 := Lib.hid (below_step HB4.out hB HB4.out.size); clear hB HB4
  clear hcv hcell hfz hrun c0 c1 c2 c3
  go_wp2_with fail
  refine (RS.out _).mono ?_
  rintro e t1 ⟨rfl, hB⟩
  have HT1 := Lib.hid (below_step HB5.out hB HB5.out.size); clear hB HB5
  go_wp2_with fail
  refine (YS.out _).mono ?_
  rintro e t2 ⟨rfl, hB⟩
  have hz := (Blk.new t1 55 (recCells 0 0 0 ⟨#[]⟩)).below hB (by simp)
  have HT2 := Lib.hid (below_step (HT1.out.alloc HT1.out.size _) hB (by have := HT1.out.size; simp; omega)); clear hB HT1
  obtain ⟨c0, c1, c2, c3⟩ := hz.cells4
  have HZ := Lib.hid hz; clear hz
  go_wp2_with fail
  refine (MS.out _).mono ?_
  rintro e t3 ⟨rfl, hB⟩
  have hz := HZ.out.below hB HZ.out.lt
  have HT3 := Lib.hid (below_step HT2.out hB HT2.out.size); clear hB HT2 HZ c0 c1 c2 c3
  obtain ⟨c0, c1, c2, c3⟩ := hz.cells4
  clear hz
  go_wp2_with fail
  refine (wakes08 _).mono ?_
  rintro e t4 ⟨rfl, hB⟩
  have hB4 := below_step HT3.out hB HT3.out.size; clear hB
  go_wp2_with fail
  go_ret
  exact ⟨rfl, hB4⟩

set_option maxHeartbeats 4000000 in
set_option maxRecDepth 100000 in
theorem not_rec (i m b bit : Int) (v s : ByteArray) (w : World) (hv : v.size ≤ 1000) (hs : s.size ≤ 1000) (k1 : -9223372036854775808 ≤ bit) (k2 : bit ≤ 9223372036854775807) (i' m' b' : Int) (v' : Bs) (hne : s.data.toList.isEmpty = false) (hr : readR s.data.toList = ((i', m', b', v'), 0)) (hm : mayB i' m' b' v' = true) (hy : bytesR i' m' b' v' = (s.data.toList, 0)) (hm0 : mayB i m b v.data.toList = false) :
    Calls Try.prog 11 #[recV i m b v, .string s, .int .i64 bit] w fun e w' => e = .returned (.bool true) ∧ Below w.heap.size w w' := by
  have d1 : decide ((1000 : Int) < (v.size : Int)) = false := by simp; omega
  have d2 : decide ((1000 : Int) < (s.size : Int)) = false := by simp; omega
  have rs := fun w => Read_any s w (by omega)
  rw [hr] at rs
  have hl6 := (mayB_parts hm).2.2.2.2.2.2
  have ys := fun w => Bytes_any i' m' b' (mkS v') w (by rw [mkS_size]; omega)
  have ms := fun w => May_any i' m' b' (mkS v') w (by rw [mkS_size]; unfold maxLen; omega)
  rw [mkS_toList] at ys ms
  rw [hy] at ys
  rw [hm] at ms
  unfold ReadPost at rs
  unfold MakePost at ys
  dsimp only at rs ys
  rw [mkS_self] at ys
  have RS := Lib.hid rs; clear rs
  have YS := Lib.hid ys; clear ys
  have MS := Lib.hid ms; clear ms
  have hne' := str_some hne
  clear hy hm hr hl6 hne
  generalize mkS v' = V' at *
  have by0 := fun w => Bytes_any i m b v w (by omega)
  rw [bytes_not hm0] at by0
  unfold MakePost at by0
  have BY := Lib.hid by0; clear by0 hm0
  go_enter Try.func11, Try.ntmps11
  go_wp2_with fail
  refine (BY.out _).mono ?_
  rintro e w1 ⟨rfl, hB⟩
  have HB1 := Lib.hid (below_step ((Below.refl w.heap.size w).alloc (Nat.le_refl _) _) hB (by simp)); clear hB
  go_wp2_with fail
  refine (RS.out _).mono ?_
  rintro e t1 ⟨rfl, hB⟩
  have HT1 := Lib.hid (below_step HB1.out hB HB1.out.size); clear hB HB1
  go_wp2_with fail
  refine (YS.out _).mono ?_
  rintro e t2 ⟨rfl, hB⟩
  have hz := (Blk.new t1 55 (recCells i' m' b' V')).below hB (by simp)
  have HT2 := Lib.hid (below_step (HT1.out.alloc HT1.out.size _) hB (by have := HT1.out.size; simp; omega)); clear hB HT1
  obtain ⟨c0, c1, c2, c3⟩ := hz.cells4
  have HZ := Lib.hid hz; clear hz
  go_wp2_with fail
  refine (MS.out _).mono ?_
  rintro e t3 ⟨rfl, hB⟩
  have hz := HZ.out.below hB HZ.out.lt
  have HT3 := Lib.hid (below_step HT2.out hB HT2.out.size); clear hB HT2 HZ c0 c1 c2 c3
  obtain ⟨c0, c1, c2, c3⟩ := hz.cells4
  clear hz
  go_wp2_with fail
  refine (wakes08 _).mono ?_
  rintro e t4 ⟨rfl, hB⟩
  have hB4 := below_step HT3.out hB HT3.out.size; clear hB
  go_wp2_with fail
  go_ret
  exact ⟨rfl, hB4⟩

set_option maxHeartbeats 4000000 in
set_option maxRecDepth 100000 in
theorem may_rec (i m b bit : Int) (v s : ByteArray) (w : World) (hv : v.size ≤ 1000) (hs : s.size ≤ 1000) (k1 : -9223372036854775808 ≤ bit) (k2 : bit ≤ 9223372036854775807) (i' m' b' : Int) (v' : Bs) (hne : s.data.toList.isEmpty = false) (hr : readR s.data.toList = ((i', m', b', v'), 0)) (hm : mayB i' m' b' v' = true) (hy : bytesR i' m' b' v' = (s.data.toList, 0)) (hm0 : mayB i m b v.data.toList = true) :
    Calls Try.prog 11 #[recV i m b v, .string s, .int .i64 bit] w fun e w' => e = .returned (.bool true) ∧ Below w.heap.size w w' := by
  have d1 : decide ((1000 : Int) < (v.size : Int)) = false := by simp; omega
  have d2 : decide ((1000 : Int) < (s.size : Int)) = false := by simp; omega
  have rs := fun w => Read_any s w (by omega)
  rw [hr] at rs
  have hl6 := (mayB_parts hm).2.2.2.2.2.2
  have ys := fun w => Bytes_any i' m' b' (mkS v') w (by rw [mkS_size]; omega)
  have ms := fun w => May_any i' m' b' (mkS v') w (by rw [mkS_size]; unfold maxLen; omega)
  rw [mkS_toList] at ys ms
  rw [hy] at ys
  rw [hm] at ms
  unfold ReadPost at rs
  unfold MakePost at ys
  dsimp only at rs ys
  rw [mkS_self] at ys
  have RS := Lib.hid rs; clear rs
  have YS := Lib.hid ys; clear ys
  have MS := Lib.hid ms; clear ms
  have hne' := str_some hne
  clear hy hm hr hl6 hne
  generalize mkS v' = V' at *
  obtain ⟨lx, x, hx, hxs, hxr, hxl⟩ := bytes_may hm0
  have hl64 := (mayB_parts hm0).2.2.2.2.2.2
  have by0 := fun w => Bytes_any i m b v w (by omega)
  rw [hx] at by0
  unfold MakePost at by0
  have rd0 := fun w => Read_any (mkS x) w (by rw [mkS_size]; omega)
  rw [mkS_toList, hxr] at rd0
  unfold ReadPost at rd0
  dsimp only at by0 rd0
  rw [mkS_self] at rd0
  obtain ⟨z, hz⟩ : ∃ z, z = x.length := ⟨_, rfl⟩
  have hz1 : 21 ≤ z := by omega
  have hz2 : z ≤ 85 := by omega
  have hxz : (mkS x).size = z := by rw [mkS_size, hz]
  have b5 : (((mkS x).size : Int) == 0) = false := by rw [hxz]; simp; omega
  have HC := Lib.hid (fun w => run_bytes_new (P := Try.prog) w 9 28 5 (mkS x) Try.underlying9 Try.underlying28 Try.underlying5 (by rw [hxz]; unfold maxLen; omega))
  obtain ⟨N, hN⟩ : ∃ N : Nat, N = 8 * z := ⟨_, rfl⟩
  have eN : 8 * (z : Int) = (N : Int) := by omega
  have hfb := firstOf_bd bit N (by omega)
  obtain ⟨f, hf⟩ : ∃ f : Nat, firstOf bit N = (f : Int) := ⟨(firstOf bit N).toNat, by omega⟩
  have hfN : f < N := by omega
  have ht1 : (bit.tmod N) < N := Int.tmod_lt_of_pos bit (by omega)
  have ht2 : -(N : Int) < bit.tmod N := by
    have := Int.lt_tmod_of_pos bit (show (0 : Int) < N by omega)
    omega
  have hf1 : (bit.tmod N + N).tmod N = (f : Int) := hf
  have hf2 : (bit.tmod N + N) % N = (f : Int) := (Int.tmod_eq_emod_of_nonneg (by omega)).symm.trans hf1
  have hNhi : N ≤ 680 := by omega
  have hNlo : 168 ≤ N := by omega
  have hq : f / 8 < z := by omega
  have hq1 : (0 : Int) ≤ (f : Int) / 8 := by omega
  have hq2 : (f : Int) / 8 < (z : Int) := by omega
  have hqb : f / 8 < x.length := by omega
  have hfl : readR (flip x f) = ((0, 0, 0, []), 50) := read_flip hxs (by omega)
  have rf := fun w => Read_any (mkS (flip x f)) w (by rw [mkS_size, flip_length]; omega)
  rw [mkS_toList, hfl] at rf
  unfold ReadPost at rf
  have HFL := Lib.hid (flip_length x f)
  have HZ0 := Lib.hid hz
  clear hf hfb hl64 hfl hxs hxr hx hxl hz hN hm0
  have BY := Lib.hid by0; clear by0
  have RD := Lib.hid rd0; clear rd0
  have RF := Lib.hid rf; clear rf
  go_enter Try.func11, Try.ntmps11
  go_wp2_with fail
  refine (BY.out _).mono ?_
  rintro e w1 ⟨rfl, hB⟩
  have hz0 := (Blk.new w 55 (recCells i m b v)).below hB (by simp)
  have HB1 := Lib.hid (below_step ((Below.refl w.heap.size w).alloc (Nat.le_refl _) _) hB (by simp)); clear hB
  have HZ1 := Lib.hid hz0; clear hz0
  go_wp2_with fail
  refine (RD.out _).mono ?_
  rintro e w2 ⟨rfl, hB⟩
  have hz0 := HZ1.out.below hB HZ1.out.lt
  have hlt0 := hz0.lt
  have HB2 := Lib.hid (below_step HB1.out hB HB1.out.size); clear hB HB1 HZ1
  obtain ⟨c0, c1, c2, c3⟩ := hz0.cells4
  clear hz0
  obtain ⟨c, w3, hrun, -, -, hbr, hB3, -⟩ := HC.out (w2.alloc (Obj.cells (recCells i m b v) 55))
  rw [mkS_toList] at hbr
  rw [hxz] at hrun hbr
  have hsz := HB2.out.size
  have HB3 := Lib.hid (below_step (HB2.out.alloc HB2.out.size _) hB3 (by simp; omega)); clear hB3 HB2
  have hcell := hbr.cell (f / 8) hq
  have hfz := hbr.frozen (f / 8) hq
  rw [bcells_get x (f / 8) hqb] at hcell
  have hbr2 := hbr.set_ (f / 8) (.int .u8 (bits .xor .u8 (x[f / 8].toNat : Int) ((2 : Int) ^ (f % 8) % 256)))
  have e2 : (bcells x).set (f / 8) (.int .u8 (bits .xor .u8 (x[f / 8].toNat : Int) ((2 : Int) ^ (f % 8) % 256))) = bcells (flip x f) := by
    rw [flip_byte _ _ (by omega), bcells_set, flip, List.getD_eq_getElem?_getD, List.getElem?_eq_getElem hqb, Option.getD_some]
  rw [e2] at hbr2
  have hlen : z = (flip x f).length := by rw [HFL.out, HZ0.out]
  have hrd := hbr2.reads
  rw [hlen] at hrd
  have hcv := run_string_of (P := Try.prog) _ 28 9 5 Try.underlying28 Try.underlying5 Try.underlying9 _ _ c (flip x f) hrd
  rw [← hlen] at hcv
  clear hrd hbr2 hbr e2 hlen HFL HZ0
  have HB4 := Lib.hid (HB3.out.setCell (p := ⟨(w2.alloc (Obj.cells (recCells i m b v) 55)).heap.size, f / 8, none⟩) (by simp; omega) (.int .u8 (bits .xor .u8 (x[f / 8].toNat : Int) ((2 : Int) ^ (f % 8) % 256)))); clear HB3
  have hszA : (w2.alloc (Obj.cells (recCells i m b v) 55)).heap.size = w2.heap.size + 1 := by simp
  rw [hszA] at hcell hfz hrun hcv HB4
  clear hszA
  generalize x[f / 8] = cb at *
  generalize mkS (flip x f) = FX at *
  go_wp2_with fail
  refine (RF.out _).mono ?_
  rintro e w5 ⟨rfl, hB⟩
  have HB5 := Lib.hid (below_step HB4.out hB HB4.out.size); clear hB HB4
  clear hcv hcell hfz hrun c0 c1 c2 c3
  go_wp2_with fail
  refine (RS.out _).mono ?_
  rintro e t1 ⟨rfl, hB⟩
  have HT1 := Lib.hid (below_step HB5.out hB HB5.out.size); clear hB HB5
  go_wp2_with fail
  refine (YS.out _).mono ?_
  rintro e t2 ⟨rfl, hB⟩
  have hz := (Blk.new t1 55 (recCells i' m' b' V')).below hB (by simp)
  have HT2 := Lib.hid (below_step (HT1.out.alloc HT1.out.size _) hB (by have := HT1.out.size; simp; omega)); clear hB HT1
  obtain ⟨c0, c1, c2, c3⟩ := hz.cells4
  have HZ := Lib.hid hz; clear hz
  go_wp2_with fail
  refine (MS.out _).mono ?_
  rintro e t3 ⟨rfl, hB⟩
  have hz := HZ.out.below hB HZ.out.lt
  have HT3 := Lib.hid (below_step HT2.out hB HT2.out.size); clear hB HT2 HZ c0 c1 c2 c3
  obtain ⟨c0, c1, c2, c3⟩ := hz.cells4
  clear hz
  go_wp2_with fail
  refine (wakes08 _).mono ?_
  rintro e t4 ⟨rfl, hB⟩
  have hB4 := below_step HT3.out hB HT3.out.size; clear hB
  go_wp2_with fail
  go_ret
  exact ⟨rfl, hB4⟩


theorem late (i m b bit : Int) (v s : ByteArray) (w : World) (hv : v.size ≤ 1000) (hs : s.size ≤ 1000) (k1 : -9223372036854775808 ≤ bit) (k2 : bit ≤ 9223372036854775807) :
    Calls Try.prog 11 #[recV i m b v, .string s, .int .i64 bit] w fun e w' => e = .returned (.bool true) ∧ Below w.heap.size w w' := by
  cases hm : mayB i m b v.data.toList with
  | true =>
    rcases read_cases s.data.toList with ⟨h, _⟩ | ⟨h, _⟩ | ⟨i', m', b', v', hne, hr, hmm, hy⟩
    · exact may_bad i m b bit v s w hv hs k1 k2 h hm
    · exact may_empty i m b bit v s w hv hs k1 k2 (str_empty (by rw [h]; rfl)) hm
    · exact may_rec i m b bit v s w hv hs k1 k2 i' m' b' v' (by cases hx : s.data.toList with | nil => exact absurd hx hne | cons _ _ => rfl) hr hmm hy hm
  | false =>
    rcases read_cases s.data.toList with ⟨h, _⟩ | ⟨h, _⟩ | ⟨i', m', b', v', hne, hr, hmm, hy⟩
    · exact not_bad i m b bit v s w hv hs k1 k2 h hm
    · exact not_empty i m b bit v s w hv hs k1 k2 (str_empty (by rw [h]; rfl)) hm
    · exact not_rec i m b bit v s w hv hs k1 k2 i' m' b' v' (by cases hx : s.data.toList with | nil => exact absurd hx hne | cons _ _ => rfl) hr hmm hy hm

theorem walk (i m b : Int) (v : ByteArray) (w0 : v.size ≤ maxLen) (s : ByteArray) (w1 : s.size ≤ maxLen) (bit : Int) (w2 : (Lit.int .i64 bit).wf = true) (w : World) :
    Calls Try.prog 11 #[recV i m b v, .string s, .int .i64 bit] w fun e w' => e = .returned (.bool true) ∧ Below w.heap.size w w' := by
  by_cases h : 1000 < v.size ∨ 1000 < s.size
  · exact early i m b bit v s w h
  · exact late i m b bit v s w (by omega) (by omega) (wf_i64 w2).1 (wf_i64 w2).2

theorem own : ownKnob Try.prog.godebug = none := by kernel_rfl
theorem laidOut : laidOutB Try.prog = true := by kernel_rfl
set_option maxRecDepth 100000 in
theorem lifted (os : Os) (started : os.Started) (H : Type) (enc : TypeId × Value → H) :
    ReturnsInHanded {} Try.checked os 11 .any (Rows.ballotBackSpec.pre6 enc Try.prog Try.f11 Rows.ballotBackRow.domain false) (Rows.ballotBackSpec.post enc Try.prog Try.f11 false true false false) := by
  refine returnsInHanded_of_change (C := Try.checked) own started (by kernel_rfl) Try.func11
    (ChangeSpec.witness6 (enc := enc) (C := Try.checked) false ⟨#[], #[.agg #[.int .i64 0, .int .i64 0, .int .i64 0, .string ByteArray.empty], .string ByteArray.empty, .int .i64 0], []⟩ 8 (by kernel_rfl) (by kernel_rfl) (by kernel_rfl) (by kernel_rfl)) ?_
  intro W base args ds gs before hval0 hW hcnd _
  have hval : ∀ (j : Nat) t v, Try.f11.params[j]? = some t → args[j]? = some v → Value.okWide Try.prog W .any base t v := hval0
  have hW' := hW
  obtain ⟨p, q, hA0, hV, rfl, hfz, hnd⟩ := hW
  have hA : DataW.TrodAll enc Try.prog W 0 (fun _ => true) true Try.f11.params.toList args.toList ds p := hA0
  rw [Try.params11] at hA hval
  obtain ⟨v0, vs0, d0, ds0, p0, q0, hargs, rfl, rfl, h0, r0⟩ := trodAll_cons hA
  obtain ⟨v1, vs1, d1, ds1, p1, q1, rfl, rfl, rfl, h1, r1⟩ := trodAll_cons r0
  obtain ⟨v2, vs2, d2, ds2, p2, q2, rfl, rfl, rfl, h2, r2⟩ := trodAll_cons r1
  obtain ⟨rfl, rfl, rfl⟩ := trodAll_nil r2
  obtain rfl : args = #[v0, v1, v2] := by cases args; simp_all
  obtain ⟨rfl, rfl⟩ := trodVars_none hV
  have k0 := h0
  have lt0 : ∀ x ∈ p0, x.block < W.heap.size := by obtain ⟨m, hm⟩ := k0; exact DataW.trod_lt m _ _ _ hm
  obtain ⟨a0_0, a0_1, a0_2, a0_3, rfl, w0_0, w0_1, w0_2, w0_3⟩ := open_api_Rec_arg (hval 0 55 v0 rfl rfl) h0
  have k1 := h1
  have lt1 : ∀ x ∈ p1, x.block < W.heap.size := by obtain ⟨m, hm⟩ := k1; exact DataW.trod_lt m _ _ _ hm
  obtain ⟨a1, rfl, -, -, w1⟩ := open_string Try.underlying9 (hval 1 9 v1 rfl rfl) h1
  have k2 := h2
  have lt2 : ∀ x ∈ p2, x.block < W.heap.size := by obtain ⟨m, hm⟩ := k2; exact DataW.trod_lt m _ _ _ hm
  obtain ⟨a2, rfl, -, -, w2⟩ := open_int Try.underlying3 (hval 2 3 v2 rfl rfl) h2
  clear hA0 hval0
  refine (walk a0_0 a0_1 a0_2 a0_3 w0_3 a1 w1 a2 w2 W).mono fun e W' ⟨he, bel⟩ => ?_
  subst he
  exact ⟨_, rfl, _, _, _, [], _, [], hW', trodAll_mk1 (shut_bool Try.underlying4 _), (trodAll_cons_mk (Below.trod laidOut (by kernel_rfl) (of_decide_eq_true (by kernel_rfl)) k0 bel lt0) (trodAll_cons_mk (Below.trod laidOut (by kernel_rfl) (of_decide_eq_true (by kernel_rfl)) k1 bel lt1) (trodAll_cons_mk (Below.trod laidOut (by kernel_rfl) (of_decide_eq_true (by kernel_rfl)) k2 bel lt2) trodAll_mk0))), rfl, bel.frame _, fun h => by cases h⟩

/-- The statement. -/
theorem proved : Rows.BallotBackSaid :=
  OpenClaim.holds_of_wide 11 Try.f11 rfl rfl rfl rfl rfl rfl rfl ⟨rfl, rfl, rfl, rfl, rfl⟩ rfl rfl rfl rfl rfl (by kernel_rfl) Try.func11 (by kernel_rfl)
    (of_decide_eq_true (by kernel_rfl)) (by unfold Func.isWrapper; first | (rw [if_pos (by decide +kernel)]; kernel_rfl) | (rw [if_neg (by decide +kernel)]; exact ⟨rfl, rfl⟩))
    (fun os started H enc _ => lifted os started H enc)
end Go.Proofs.Ytkmiknefbbjggaa.ballotBack

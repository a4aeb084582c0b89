/- breakwaterlaw03.SealBack returns true for every input: what was sealed is opened as it was, fields come back, and what is opened, sealed, is the sector. No condition. -/
import Derived.Test.YtkmiknefbbjggaaRows
import Derived.Test.YtkmiknefbbjggaaFields
import Derived.Test.YtkmiknefbbjggaaBackPlain
import Derived.Test.YtkmiknefbbjggaaFrame
namespace Go.Proofs.Ytkmiknefbbjggaa.sealBack
open Go.ChangeShapes Go.WideShapes Go.ChangeAt Go.RowKit
open Go.ChangeMaps (open_string shut_string)
set_option linter.unusedVariables false

theorem early (a0 : Int) (a1 a2 : ByteArray) (A3 A4 : Option Addr) (n3 n4 c3 c4 : Nat) (w : World) (h : 2000 < a1.size ∨ 2000 < a2.size ∨ 200 < n3 ∨ 200 < n4) (hb3 : n3 ≤ maxLen) (hb4 : n4 ≤ maxLen) :
    Calls Try.prog 7 #[.int .i8 a0, .string a1, .string a2, .slice A3 n3 c3, .slice A4 n4 c4] w fun e w' => e = .returned (.bool true) ∧ Below w.heap.size w w' := by
  unfold maxLen at hb3 hb4
  by_cases h1 : 2000 < a1.size
  · have b1 : (2000 : Int) < (a1.size : Int) := by omega
    go_enter Try.func7, Try.ntmps7
    go_wp2_with (go_at_call 13; refine (wakes03 _).mono ?_; rintro e w' ⟨rfl, hB⟩)
    go_ret
    exact ⟨rfl, hB⟩
  · have b1 : ¬ (2000 : Int) < (a1.size : Int) := by omega
    by_cases h2 : 2000 < a2.size
    · have b2 : (2000 : Int) < (a2.size : Int) := by omega
      go_enter Try.func7, Try.ntmps7
      go_wp2_with (go_at_call 13; refine (wakes03 _).mono ?_; rintro e w' ⟨rfl, hB⟩)
      go_ret
      exact ⟨rfl, hB⟩
    · have b2 : ¬ (2000 : Int) < (a2.size : Int) := by omega
      by_cases h3 : 200 < n3
      · have b3 : (200 : Int) < (n3 : Int) := by omega
        go_enter Try.func7, Try.ntmps7
        go_wp2_with (go_at_call 13; refine (wakes03 _).mono ?_; rintro e w' ⟨rfl, hB⟩)
        go_ret
        exact ⟨rfl, hB⟩
      · have b3 : ¬ (200 : Int) < (n3 : Int) := by omega
        have b4 : (200 : Int) < (n4 : Int) := by omega
        go_enter Try.func7, Try.ntmps7
        go_wp2_with (go_at_call 13; refine (wakes03 _).mono ?_; rintro e w' ⟨rfl, hB⟩)
        go_ret
        exact ⟨rfl, hB⟩

/-- what the first sealing comes to -/
def SealSays (k : Int) (s : ByteArray) : Prop := (∀ w, Calls Try.prog 14 #[.int .i8 k, .string s] w fun e w' => e = .returned (.tuple #[.string (mkS []), .int .i64 2]) ∧ Below w.heap.size w w') ∨
  ∃ X : ByteArray, X.size = s.size + 7 ∧ (∀ w, Calls Try.prog 14 #[.int .i8 k, .string s] w fun e w' => e = .returned (.tuple #[.string X, .int .i64 0]) ∧ Below w.heap.size w w') ∧
    (∀ w, Calls Try.prog 15 #[.string X] w fun e w' => e = .returned (.tuple #[.int .i8 k, .string s, .int .i64 0]) ∧ Below w.heap.size w w')
theorem seal_says (k : Int) (s : ByteArray) (hk : k ≤ 127) : SealSays k s := by
  rcases sealR_cases k s.data.toList with h | ⟨x, h, hx⟩
  · exact .inl fun w => by have := Seal_any k s w hk; rwa [h] at this
  · have hl := sealB_len hx
    rw [bytes_length] at hl
    refine .inr ⟨mkS x, by rw [mkS_size]; exact hl.2.2, fun w => by have := Seal_any k s w hk; rwa [h] at this, fun w => ?_⟩
    have := Open_any (mkS x) w (by rw [mkS_size]; omega)
    unfold OpenPost at this
    rw [mkS_toList, openR_seal hk hx] at this
    rwa [mkS_self] at this
/-- what opening comes to -/
def OpenSays (s : ByteArray) : Prop := (∀ w, Calls Try.prog 15 #[.string s] w fun e w' => e = .returned (.tuple #[.int .i8 0, .string (mkS []), .int .i64 30]) ∧ Below w.heap.size w w') ∨
  ∃ (k : Int) (X : ByteArray), (∀ w, Calls Try.prog 15 #[.string s] w fun e w' => e = .returned (.tuple #[.int .i8 k, .string X, .int .i64 0]) ∧ Below w.heap.size w w') ∧
    (∀ w, Calls Try.prog 14 #[.int .i8 k, .string X] w fun e w' => e = .returned (.tuple #[.string s, .int .i64 0]) ∧ Below w.heap.size w w')
theorem open_says (s : ByteArray) (hs : s.size ≤ 1000000) : OpenSays s := by
  rcases openR_cases s.data.toList with h | ⟨k, l, h, h1, h2, h3, h4⟩
  · exact .inl fun w => by have := Open_any s w (by omega); unfold OpenPost at this; rwa [h] at this
  · refine .inr ⟨k, mkS l, fun w => by have := Open_any s w (by omega); unfold OpenPost at this; rwa [h] at this, fun w => ?_⟩
    have := Seal_any k (mkS l) w (by omega)
    rw [mkS_toList, sealR, h4] at this
    dsimp only at this
    rwa [mkS_self] at this

set_option maxHeartbeats 4000000 in
set_option maxRecDepth 100000 in
theorem late (a0 : Int) (a1 a2 : ByteArray) (A3 A4 : Option Addr) (z3 z4 : List Int) (c3 c4 : Nat) (w : World) (h0 : -128 ≤ a0) (h7 : a0 ≤ 127) (h1 : a1.size ≤ 2000) (h2 : a2.size ≤ 2000) (h3 : z3.length ≤ 200) (h4 : z4.length ≤ 200)
    (r3 : Reads w w.heap.size 1 A3 z3.length (icells z3)) (r4 : Reads w w.heap.size 1 A4 z4.length (icells z4)) :
    Calls Try.prog 7 #[.int .i8 a0, .string a1, .string a2, .slice A3 z3.length c3, .slice A4 z4.length c4] w fun e w' => e = .returned (.bool true) ∧ Below w.heap.size w w' := by
  have b1 : decide ((2000 : Int) < (a1.size : Int)) = false := by simp; omega
  have b2 : decide ((2000 : Int) < (a2.size : Int)) = false := by simp; omega
  have b3 : decide ((200 : Int) < (z3.length : Int)) = false := by simp; omega
  have b4 : decide ((200 : Int) < (z4.length : Int)) = false := by simp; omega
  have R3 := Lib.hid r3; clear r3
  have R4 := Lib.hid r4; clear r4
  have HM : Hid (makeR a0 a1.data.toList z3 z4 = ([], 2) ∨ ∃ b x, makeR a0 a1.data.toList z3 z4 = (x, 0) ∧ fieldsB [] z3 z4 = some b ∧ sealB a0 (b ++ a1.data.toList) = some x) := makeR_cases a0 a1.data.toList z3 z4
  have hB : Below w.heap.size w w := Below.refl _ _
  rcases seal_says a0 a1 h7 with hs | ⟨X, hX, hs, hso⟩ <;> rcases open_says a2 (by omega) with ho | ⟨k, Y, ho, hos⟩
  all_goals
    have HS := Lib.hid hs; clear hs
    have HO := Lib.hid ho; clear ho
    try (have HSO := Lib.hid hso; clear hso)
    try (have HOS := Lib.hid hos; clear hos)
    try (have hXb : ((X.size : Int) != (a1.size : Int) + 7) = false := by (rw [hX]; simp))
    try clear hX
    go_enter Try.func7, Try.ntmps7
    go_wp2_with fail
    refine (HS.out _).mono ?_
    rintro e w1 ⟨rfl, hB1⟩
    replace hB := below_step hB hB1 hB.size
    clear hB1
    go_wp2_with fail
  any_goals
    refine (HSO.out _).mono ?_
    rintro e w2 ⟨rfl, hB1⟩
    replace hB := below_step hB hB1 hB.size
    clear hB1
    go_wp2_with fail
  all_goals
    refine (HO.out _).mono ?_
    rintro e w3 ⟨rfl, hB1⟩
    replace hB := below_step hB hB1 hB.size
    clear hB1
    go_wp2_with fail
  any_goals
    refine (HOS.out _).mono ?_
    rintro e w4 ⟨rfl, hB1⟩
    replace hB := below_step hB hB1 hB.size
    clear hB1
    go_wp2_with fail
  all_goals
    refine (Make_any a0 a1 A3 A4 c3 c4 z3 z4 _ h7 (by omega) (by omega) (by omega) ((R3.out.below hB).more hB.size) ((R4.out.below hB).more hB.size)).mono ?_
    rintro e w5 hpost
    rcases HM.out with hm | ⟨b, x, hm, hf, hx⟩
  any_goals
    (rw [hm] at hpost; unfold MakePost at hpost; dsimp only at hpost; rw [show mkS [] = (⟨#[]⟩ : ByteArray) from rfl] at hpost)
    obtain ⟨rfl, hB1⟩ := hpost
    replace hB := below_step hB hB1 hB.size
    clear hB1 hm HM
    go_wp2_with fail
    refine (wakes03 _).mono ?_
    rintro e w6 ⟨rfl, hB1⟩
    replace hB := below_step hB hB1 hB.size
    clear hB1
    go_wp2_with fail
    go_ret
    exact ⟨rfl, hB⟩
  all_goals
    (rw [hm] at hpost; unfold MakePost at hpost; dsimp only at hpost)
    obtain ⟨rfl, hB1⟩ := hpost
    replace hB := below_step hB hB1 hB.size
    have hsl := sealB_len hx
    have hfm := fieldsR_make h7 hf hx
    have hot := fun k' => @ofR_other a0 k' _ _ h7 hx
    have HFM := Lib.hid hfm
    have HOT := Lib.hid hot
    have hk1 : 1 ≤ a0 := hsl.1
    have hxl : x.length ≤ 512 := by have := fieldsB_length [] z3 z4 b hf (by simp); have := hsl.2.1; have := hsl.2.2; omega
    clear hB1 hm HM hsl hfm hot hf hx
    go_wp2_with fail
    refine (Fields_any a0 (mkS x) A3 c3 z3 _ (by rw [mkS_size]; omega) (by omega) ((R3.out.below hB).more hB.size)).mono ?_
    rw [mkS_toList, HFM.out]
    rintro e w6 ⟨v, rfl, hown, hB1⟩
    dsimp only at hown ⊢
    rw [mkS_self]
    replace hB := below_step hB hB1 hB.size
    clear hB1
    go_wp2_with fail
  all_goals
    refine (Of_any (a0 % 127 + 1) (mkS x) _ (by rw [mkS_size]; omega)).mono ?_
    rw [mkS_toList, HOT.out (a0 % 127 + 1) (by omega)]
    rintro e w7 ⟨rfl, hB1⟩
    have hown' := own_below hown hB1
    replace hB := below_step hB hB1 hB.size
    obtain ⟨A5, c5, rfl, -, -, hr5⟩ := own_reads hown'
    have HR5 := Lib.hid hr5
    clear hB1 hown hown' hr5
    go_wp2_with fail
    refine (Ints_any A4 A5 c4 c5 z4 z4 _ (by omega) (by omega) ((R4.out.below hB).more hB.size) HR5.out).mono ?_
    rw [decide_eq_true (rfl : z4 = z4)]
    rintro e w8 ⟨rfl, hB1⟩
    replace hB := below_step hB hB1 hB.size
    clear hB1
    go_wp2_with fail
    refine (wakes03 _).mono ?_
    rintro e w9 ⟨rfl, hB1⟩
    replace hB := below_step hB hB1 hB.size
    clear hB1
    go_wp2_with fail
    go_ret
    exact ⟨rfl, hB⟩

theorem walk (a0 : Int) (w0 : (Lit.int .i8 a0).wf = true) (a1 : ByteArray) (w1 : a1.size ≤ maxLen) (a2 : ByteArray) (w2 : a2.size ≤ maxLen) (a3 : Option Addr) (z3 : List Int) (c3 : Nat) {W : World} (w3 : IsInts W a3 z3 c3)
    (a4 : Option Addr) (z4 : List Int) (c4 : Nat) (w4 : IsInts W a4 z4 c4) (w : World) (hW : w = W) :
    Calls Try.prog 7 #[.int .i8 a0, .string a1, .string a2, .slice a3 z3.length c3, .slice a4 z4.length c4] w fun e w' => e = .returned (.bool true) ∧ Below w.heap.size w w' := by
  subst hW
  by_cases h : 2000 < a1.size ∨ 2000 < a2.size ∨ 200 < z3.length ∨ 200 < z4.length
  · exact early a0 a1 a2 a3 a4 z3.length z4.length c3 c4 w h (Nat.le_trans w3.2.2.1 w3.2.2.2) (Nat.le_trans w4.2.2.1 w4.2.2.2)
  · exact late a0 a1 a2 a3 a4 z3 z4 c3 c4 w (wf_i8 w0).1 (wf_i8 w0).2 (by omega) (by omega) (by omega) (by omega) w3.1 w4.1

theorem own : ownKnob Try.prog.godebug = none := by kernel_rfl
theorem laidOut : laidOutB Try.prog = true := by kernel_rfl
set_option maxRecDepth 100000 in
theorem lifted (os : Os) (started : os.Started) (H : Type) (enc : TypeId × Value → H) :
    ReturnsInHanded {} Try.checked os 7 .any (Rows.sealBackSpec.pre6 enc Try.prog Try.f7 Rows.sealBackRow.domain false) (Rows.sealBackSpec.post enc Try.prog Try.f7 false true false false) := by
  refine returnsInHanded_of_change (C := Try.checked) own started (by kernel_rfl) Try.func7
    (ChangeSpec.witness6 (enc := enc) (C := Try.checked) false ⟨#[], #[.int .i8 0, .string ByteArray.empty, .string ByteArray.empty, .slice none 0 0, .slice none 0 0], []⟩ 8 (by kernel_rfl) (by kernel_rfl) (by kernel_rfl) (by kernel_rfl)) ?_
  intro W base args ds gs before hval0 hW hcnd _
  have hval : ∀ (j : Nat) t v, Try.f7.params[j]? = some t → args[j]? = some v → Value.okWide Try.prog W .any base t v := hval0
  have hW' := hW
  obtain ⟨p, q, hA0, hV, rfl, hfz, hnd⟩ := hW
  have hA : DataW.TrodAll enc Try.prog W 0 (fun _ => true) true Try.f7.params.toList args.toList ds p := hA0
  rw [Try.params7] at hA hval
  obtain ⟨v0, vs0, d0, ds0, p0, q0, hargs, rfl, rfl, h0, r0⟩ := trodAll_cons hA
  obtain ⟨v1, vs1, d1, ds1, p1, q1, rfl, rfl, rfl, h1, r1⟩ := trodAll_cons r0
  obtain ⟨v2, vs2, d2, ds2, p2, q2, rfl, rfl, rfl, h2, r2⟩ := trodAll_cons r1
  obtain ⟨v3, vs3, d3, ds3, p3, q3, rfl, rfl, rfl, h3, r3⟩ := trodAll_cons r2
  obtain ⟨v4, vs4, d4, ds4, p4, q4, rfl, rfl, rfl, h4, r4⟩ := trodAll_cons r3
  obtain ⟨rfl, rfl, rfl⟩ := trodAll_nil r4
  obtain rfl : args = #[v0, v1, v2, v3, v4] := by cases args; simp_all
  obtain ⟨rfl, rfl⟩ := trodVars_none hV
  have k0 := h0
  have lt0 : ∀ x ∈ p0, x.block < W.heap.size := by obtain ⟨m, hm⟩ := k0; exact DataW.trod_lt m _ _ _ hm
  obtain ⟨a0, rfl, -, -, w0⟩ := open_int Try.underlying22 (hval 0 22 v0 rfl rfl) h0
  have k1 := h1
  have lt1 : ∀ x ∈ p1, x.block < W.heap.size := by obtain ⟨m, hm⟩ := k1; exact DataW.trod_lt m _ _ _ hm
  obtain ⟨a1, rfl, -, -, w1⟩ := open_string Try.underlying9 (hval 1 9 v1 rfl rfl) h1
  have k2 := h2
  have lt2 : ∀ x ∈ p2, x.block < W.heap.size := by obtain ⟨m, hm⟩ := k2; exact DataW.trod_lt m _ _ _ hm
  obtain ⟨a2, rfl, -, -, w2⟩ := open_string Try.underlying9 (hval 2 9 v2 rfl rfl) h2
  have k3 := h3
  have lt3 : ∀ x ∈ p3, x.block < W.heap.size := by obtain ⟨m, hm⟩ := k3; exact DataW.trod_lt m _ _ _ hm
  obtain ⟨a3, z3, c3, rfl, w3⟩ : ∃ (A : Option Addr) (zs : List Int) (c : Nat), v3 = .slice A zs.length c ∧ IsInts W A zs c :=
    open_ints_arg Try.underlying34 Try.underlying3 (by kernel_rfl) (hval 3 34 v3 rfl rfl) h3
  have k4 := h4
  have lt4 : ∀ x ∈ p4, x.block < W.heap.size := by obtain ⟨m, hm⟩ := k4; exact DataW.trod_lt m _ _ _ hm
  obtain ⟨a4, z4, c4, rfl, w4⟩ : ∃ (A : Option Addr) (zs : List Int) (c : Nat), v4 = .slice A zs.length c ∧ IsInts W A zs c :=
    open_ints_arg Try.underlying34 Try.underlying3 (by kernel_rfl) (hval 4 34 v4 rfl rfl) h4
  clear hA0 hval0
  refine (walk a0 w0 a1 w1 a2 w2 a3 z3 c3 w3 a4 z4 c4 w4 W rfl).mono fun e W' ⟨he, bel⟩ => ?_
  subst he
  exact ⟨_, rfl, _, _, _, [], _, [], hW', trodAll_mk1 (shut_bool Try.underlying4 _), (trodAll_cons_mk (Below.trod laidOut (by kernel_rfl) (of_decide_eq_true (by kernel_rfl)) k0 bel lt0) (trodAll_cons_mk (Below.trod laidOut (by kernel_rfl) (of_decide_eq_true (by kernel_rfl)) k1 bel lt1) (trodAll_cons_mk (Below.trod laidOut (by kernel_rfl) (of_decide_eq_true (by kernel_rfl)) k2 bel lt2) (trodAll_cons_mk (Below.trod laidOut (by kernel_rfl) (of_decide_eq_true (by kernel_rfl)) k3 bel lt3) (trodAll_cons_mk (Below.trod laidOut (by kernel_rfl) (of_decide_eq_true (by kernel_rfl)) k4 bel lt4) trodAll_mk0))))), rfl, bel.frame _, fun h => by cases h⟩

/-- The statement. -/
theorem proved : Rows.SealBackSaid :=
  OpenClaim.holds_of_wide 7 Try.f7 rfl rfl rfl rfl rfl rfl rfl ⟨rfl, rfl, rfl, rfl, rfl⟩ rfl rfl rfl rfl rfl (by kernel_rfl) Try.func7 (by kernel_rfl)
    (of_decide_eq_true (by kernel_rfl)) (by unfold Func.isWrapper; first | (rw [if_pos (by decide +kernel)]; kernel_rfl) | (rw [if_neg (by decide +kernel)]; exact ⟨rfl, rfl⟩))
    (fun os started H enc _ => lifted os started H enc)
end Go.Proofs.Ytkmiknefbbjggaa.sealBack

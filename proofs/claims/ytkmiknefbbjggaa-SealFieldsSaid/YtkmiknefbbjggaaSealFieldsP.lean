/- breakwaterlaw03.SealFields returns true for every input: what is made of numbers, and read as them, is what the document says. No condition. -/
import Derived.Test.YtkmiknefbbjggaaRows
import Derived.Test.YtkmiknefbbjggaaRef3b
import Derived.Test.YtkmiknefbbjggaaFrame
namespace Go.Proofs.Ytkmiknefbbjggaa.sealFields
open Go.ChangeShapes Go.WideShapes Go.ChangeAt Go.RowKit
open Go.ChangeMaps (open_string shut_string)
set_option linter.unusedVariables false

theorem early (a0 : Int) (a1 a2 : ByteArray) (A3 A4 : Option Addr) (n3 n4 c3 c4 : Nat) (w : World) (h : 2000 < a1.size ∨ 2000 < a2.size ∨ 200 < n3 ∨ 200 < n4) (hb3 : n3 ≤ maxLen) (hb4 : n4 ≤ maxLen) :
    Calls Try.prog 6 #[.int .i8 a0, .string a1, .string a2, .slice A3 n3 c3, .slice A4 n4 c4] w fun e w' => e = .returned (.bool true) ∧ Below w.heap.size w w' := by
  unfold maxLen at hb3 hb4
  by_cases h1 : 2000 < a1.size
  · have b1 : (2000 : Int) < (a1.size : Int) := by omega
    go_enter Try.func6, Try.ntmps6
    go_wp2_with (go_at_call 13; refine (wakes03 _).mono ?_; rintro e w' ⟨rfl, hB⟩)
    go_ret
    exact ⟨rfl, hB⟩
  · have b1 : ¬ (2000 : Int) < (a1.size : Int) := by omega
    by_cases h2 : 2000 < a2.size
    · have b2 : (2000 : Int) < (a2.size : Int) := by omega
      go_enter Try.func6, Try.ntmps6
      go_wp2_with (go_at_call 13; refine (wakes03 _).mono ?_; rintro e w' ⟨rfl, hB⟩)
      go_ret
      exact ⟨rfl, hB⟩
    · have b2 : ¬ (2000 : Int) < (a2.size : Int) := by omega
      by_cases h3 : 200 < n3
      · have b3 : (200 : Int) < (n3 : Int) := by omega
        go_enter Try.func6, Try.ntmps6
        go_wp2_with (go_at_call 13; refine (wakes03 _).mono ?_; rintro e w' ⟨rfl, hB⟩)
        go_ret
        exact ⟨rfl, hB⟩
      · have b3 : ¬ (200 : Int) < (n3 : Int) := by omega
        have b4 : (200 : Int) < (n4 : Int) := by omega
        go_enter Try.func6, Try.ntmps6
        go_wp2_with (go_at_call 13; refine (wakes03 _).mono ?_; rintro e w' ⟨rfl, hB⟩)
        go_ret
        exact ⟨rfl, hB⟩

set_option maxHeartbeats 2000000 in
set_option maxRecDepth 100000 in
theorem late (a0 : Int) (a1 a2 : ByteArray) (A3 A4 : Option Addr) (z3 z4 : List Int) (c3 c4 : Nat) (w : World) (h7 : a0 ≤ 127) (h1 : a1.size ≤ 2000) (h2 : a2.size ≤ 2000) (h3 : z3.length ≤ 200) (h4 : z4.length ≤ 200)
    (r3 : Reads w w.heap.size 1 A3 z3.length (icells z3)) (r4 : Reads w w.heap.size 1 A4 z4.length (icells z4)) :
    Calls Try.prog 6 #[.int .i8 a0, .string a1, .string a2, .slice A3 z3.length c3, .slice A4 z4.length c4] w fun e w' => e = .returned (.bool true) ∧ Below w.heap.size w w' := by
  have b1 : decide ((2000 : Int) < (a1.size : Int)) = false := by simp; omega
  have b2 : decide ((2000 : Int) < (a2.size : Int)) = false := by simp; omega
  have b3 : decide ((200 : Int) < (z3.length : Int)) = false := by simp; omega
  have b4 : decide ((200 : Int) < (z4.length : Int)) = false := by simp; omega
  have m1 := fun w r3 r4 => Make_any a0 a1 A3 A4 c3 c4 z3 z4 w h7 (by omega) (by omega) (by omega) r3 r4
  have m2 := fun w r3 r4 => rMake_any a0 a1 A3 A4 c3 c4 z3 z4 w h7 (by omega) (by omega) (by omega) r3 r4
  have f1 := fun w r3 => Fields_any a0 a2 A3 c3 z3 w (by omega) (by omega) r3
  have f2 := fun w r3 => rFields_any a0 a2 A3 c3 z3 w (by omega) (by omega) r3
  unfold MakePost at m1 m2
  unfold FieldsPost at f1 f2
  have hfl : (fieldsR a0 a2.data.toList z3).1.length ≤ 200 := by
    unfold fieldsR
    split
    · cases ht : takeF (ofR a0 a2.data.toList).1 z3 with
      | none => simp
      | some r => have := takeF_le _ _ _ ht; dsimp only; omega
    · simp
  generalize mkS (makeR a0 a1.data.toList z3 z4).1 = MA at *
  generalize (makeR a0 a1.data.toList z3 z4).2 = ME at *
  generalize (fieldsR a0 a2.data.toList z3).1 = FL at *
  generalize mkS (fieldsR a0 a2.data.toList z3).2.1 = FR at *
  generalize (fieldsR a0 a2.data.toList z3).2.2 = FE at *
  have M1 := Lib.hid m1; clear m1
  have M2 := Lib.hid m2; clear m2
  have F1 := Lib.hid f1; clear f1
  have F2 := Lib.hid f2; clear f2
  have R3 := Lib.hid r3; clear r3
  have R4 := Lib.hid r4; clear r4
  have hB : Below w.heap.size w w := Below.refl _ _
  go_enter Try.func6, Try.ntmps6
  go_wp2_with fail
  refine (M1.out _ ((R3.out.below hB).more hB.size) ((R4.out.below hB).more hB.size)).mono ?_
  rintro e w1 ⟨rfl, hB1⟩
  replace hB := below_step hB hB1 hB.size
  clear hB1
  go_wp2_with fail
  refine (M2.out _ ((R3.out.below hB).more hB.size) ((R4.out.below hB).more hB.size)).mono ?_
  rintro e w2 ⟨rfl, hB1⟩
  replace hB := below_step hB hB1 hB.size
  clear hB1
  go_wp2_with fail
  refine (F1.out _ ((R3.out.below hB).more hB.size)).mono ?_
  rintro e w3 ⟨v3, rfl, hown3, hB1⟩
  replace hB := below_step hB hB1 hB.size
  clear hB1
  obtain ⟨A5, c5, rfl, -, -, hr5⟩ := own_reads hown3
  have R5 := Lib.hid hr5; clear hr5 hown3
  go_wp2_with fail
  refine (F2.out _ ((R3.out.below hB).more hB.size)).mono ?_
  rintro e w4 ⟨v4, rfl, hown4, hB1⟩
  have R5' := Lib.hid ((R5.out.below hB1).more hB1.size); clear R5
  replace hB := below_step hB hB1 hB.size
  clear hB1
  obtain ⟨A6, c6, rfl, -, -, hr6⟩ := own_reads hown4
  have R6 := Lib.hid hr6; clear hr6 hown4
  go_wp2_with fail
  refine (Ints_any A5 A6 c5 c6 FL FL _ (by omega) (by omega) R5'.out R6.out).mono ?_
  rw [decide_eq_true (rfl : FL = FL)]
  rintro e w5 ⟨rfl, hB1⟩
  replace hB := below_step hB hB1 hB.size
  clear hB1
  go_wp2_with fail
  refine (wakes03 _).mono ?_
  rintro e w7 ⟨rfl, hB1⟩
  replace hB := below_step hB hB1 hB.size
  clear hB1
  go_wp2_with fail
  go_ret
  exact ⟨rfl, hB⟩

theorem walk (a0 : Int) (w0 : (Lit.int .i8 a0).wf = true) (a1 : ByteArray) (w1 : a1.size ≤ maxLen) (a2 : ByteArray) (w2 : a2.size ≤ maxLen) (a3 : Option Addr) (z3 : List Int) (c3 : Nat) {W : World} (w3 : IsInts W a3 z3 c3)
    (a4 : Option Addr) (z4 : List Int) (c4 : Nat) (w4 : IsInts W a4 z4 c4) (w : World) (hW : w = W) :
    Calls Try.prog 6 #[.int .i8 a0, .string a1, .string a2, .slice a3 z3.length c3, .slice a4 z4.length c4] w fun e w' => e = .returned (.bool true) ∧ Below w.heap.size w w' := by
  subst hW
  by_cases h : 2000 < a1.size ∨ 2000 < a2.size ∨ 200 < z3.length ∨ 200 < z4.length
  · exact early a0 a1 a2 a3 a4 z3.length z4.length c3 c4 w h (Nat.le_trans w3.2.2.1 w3.2.2.2) (Nat.le_trans w4.2.2.1 w4.2.2.2)
  · exact late a0 a1 a2 a3 a4 z3 z4 c3 c4 w (wf_i8 w0).2 (by omega) (by omega) (by omega) (by omega) w3.1 w4.1

theorem own : ownKnob Try.prog.godebug = none := by kernel_rfl
theorem laidOut : laidOutB Try.prog = true := by kernel_rfl
set_option maxRecDepth 100000 in
theorem lifted (os : Os) (started : os.Started) (H : Type) (enc : TypeId × Value → H) :
    ReturnsInHanded {} Try.checked os 6 .any (Rows.sealFieldsSpec.pre6 enc Try.prog Try.f6 Rows.sealFieldsRow.domain false) (Rows.sealFieldsSpec.post enc Try.prog Try.f6 false true false false) := by
  refine returnsInHanded_of_change (C := Try.checked) own started (by kernel_rfl) Try.func6
    (ChangeSpec.witness6 (enc := enc) (C := Try.checked) false ⟨#[], #[.int .i8 0, .string ByteArray.empty, .string ByteArray.empty, .slice none 0 0, .slice none 0 0], []⟩ 8 (by kernel_rfl) (by kernel_rfl) (by kernel_rfl) (by kernel_rfl)) ?_
  intro W base args ds gs before hval0 hW hcnd _
  have hval : ∀ (j : Nat) t v, Try.f6.params[j]? = some t → args[j]? = some v → Value.okWide Try.prog W .any base t v := hval0
  have hW' := hW
  obtain ⟨p, q, hA0, hV, rfl, hfz, hnd⟩ := hW
  have hA : DataW.TrodAll enc Try.prog W 0 (fun _ => true) true Try.f6.params.toList args.toList ds p := hA0
  rw [Try.params6] at hA hval
  obtain ⟨v0, vs0, d0, ds0, p0, q0, hargs, rfl, rfl, h0, r0⟩ := trodAll_cons hA
  obtain ⟨v1, vs1, d1, ds1, p1, q1, rfl, rfl, rfl, h1, r1⟩ := trodAll_cons r0
  obtain ⟨v2, vs2, d2, ds2, p2, q2, rfl, rfl, rfl, h2, r2⟩ := trodAll_cons r1
  obtain ⟨v3, vs3, d3, ds3, p3, q3, rfl, rfl, rfl, h3, r3⟩ := trodAll_cons r2
  obtain ⟨v4, vs4, d4, ds4, p4, q4, rfl, rfl, rfl, h4, r4⟩ := trodAll_cons r3
  obtain ⟨rfl, rfl, rfl⟩ := trodAll_nil r4
  obtain rfl : args = #[v0, v1, v2, v3, v4] := by cases args; simp_all
  obtain ⟨rfl, rfl⟩ := trodVars_none hV
  have k0 := h0
  have lt0 : ∀ x ∈ p0, x.block < W.heap.size := by obtain ⟨m, hm⟩ := k0; exact DataW.trod_lt m _ _ _ hm
  obtain ⟨a0, rfl, -, -, w0⟩ := open_int Try.underlying22 (hval 0 22 v0 rfl rfl) h0
  have k1 := h1
  have lt1 : ∀ x ∈ p1, x.block < W.heap.size := by obtain ⟨m, hm⟩ := k1; exact DataW.trod_lt m _ _ _ hm
  obtain ⟨a1, rfl, -, -, w1⟩ := open_string Try.underlying9 (hval 1 9 v1 rfl rfl) h1
  have k2 := h2
  have lt2 : ∀ x ∈ p2, x.block < W.heap.size := by obtain ⟨m, hm⟩ := k2; exact DataW.trod_lt m _ _ _ hm
  obtain ⟨a2, rfl, -, -, w2⟩ := open_string Try.underlying9 (hval 2 9 v2 rfl rfl) h2
  have k3 := h3
  have lt3 : ∀ x ∈ p3, x.block < W.heap.size := by obtain ⟨m, hm⟩ := k3; exact DataW.trod_lt m _ _ _ hm
  obtain ⟨a3, z3, c3, rfl, w3⟩ : ∃ (A : Option Addr) (zs : List Int) (c : Nat), v3 = .slice A zs.length c ∧ IsInts W A zs c :=
    open_ints_arg Try.underlying34 Try.underlying3 (by kernel_rfl) (hval 3 34 v3 rfl rfl) h3
  have k4 := h4
  have lt4 : ∀ x ∈ p4, x.block < W.heap.size := by obtain ⟨m, hm⟩ := k4; exact DataW.trod_lt m _ _ _ hm
  obtain ⟨a4, z4, c4, rfl, w4⟩ : ∃ (A : Option Addr) (zs : List Int) (c : Nat), v4 = .slice A zs.length c ∧ IsInts W A zs c :=
    open_ints_arg Try.underlying34 Try.underlying3 (by kernel_rfl) (hval 4 34 v4 rfl rfl) h4
  clear hA0 hval0
  refine (walk a0 w0 a1 w1 a2 w2 a3 z3 c3 w3 a4 z4 c4 w4 W rfl).mono fun e W' ⟨he, bel⟩ => ?_
  subst he
  exact ⟨_, rfl, _, _, _, [], _, [], hW', trodAll_mk1 (shut_bool Try.underlying4 _), (trodAll_cons_mk (Below.trod laidOut (by kernel_rfl) (of_decide_eq_true (by kernel_rfl)) k0 bel lt0) (trodAll_cons_mk (Below.trod laidOut (by kernel_rfl) (of_decide_eq_true (by kernel_rfl)) k1 bel lt1) (trodAll_cons_mk (Below.trod laidOut (by kernel_rfl) (of_decide_eq_true (by kernel_rfl)) k2 bel lt2) (trodAll_cons_mk (Below.trod laidOut (by kernel_rfl) (of_decide_eq_true (by kernel_rfl)) k3 bel lt3) (trodAll_cons_mk (Below.trod laidOut (by kernel_rfl) (of_decide_eq_true (by kernel_rfl)) k4 bel lt4) trodAll_mk0))))), rfl, bel.frame _, fun h => by cases h⟩

/-- The statement. -/
theorem proved : Rows.SealFieldsSaid :=
  OpenClaim.holds_of_wide 6 Try.f6 rfl rfl rfl rfl rfl rfl rfl ⟨rfl, rfl, rfl, rfl, rfl⟩ rfl rfl rfl rfl rfl (by kernel_rfl) Try.func6 (by kernel_rfl)
    (of_decide_eq_true (by kernel_rfl)) (by unfold Func.isWrapper; first | (rw [if_pos (by decide +kernel)]; kernel_rfl) | (rw [if_neg (by decide +kernel)]; exact ⟨rfl, rfl⟩))
    (fun os started H enc _ => lifted os started H enc)
end Go.Proofs.Ytkmiknefbbjggaa.sealFields

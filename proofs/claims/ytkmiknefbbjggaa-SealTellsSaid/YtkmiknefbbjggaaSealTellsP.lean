/- breakwaterlaw03.SealTells returns true for every input: what is sealed, and opened, is what the document says. No condition. -/
import Derived.Test.YtkmiknefbbjggaaRows
import Derived.Test.YtkmiknefbbjggaaRef3
import Derived.Test.YtkmiknefbbjggaaFrame
namespace Go.Proofs.Ytkmiknefbbjggaa.sealTells
open Go.ChangeShapes Go.WideShapes Go.ChangeAt Go.RowKit
open Go.ChangeMaps (open_string shut_string)
set_option linter.unusedVariables false

theorem early (a0 : Int) (a1 a2 : ByteArray) (w : World) (h : 2000 < a1.size ∨ 2000 < a2.size) :
    Calls Try.prog 5 #[.int .i8 a0, .string a1, .string a2] w fun e w' => e = .returned (.bool true) ∧ Below w.heap.size w w' := by
  by_cases h1 : 2000 < a1.size
  · have b1 : (2000 : Int) < (a1.size : Int) := by omega
    go_enter Try.func5, Try.ntmps5
    go_wp2_with (go_at_call 13; refine (wakes03 _).mono ?_; rintro e w' ⟨rfl, hB⟩)
    go_ret
    exact ⟨rfl, hB⟩
  · have b1 : ¬ (2000 : Int) < (a1.size : Int) := by omega
    have b2 : (2000 : Int) < (a2.size : Int) := by omega
    go_enter Try.func5, Try.ntmps5
    go_wp2_with (go_at_call 13; refine (wakes03 _).mono ?_; rintro e w' ⟨rfl, hB⟩)
    go_ret
    exact ⟨rfl, hB⟩

set_option maxHeartbeats 1000000 in
theorem late (a0 : Int) (a1 a2 : ByteArray) (w : World) (h7 : a0 ≤ 127) (h1 : a1.size ≤ 2000) (h2 : a2.size ≤ 2000) :
    Calls Try.prog 5 #[.int .i8 a0, .string a1, .string a2] w fun e w' => e = .returned (.bool true) ∧ Below w.heap.size w w' := by
  have b1 : decide ((2000 : Int) < (a1.size : Int)) = false := by simp; omega
  have b2 : decide ((2000 : Int) < (a2.size : Int)) = false := by simp; omega
  have s1 := fun w => Seal_any a0 a1 w h7
  have s2 := fun w => rSeal_any a0 a1 w h7 (by omega)
  have o1 := fun w => Open_any a2 w (by omega)
  have o2 := fun w => rOpen_any a2 w (by omega)
  have f1 := fun w => Of_any a0 a2 w (by omega)
  have f2 := fun w => rOf_any a0 a2 w (by omega)
  unfold OpenPost at o1 o2
  generalize mkS (sealR a0 a1.data.toList).1 = SA at *
  generalize (sealR a0 a1.data.toList).2 = SE at *
  generalize (openR a2.data.toList).1 = OK at *
  generalize mkS (openR a2.data.toList).2.1 = OX at *
  generalize (openR a2.data.toList).2.2 = OE at *
  generalize mkS (ofR a0 a2.data.toList).1 = FA at *
  generalize (ofR a0 a2.data.toList).2 = FE at *
  have S1 := Lib.hid s1; clear s1
  have S2 := Lib.hid s2; clear s2
  have O1 := Lib.hid o1; clear o1
  have O2 := Lib.hid o2; clear o2
  have F1 := Lib.hid f1; clear f1
  have F2 := Lib.hid f2; clear f2
  have hB : Below w.heap.size w w := Below.refl _ _
  go_enter Try.func5, Try.ntmps5
  go_wp2_with fail
  refine (S1.out _).mono ?_
  rintro e w1 ⟨rfl, hB1⟩
  replace hB := below_step hB hB1 hB.size
  clear hB1
  go_wp2_with fail
  refine (S2.out _).mono ?_
  rintro e w2 ⟨rfl, hB1⟩
  replace hB := below_step hB hB1 hB.size
  clear hB1
  go_wp2_with fail
  refine (O1.out _).mono ?_
  rintro e w3 ⟨rfl, hB1⟩
  replace hB := below_step hB hB1 hB.size
  clear hB1
  go_wp2_with fail
  refine (O2.out _).mono ?_
  rintro e w4 ⟨rfl, hB1⟩
  replace hB := below_step hB hB1 hB.size
  clear hB1
  go_wp2_with fail
  refine (F1.out _).mono ?_
  rintro e w5 ⟨rfl, hB1⟩
  replace hB := below_step hB hB1 hB.size
  clear hB1
  go_wp2_with fail
  refine (F2.out _).mono ?_
  rintro e w6 ⟨rfl, hB1⟩
  replace hB := below_step hB hB1 hB.size
  clear hB1
  go_wp2_with fail
  refine (wakes03 _).mono ?_
  rintro e w7 ⟨rfl, hB1⟩
  replace hB := below_step hB hB1 hB.size
  clear hB1
  go_wp2_with fail
  go_ret
  exact ⟨rfl, hB⟩

theorem walk (a0 : Int) (w0 : (Lit.int .i8 a0).wf = true) (a1 : ByteArray) (w1 : a1.size ≤ maxLen) (a2 : ByteArray) (w2 : a2.size ≤ maxLen) (w : World) :
    Calls Try.prog 5 #[.int .i8 a0, .string a1, .string a2] w fun e w' => e = .returned (.bool true) ∧ Below w.heap.size w w' := by
  by_cases h : 2000 < a1.size ∨ 2000 < a2.size
  · exact early a0 a1 a2 w h
  · exact late a0 a1 a2 w (wf_i8 w0).2 (by omega) (by omega)

theorem own : ownKnob Try.prog.godebug = none := by kernel_rfl
theorem laidOut : laidOutB Try.prog = true := by kernel_rfl
set_option maxRecDepth 100000 in
theorem lifted (os : Os) (started : os.Started) (H : Type) (enc : TypeId × Value → H) :
    ReturnsInHanded {} Try.checked os 5 .any (Rows.sealTellsSpec.pre6 enc Try.prog Try.f5 Rows.sealTellsRow.domain false) (Rows.sealTellsSpec.post enc Try.prog Try.f5 false true false false) := by
  refine returnsInHanded_of_change (C := Try.checked) own started (by kernel_rfl) Try.func5
    (ChangeSpec.witness6 (enc := enc) (C := Try.checked) false ⟨#[], #[.int .i8 0, .string ByteArray.empty, .string ByteArray.empty], []⟩ 8 (by kernel_rfl) (by kernel_rfl) (by kernel_rfl) (by kernel_rfl)) ?_
  intro W base args ds gs before hval0 hW hcnd _
  have hval : ∀ (j : Nat) t v, Try.f5.params[j]? = some t → args[j]? = some v → Value.okWide Try.prog W .any base t v := hval0
  have hW' := hW
  obtain ⟨p, q, hA0, hV, rfl, hfz, hnd⟩ := hW
  have hA : DataW.TrodAll enc Try.prog W 0 (fun _ => true) true Try.f5.params.toList args.toList ds p := hA0
  rw [Try.params5] at hA hval
  obtain ⟨v0, vs0, d0, ds0, p0, q0, hargs, rfl, rfl, h0, r0⟩ := trodAll_cons hA
  obtain ⟨v1, vs1, d1, ds1, p1, q1, rfl, rfl, rfl, h1, r1⟩ := trodAll_cons r0
  obtain ⟨v2, vs2, d2, ds2, p2, q2, rfl, rfl, rfl, h2, r2⟩ := trodAll_cons r1
  obtain ⟨rfl, rfl, rfl⟩ := trodAll_nil r2
  obtain rfl : args = #[v0, v1, v2] := by cases args; simp_all
  obtain ⟨rfl, rfl⟩ := trodVars_none hV
  have k0 := h0
  have lt0 : ∀ x ∈ p0, x.block < W.heap.size := by obtain ⟨m, hm⟩ := k0; exact DataW.trod_lt m _ _ _ hm
  obtain ⟨a0, rfl, -, -, w0⟩ := open_int Try.underlying22 (hval 0 22 v0 rfl rfl) h0
  have k1 := h1
  have lt1 : ∀ x ∈ p1, x.block < W.heap.size := by obtain ⟨m, hm⟩ := k1; exact DataW.trod_lt m _ _ _ hm
  obtain ⟨a1, rfl, -, -, w1⟩ := open_string Try.underlying9 (hval 1 9 v1 rfl rfl) h1
  have k2 := h2
  have lt2 : ∀ x ∈ p2, x.block < W.heap.size := by obtain ⟨m, hm⟩ := k2; exact DataW.trod_lt m _ _ _ hm
  obtain ⟨a2, rfl, -, -, w2⟩ := open_string Try.underlying9 (hval 2 9 v2 rfl rfl) h2
  clear hA0 hval0
  refine (walk a0 w0 a1 w1 a2 w2 W).mono fun e W' ⟨he, bel⟩ => ?_
  subst he
  exact ⟨_, rfl, _, _, _, [], _, [], hW', trodAll_mk1 (shut_bool Try.underlying4 _), (trodAll_cons_mk (Below.trod laidOut (by kernel_rfl) (of_decide_eq_true (by kernel_rfl)) k0 bel lt0) (trodAll_cons_mk (Below.trod laidOut (by kernel_rfl) (of_decide_eq_true (by kernel_rfl)) k1 bel lt1) (trodAll_cons_mk (Below.trod laidOut (by kernel_rfl) (of_decide_eq_true (by kernel_rfl)) k2 bel lt2) trodAll_mk0))), rfl, bel.frame _, fun h => by cases h⟩

/-- The statement. -/
theorem proved : Rows.SealTellsSaid :=
  OpenClaim.holds_of_wide 5 Try.f5 rfl rfl rfl rfl rfl rfl rfl ⟨rfl, rfl, rfl, rfl, rfl⟩ rfl rfl rfl rfl rfl (by kernel_rfl) Try.func5 (by kernel_rfl)
    (of_decide_eq_true (by kernel_rfl)) (by unfold Func.isWrapper; first | (rw [if_pos (by decide +kernel)]; kernel_rfl) | (rw [if_neg (by decide +kernel)]; exact ⟨rfl, rfl⟩))
    (fun os started H enc _ => lifted os started H enc)
end Go.Proofs.Ytkmiknefbbjggaa.sealTells

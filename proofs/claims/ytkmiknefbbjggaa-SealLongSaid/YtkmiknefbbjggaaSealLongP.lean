/- breakwaterlaw03.SealLong returns true for every input: no sector, with bytes more or less, is one. No condition. -/
import Derived.Test.YtkmiknefbbjggaaRows
import Derived.Test.YtkmiknefbbjggaaOpen
import Derived.Test.YtkmiknefbbjggaaSealLaw
import Derived.ProofKit
import Derived.OpenShut
import Derived.ShutString
import Derived.ChangeOld
namespace Go.Proofs.Ytkmiknefbbjggaa.sealLong
open Go.ChangeShapes Go.WideShapes Go.ChangeAt Go.RowKit
open Go.ChangeMaps (open_string shut_string)
set_option linter.unusedVariables false

theorem wf_i8 {n : Int} (h : (Lit.int .i8 n).wf = true) : -128 ≤ n ∧ n ≤ 127 := by
  have h1 : IntKind.i8.min = -128 := rfl
  have h2 : IntKind.i8.max = 127 := rfl
  simp only [Lit.wf, Bool.and_eq_true, decide_eq_true_eq] at h
  omega

theorem early (a0 : Int) (a1 a2 : ByteArray) (w : World) (h : 505 < a1.size ∨ 600 < a2.size ∨ a2.size = 0 ∨ a0 < 1) :
    Calls Try.prog 4 #[.int .i8 a0, .string a1, .string a2] w fun e w' => e = .returned (.bool true) ∧ Below w.heap.size w w' := by
  by_cases h1 : 505 < a1.size
  · have b1 : (505 : Int) < (a1.size : Int) := by omega
    go_enter Try.func4, Try.ntmps4
    go_wp2_with (go_at_call 13; refine (wakes03 _).mono ?_; rintro e w' ⟨rfl, hB⟩)
    go_ret
    exact ⟨rfl, hB⟩
  · by_cases h2 : 600 < a2.size
    · have b1 : (600 : Int) < (a2.size : Int) := by omega
      have b0 : ¬ (505 : Int) < (a1.size : Int) := by omega
      go_enter Try.func4, Try.ntmps4
      go_wp2_with (go_at_call 13; refine (wakes03 _).mono ?_; rintro e w' ⟨rfl, hB⟩)
      go_ret
      exact ⟨rfl, hB⟩
    · have b1 : ¬ (600 : Int) < (a2.size : Int) := by omega
      have b0 : ¬ (505 : Int) < (a1.size : Int) := by omega
      by_cases h3 : a2.size = 0
      · have b2 : ((a2.size : Int) == 0) = true := by simp [h3]
        clear h3
        go_enter Try.func4, Try.ntmps4
        go_wp2_with (go_at_call 13; refine (wakes03 _).mono ?_; rintro e w' ⟨rfl, hB⟩)
        go_ret
        exact ⟨rfl, hB⟩
      · have b2 : ((a2.size : Int) == 0) = false := beq_eq_false_iff_ne.2 (by omega)
        have b3 : a0 < 1 := by omega
        clear h3
        go_enter Try.func4, Try.ntmps4
        go_wp2_with (go_at_call 13; refine (wakes03 _).mono ?_; rintro e w' ⟨rfl, hB⟩)
        go_ret
        exact ⟨rfl, hB⟩

set_option maxHeartbeats 1000000 in
set_option maxRecDepth 100000 in
theorem late (a0 : Int) (a1 a2 : ByteArray) (w : World) (h7 : a0 ≤ 127) (h1 : a1.size ≤ 505) (h2 : a2.size ≤ 600) (h3 : a2.size ≠ 0) (h4 : 1 ≤ a0) :
    Calls Try.prog 4 #[.int .i8 a0, .string a1, .string a2] w fun e w' => e = .returned (.bool true) ∧ Below w.heap.size w w' := by
  have b0 : decide ((505 : Int) < (a1.size : Int)) = false := by simp; omega
  have b1 : decide ((600 : Int) < (a2.size : Int)) = false := by simp; omega
  have b2 : ((a2.size : Int) == 0) = false := beq_eq_false_iff_ne.2 (by omega)
  have b3 : decide (a0 < 1) = false := by simp; omega
  have hs := Seal_any a0 a1 w h7
  obtain ⟨x, hx⟩ : ∃ x, sealB a0 a1.data.toList = some x := ⟨_, sealB_some h4 (by simpa using h1)⟩
  have hsr : sealR a0 a1.data.toList = (x, 0) := by rw [sealR, hx]
  rw [hsr] at hs
  have hlen : x.length = a1.size + 7 := by have := (sealB_parts hx).2.2.2; simpa using this
  have ho1 : ∀ w, Calls Try.prog 15 #[.string (mkS x ++ a2)] w fun e w' => e = .returned (.tuple #[.int .i8 0, .string (mkS []), .int .i64 30]) ∧ Below w.heap.size w w' := fun w => by
    have := Open_any (mkS x ++ a2) w (by rw [ByteArray.size_append, mkS_size]; omega)
    unfold OpenPost at this
    rw [show (mkS x ++ a2).data.toList = x ++ a2.data.toList by simp [mkS], open_more hx a2.data.toList (by simpa using h3)] at this
    exact this
  have ho2 : ∀ j w, j < x.length → Calls Try.prog 15 #[.string ((mkS x).extract 0 j)] w fun e w' => e = .returned (.tuple #[.int .i8 0, .string (mkS []), .int .i64 30]) ∧ Below w.heap.size w w' := fun j w hj => by
    have := Open_any ((mkS x).extract 0 j) w (by rw [← bytes_length, Lib.extract_data, List.length_take]; omega)
    unfold OpenPost at this
    rw [show ((mkS x).extract 0 j).data.toList = x.take j by rw [Lib.extract_data, mkS_toList]; simp, open_less hx j hj] at this
    exact this
  have HS := Lib.hid hs; clear hs
  have HO1 := Lib.hid ho1; clear ho1
  have HO2 := Lib.hid ho2; clear ho2
  have hxs : x.length ≤ (mkS x).size := by rw [mkS_size]; exact Nat.le_refl _
  have hxs' : (mkS x).size ≤ x.length := by rw [mkS_size]; exact Nat.le_refl _
  have hl5 : x.length ≤ 512 := by omega
  clear hsr hx hlen
  generalize x.length = n at *
  generalize mkS x = X at *
  go_enter Try.func4, Try.ntmps4
  go_wp2_with fail
  refine HS.out.mono ?_
  rintro e w1 ⟨rfl, hB1⟩
  go_wp2_with fail
  refine (HO1.out w1).mono ?_
  rintro e w2 ⟨rfl, hB2⟩
  have hB := below_step hB1 hB2 hB1.size
  clear hB1 hB2
  have HB := Lib.hid hB; clear hB
  go_wp2_with fail
  go_loopg [12] n (fun k i wr => ∃ j : Nat, j ≤ n ∧ k = n - j ∧ i = .int .i64 j ∧ Below w.heap.size w wr)
  case atStart => exact ⟨0, Nat.zero_le _, rfl, rfl, HB.out⟩
  case round =>
    obtain ⟨j, hj, rfl, rfl, hB⟩ := hrel
    by_cases hlt : j < n
    · have hlt' : j < X.size := by omega
      go_wp2_with fail
      refine (HO2.out j _ hlt).mono ?_
      rintro e w3 ⟨rfl, hB3⟩
      have hB' := below_step hB hB3 hB.size
      clear hB hB3
      go_wp2_with fail
      go_roundg (n - (j + 1))
      case rel => exact ⟨j + 1, by omega, rfl, by go_num, hB'⟩
      case measure => omega
    · have hlt' : X.size ≤ j := by omega
      have b5 : (X.size : Int) ≤ 512 := by omega
      go_wp2_with fail
      refine (wakes03 _).mono ?_
      rintro e w3 ⟨rfl, hB3⟩
      have hB' := below_step hB hB3 hB.size
      clear hB hB3
      go_wp2_with fail
      go_ret
      exact ⟨rfl, hB'⟩

theorem walk (a0 : Int) (w0 : (Lit.int .i8 a0).wf = true) (a1 : ByteArray) (w1 : a1.size ≤ maxLen) (a2 : ByteArray) (w2 : a2.size ≤ maxLen) (w : World) :
    Calls Try.prog 4 #[.int .i8 a0, .string a1, .string a2] w fun e w' => e = .returned (.bool true) ∧ Below w.heap.size w w' := by
  by_cases h : 505 < a1.size ∨ 600 < a2.size ∨ a2.size = 0 ∨ a0 < 1
  · exact early a0 a1 a2 w h
  · have h7 : a0 ≤ 127 := (wf_i8 w0).2
    exact late a0 a1 a2 w h7 (by omega) (by omega) (by omega) (by omega)

theorem own : ownKnob Try.prog.godebug = none := by kernel_rfl
theorem laidOut : laidOutB Try.prog = true := by kernel_rfl
set_option maxRecDepth 100000 in
theorem lifted (os : Os) (started : os.Started) (H : Type) (enc : TypeId × Value → H) :
    ReturnsInHanded {} Try.checked os 4 .any (Rows.sealLongSpec.pre6 enc Try.prog Try.f4 Rows.sealLongRow.domain false) (Rows.sealLongSpec.post enc Try.prog Try.f4 false true false false) := by
  refine returnsInHanded_of_change (C := Try.checked) own started (by kernel_rfl) Try.func4
    (ChangeSpec.witness6 (enc := enc) (C := Try.checked) false ⟨#[], #[.int .i8 0, .string ByteArray.empty, .string ByteArray.empty], []⟩ 8 (by kernel_rfl) (by kernel_rfl) (by kernel_rfl) (by kernel_rfl)) ?_
  intro W base args ds gs before hval0 hW hcnd _
  have hval : ∀ (j : Nat) t v, Try.f4.params[j]? = some t → args[j]? = some v → Value.okWide Try.prog W .any base t v := hval0
  have hW' := hW
  obtain ⟨p, q, hA0, hV, rfl, hfz, hnd⟩ := hW
  have hA : DataW.TrodAll enc Try.prog W 0 (fun _ => true) true Try.f4.params.toList args.toList ds p := hA0
  rw [Try.params4] at hA hval
  obtain ⟨v0, vs0, d0, ds0, p0, q0, hargs, rfl, rfl, h0, r0⟩ := trodAll_cons hA
  obtain ⟨v1, vs1, d1, ds1, p1, q1, rfl, rfl, rfl, h1, r1⟩ := trodAll_cons r0
  obtain ⟨v2, vs2, d2, ds2, p2, q2, rfl, rfl, rfl, h2, r2⟩ := trodAll_cons r1
  obtain ⟨rfl, rfl, rfl⟩ := trodAll_nil r2
  obtain rfl : args = #[v0, v1, v2] := by cases args; simp_all
  obtain ⟨rfl, rfl⟩ := trodVars_none hV
  have k0 := h0
  have lt0 : ∀ x ∈ p0, x.block < W.heap.size := by obtain ⟨m, hm⟩ := k0; exact DataW.trod_lt m _ _ _ hm
  obtain ⟨a0, rfl, -, -, w0⟩ := open_int Try.underlying22 (hval 0 22 v0 rfl rfl) h0
  have k1 := h1
  have lt1 : ∀ x ∈ p1, x.block < W.heap.size := by obtain ⟨m, hm⟩ := k1; exact DataW.trod_lt m _ _ _ hm
  obtain ⟨a1, rfl, -, -, w1⟩ := open_string Try.underlying9 (hval 1 9 v1 rfl rfl) h1
  have k2 := h2
  have lt2 : ∀ x ∈ p2, x.block < W.heap.size := by obtain ⟨m, hm⟩ := k2; exact DataW.trod_lt m _ _ _ hm
  obtain ⟨a2, rfl, -, -, w2⟩ := open_string Try.underlying9 (hval 2 9 v2 rfl rfl) h2
  clear hA0 hval0
  refine (walk a0 w0 a1 w1 a2 w2 W).mono fun e W' ⟨he, bel⟩ => ?_
  subst he
  exact ⟨_, rfl, _, _, _, [], _, [], hW', trodAll_mk1 (shut_bool Try.underlying4 _), (trodAll_cons_mk (Below.trod laidOut (by kernel_rfl) (of_decide_eq_true (by kernel_rfl)) k0 bel lt0) (trodAll_cons_mk (Below.trod laidOut (by kernel_rfl) (of_decide_eq_true (by kernel_rfl)) k1 bel lt1) (trodAll_cons_mk (Below.trod laidOut (by kernel_rfl) (of_decide_eq_true (by kernel_rfl)) k2 bel lt2) trodAll_mk0))), rfl, bel.frame _, fun h => by cases h⟩

/-- The statement. -/
theorem proved : Rows.SealLongSaid :=
  OpenClaim.holds_of_wide 4 Try.f4 rfl rfl rfl rfl rfl rfl rfl ⟨rfl, rfl, rfl, rfl, rfl⟩ rfl rfl rfl rfl rfl (by kernel_rfl) Try.func4 (by kernel_rfl)
    (of_decide_eq_true (by kernel_rfl)) (by unfold Func.isWrapper; first | (rw [if_pos (by decide +kernel)]; kernel_rfl) | (rw [if_neg (by decide +kernel)]; exact ⟨rfl, rfl⟩))
    (fun os started H enc _ => lifted os started H enc)
end Go.Proofs.Ytkmiknefbbjggaa.sealLong

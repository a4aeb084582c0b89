/- breakwaterlaw08.BallotReads returns true for every input: any sector as a record, or ErrCorrupt, is what the document says. No condition. -/
import Derived.Test.YtkmiknefbbjggaaRows
import Derived.Test.YtkmiknefbbjggaaWakes8
import Derived.Test.YtkmiknefbbjggaaFrame
namespace Go.Proofs.Ytkmiknefbbjggaa.ballotReads
open Go.ChangeShapes Go.WideShapes Go.ChangeAt Go.RowKit
open Go.ChangeMaps (open_string shut_string)
set_option linter.unusedVariables false

theorem early (a0 : ByteArray) (w : World) (h : 1000 < a0.size) :
    Calls Try.prog 10 #[.string a0] w fun e w' => e = .returned (.bool true) ∧ Below w.heap.size w w' := by
  have b1 : (1000 : Int) < (a0.size : Int) := by omega
  go_enter Try.func10, Try.ntmps10
  go_wp2_with (go_at_call 31; refine (wakes08 _).mono ?_; rintro e w' ⟨rfl, hB⟩)
  go_ret
  exact ⟨rfl, hB⟩

set_option maxHeartbeats 1000000 in
set_option maxRecDepth 100000 in
theorem late (a0 : ByteArray) (w : World) (h : a0.size ≤ 1000) :
    Calls Try.prog 10 #[.string a0] w fun e w' => e = .returned (.bool true) ∧ Below w.heap.size w w' := by
  have b1 : decide ((1000 : Int) < (a0.size : Int)) = false := by simp; omega
  have f1 := fun w => Read_any a0 w (by omega)
  have f2 := fun w => rRead_any a0 w (by omega)
  unfold ReadPost at f1 f2
  generalize readR a0.data.toList = r at *
  obtain ⟨⟨i, m, b, v⟩, e⟩ := r
  dsimp only at f1 f2
  generalize mkS v = V at *
  have F1 := Lib.hid f1; clear f1
  have F2 := Lib.hid f2; clear f2
  go_enter Try.func10, Try.ntmps10
  go_wp2_with fail
  refine (F1.out _).mono ?_
  rintro e w1 ⟨rfl, hB1⟩
  have HB1 := Lib.hid hB1; clear hB1
  go_wp2_with fail
  refine (F2.out _).mono ?_
  rintro e w2 ⟨rfl, hB⟩
  have hz := (Blk.new w1 55 (recCells i m b V)).below hB (by simp)
  have HB2 := Lib.hid (below_step (HB1.out.alloc HB1.out.size _) hB (by have := HB1.out.size; simp; omega)); clear hB HB1
  have hlt := hz.lt
  obtain ⟨c0, c1, c2, c3⟩ := hz.cells4
  clear hz
  go_wp2_with fail
  refine (wakes08 _).mono ?_
  rintro e w3 ⟨rfl, hB⟩
  have hB3 := below_step (HB2.out.alloc HB2.out.size _) hB (by have := HB2.out.size; simp; omega)
  clear hB HB2
  go_wp2_with fail
  go_ret
  exact ⟨rfl, hB3⟩

theorem walk (a0 : ByteArray) (w0 : a0.size ≤ maxLen) (w : World) :
    Calls Try.prog 10 #[.string a0] w fun e w' => e = .returned (.bool true) ∧ Below w.heap.size w w' := by
  by_cases h : 1000 < a0.size
  · exact early a0 w h
  · exact late a0 w (by omega)

theorem own : ownKnob Try.prog.godebug = none := by kernel_rfl
theorem laidOut : laidOutB Try.prog = true := by kernel_rfl
set_option maxRecDepth 100000 in
theorem lifted (os : Os) (started : os.Started) (H : Type) (enc : TypeId × Value → H) :
    ReturnsInHanded {} Try.checked os 10 .any (Rows.ballotReadsSpec.pre6 enc Try.prog Try.f10 Rows.ballotReadsRow.domain false) (Rows.ballotReadsSpec.post enc Try.prog Try.f10 false true false false) := by
  refine returnsInHanded_of_change (C := Try.checked) own started (by kernel_rfl) Try.func10
    (ChangeSpec.witness6 (enc := enc) (C := Try.checked) false ⟨#[], #[.string ByteArray.empty], []⟩ 8 (by kernel_rfl) (by kernel_rfl) (by kernel_rfl) (by kernel_rfl)) ?_
  intro W base args ds gs before hval0 hW hcnd _
  have hval : ∀ (j : Nat) t v, Try.f10.params[j]? = some t → args[j]? = some v → Value.okWide Try.prog W .any base t v := hval0
  have hW' := hW
  obtain ⟨p, q, hA0, hV, rfl, hfz, hnd⟩ := hW
  have hA : DataW.TrodAll enc Try.prog W 0 (fun _ => true) true Try.f10.params.toList args.toList ds p := hA0
  rw [Try.params10] at hA hval
  obtain ⟨v0, vs0, d0, ds0, p0, q0, hargs, rfl, rfl, h0, r0⟩ := trodAll_cons hA
  obtain ⟨rfl, rfl, rfl⟩ := trodAll_nil r0
  obtain rfl : args = #[v0] := by cases args; simp_all
  obtain ⟨rfl, rfl⟩ := trodVars_none hV
  have k0 := h0
  have lt0 : ∀ x ∈ p0, x.block < W.heap.size := by obtain ⟨m, hm⟩ := k0; exact DataW.trod_lt m _ _ _ hm
  obtain ⟨a0, rfl, -, -, w0⟩ := open_string Try.underlying9 (hval 0 9 v0 rfl rfl) h0
  clear hA0 hval0
  refine (walk a0 w0 W).mono fun e W' ⟨he, bel⟩ => ?_
  subst he
  exact ⟨_, rfl, _, _, _, [], _, [], hW', trodAll_mk1 (shut_bool Try.underlying4 _), (trodAll_cons_mk (Below.trod laidOut (by kernel_rfl) (of_decide_eq_true (by kernel_rfl)) k0 bel lt0) trodAll_mk0), rfl, bel.frame _, fun h => by cases h⟩

/-- The statement. -/
theorem proved : Rows.BallotReadsSaid :=
  OpenClaim.holds_of_wide 10 Try.f10 rfl rfl rfl rfl rfl rfl rfl ⟨rfl, rfl, rfl, rfl, rfl⟩ rfl rfl rfl rfl rfl (by kernel_rfl) Try.func10 (by kernel_rfl)
    (of_decide_eq_true (by kernel_rfl)) (by unfold Func.isWrapper; first | (rw [if_pos (by decide +kernel)]; kernel_rfl) | (rw [if_neg (by decide +kernel)]; exact ⟨rfl, rfl⟩))
    (fun os started H enc _ => lifted os started H enc)
end Go.Proofs.Ytkmiknefbbjggaa.ballotReads

/- breakwaterlaw07.BeatOver returns true for every input: a lease that is asked later ends later, and it is over for good. No condition. -/
import Derived.Test.YtkmiknefbbjggaaRows
import Derived.Test.YtkmiknefbbjggaaWakes7
import Derived.Test.YtkmiknefbbjggaaFrameGeo
namespace Go.Proofs.Ytkmiknefbbjggaa.beatOver
open Go.ChangeShapes Go.WideShapes Go.ChangeAt Go.RowKit
open Go.ChangeMaps (open_string shut_string)
set_option linter.unusedVariables false

set_option maxHeartbeats 4000000 in
set_option maxRecDepth 100000 in
theorem core (x0 x1 x2 x3 x4 x5 L x7 a m n l : Int) (w : World) :
    Calls Try.prog 9 #[.agg #[.int .i64 x0, .int .i64 x1, .int .i64 x2, .int .i64 x3, .int .i64 x4, .int .i64 x5, .int .i64 L, .int .i64 x7], .int .i64 a, .int .i64 m, .int .i64 n, .int .i64 l] w fun e w' => e = .returned (.bool true) ∧ Below w.heap.size w w' := by
  have hfar := far_any (some ⟨w.heap.size + 1, 0, none⟩) 5 [L, a, m, n, l] ((w.alloc (Obj.cells #[.int .i64 x0, .int .i64 x1, .int .i64 x2, .int .i64 x3, .int .i64 x4, .int .i64 x5, .int .i64 L, .int .i64 x7] 42)).alloc (Obj.cells #[.int .i64 L, .int .i64 a, .int .i64 m, .int .i64 n, .int .i64 l] 3)) (by simp) (by
      have h := Blk.new (w.alloc (Obj.cells #[.int .i64 x0, .int .i64 x1, .int .i64 x2, .int .i64 x3, .int .i64 x4, .int .i64 x5, .int .i64 L, .int .i64 x7] 42)) 3 #[.int .i64 L, .int .i64 a, .int .i64 m, .int .i64 n, .int .i64 l]
      rw [show (w.alloc (Obj.cells #[.int .i64 x0, .int .i64 x1, .int .i64 x2, .int .i64 x3, .int .i64 x4, .int .i64 x5, .int .i64 L, .int .i64 x7] 42)).heap.size = w.heap.size + 1 by simp] at h
      exact reads_blk h rfl rfl)
  have hbs : ∀ t (h : t < ([L, a, m, n, l] : List Int).length), farB [L, a, m, n, l] = false → -1125899906842624 ≤ ([L, a, m, n, l] : List Int)[t] ∧ ([L, a, m, n, l] : List Int)[t] ≤ 1125899906842624 := fun t h hf => by
    by_cases hc : 1125899906842624 < ([L, a, m, n, l] : List Int)[t] ∨ ([L, a, m, n, l] : List Int)[t] < -1125899906842624
    · rw [farB_at h hc] at hf; cases hf
    · omega
  have bL := hbs 0 (by simp)
  have ba := hbs 1 (by simp)
  have bm := hbs 2 (by simp)
  have bn := hbs 3 (by simp)
  have bl := hbs 4 (by simp)
  simp only [List.getElem_cons_zero, List.getElem_cons_succ] at bL ba bm bn bl
  clear hbs
  generalize farB [L, a, m, n, l] = fb at *
  have HFAR := Lib.hid hfar; clear hfar
  have hB2 : Below w.heap.size w ((w.alloc (Obj.cells #[.int .i64 x0, .int .i64 x1, .int .i64 x2, .int .i64 x3, .int .i64 x4, .int .i64 x5, .int .i64 L, .int .i64 x7] 42)).alloc (Obj.cells #[.int .i64 L, .int .i64 a, .int .i64 m, .int .i64 n, .int .i64 l] 3)) := below2 _ _ _
  have HB2 := Lib.hid hB2; clear hB2
  by_cases hearly : fb = true ∨ m < 0 ∨ l < 0 ∨ L < 0
  · have hcase : fb = true ∨ (fb = false ∧ m < 0) ∨ (fb = false ∧ ¬ m < 0 ∧ l < 0) ∨ (fb = false ∧ ¬ m < 0 ∧ ¬ l < 0 ∧ L < 0) := by
      cases fb with
      | true => exact .inl rfl
      | false =>
        by_cases h1 : m < 0
        · exact .inr (.inl ⟨rfl, h1⟩)
        · by_cases h2 : l < 0
          · exact .inr (.inr (.inl ⟨rfl, h1, h2⟩))
          · exact .inr (.inr (.inr ⟨rfl, h1, h2, by rcases hearly with h | h | h | h <;> first | cases h | omega⟩))
    clear hearly bL ba bm bn bl
    rcases hcase with h | ⟨h, h1⟩ | ⟨h, h1, h2⟩ | ⟨h, h1, h2, h3⟩
    all_goals
      subst h
      go_enter Try.func9, Try.ntmps9
      go_wp2_with fail
      refine HFAR.out.mono ?_
      rintro e w' ⟨rfl, rfl⟩
      go_wp2_with fail
      refine (wakes07 _).mono ?_
      rintro e w2 ⟨rfl, hB⟩
      go_wp2_with fail
      go_ret
      exact ⟨rfl, below_step HB2.out hB HB2.out.size⟩
  · have hf : fb = false := by
      cases fb with
      | true => exact absurd (.inl rfl) hearly
      | false => rfl
    subst hf
    have h1 : 0 ≤ m := by omega
    have h2 : 0 ≤ l := by omega
    have h3 : 0 ≤ L := by omega
    obtain ⟨bL1, bL2⟩ := bL rfl
    obtain ⟨ba1, ba2⟩ := ba rfl
    obtain ⟨bm1, bm2⟩ := bm rfl
    obtain ⟨bn1, bn2⟩ := bn rfl
    obtain ⟨bl1, bl2⟩ := bl rfl
    clear bL ba bm bn bl hearly
    have o3 : overB L a (a + L) = false := decide_eq_false (by omega)
    have o4 : overB L a (a + L + 1) = true := decide_eq_true (by omega)
    have O3 := Lib.hid o3; clear o3
    have O4 := Lib.hid o4; clear o4
    have hG0 : Blk ((w.alloc (Obj.cells #[.int .i64 x0, .int .i64 x1, .int .i64 x2, .int .i64 x3, .int .i64 x4, .int .i64 x5, .int .i64 L, .int .i64 x7] 42)).alloc (Obj.cells #[.int .i64 L, .int .i64 a, .int .i64 m, .int .i64 n, .int .i64 l] 3)) w.heap.size 42 #[.int .i64 x0, .int .i64 x1, .int .i64 x2, .int .i64 x3, .int .i64 x4, .int .i64 x5, .int .i64 L, .int .i64 x7] := (Blk.new w _ _).alloc _
    have HG := Lib.hid hG0; clear hG0
    have HB := HB2; clear HB2
    by_cases hov : overB L a n = true
    · have o2 : overB L a (n + l) = true := decide_eq_true (by have := of_decide_eq_true hov; omega)
      have O1 := Lib.hid hov; clear hov
      have O2 := Lib.hid o2; clear o2
      go_enter Try.func9, Try.ntmps9
      go_wp2_with fail
      refine HFAR.out.mono ?_
      rintro e w' ⟨rfl, rfl⟩
      go_wp2_with fail
      refine (Over_any x0 x1 x2 x3 x4 x5 L x7 a n _ (by omega) (by omega) (by omega) (by omega)).mono ?_
      rw [O1.out]
      rintro e w3 ⟨rfl, hB1⟩
      have hbG := HG.out.below hB1 HG.out.lt
      have hB := below_step HB.out hB1 HB.out.size
      clear hB1 HG HB
      obtain ⟨g0, g1, g2, g3, g4, g5, g6, g7⟩ := hbG.cells8
      have HG := Lib.hid hbG; clear hbG
      have HB := Lib.hid hB; clear hB
      go_wp2_with fail
      refine (Over_any x0 x1 x2 x3 x4 x5 L x7 a (n + l) _ (by omega) (by omega) (by omega) (by omega)).mono ?_
      rw [O2.out]
      rintro e w3 ⟨rfl, hB1⟩
      clear g0 g1 g2 g3 g4 g5 g6 g7
      have hbG := HG.out.below hB1 HG.out.lt
      have hB := below_step HB.out hB1 HB.out.size
      clear hB1 HG HB
      obtain ⟨g0, g1, g2, g3, g4, g5, g6, g7⟩ := hbG.cells8
      have HG := Lib.hid hbG; clear hbG
      have HB := Lib.hid hB; clear hB
      go_wp2_with fail
      refine (Over_any x0 x1 x2 x3 x4 x5 L x7 a (a + L) _ (by omega) (by omega) (by omega) (by omega)).mono ?_
      rw [O3.out]
      rintro e w3 ⟨rfl, hB1⟩
      clear g0 g1 g2 g3 g4 g5 g6 g7
      have hbG := HG.out.below hB1 HG.out.lt
      have hB := below_step HB.out hB1 HB.out.size
      clear hB1 HG HB
      obtain ⟨g0, g1, g2, g3, g4, g5, g6, g7⟩ := hbG.cells8
      have HG := Lib.hid hbG; clear hbG
      have HB := Lib.hid hB; clear hB
      go_wp2_with fail
      refine (Over_any x0 x1 x2 x3 x4 x5 L x7 a (a + L + 1) _ (by omega) (by omega) (by omega) (by omega)).mono ?_
      rw [O4.out]
      rintro e w3 ⟨rfl, hB1⟩
      clear g0 g1 g2 g3 g4 g5 g6 g7
      have hbG := HG.out.below hB1 HG.out.lt
      have hB := below_step HB.out hB1 HB.out.size
      clear hB1 HG HB
      obtain ⟨g0, g1, g2, g3, g4, g5, g6, g7⟩ := hbG.cells8
      have HG := Lib.hid hbG; clear hbG
      have HB := Lib.hid hB; clear hB
      go_wp2_with fail
      refine (wakes07 _).mono ?_
      rintro e w4 ⟨rfl, hB1⟩
      have hB := below_step HB.out hB1 HB.out.size
      clear hB1
      go_wp2_with fail
      go_ret
      exact ⟨rfl, hB⟩
    · have hov' : overB L a n = false := by simpa using hov
      have o2 : overB L (a + m) n = false := decide_eq_false (by have := of_decide_eq_false hov'; omega)
      have O1 := Lib.hid hov'; clear hov hov'
      have O2 := Lib.hid o2; clear o2
      go_enter Try.func9, Try.ntmps9
      go_wp2_with fail
      refine HFAR.out.mono ?_
      rintro e w' ⟨rfl, rfl⟩
      go_wp2_with fail
      refine (Over_any x0 x1 x2 x3 x4 x5 L x7 a n _ (by omega) (by omega) (by omega) (by omega)).mono ?_
      rw [O1.out]
      rintro e w3 ⟨rfl, hB1⟩
      have hbG := HG.out.below hB1 HG.out.lt
      have hB := below_step HB.out hB1 HB.out.size
      clear hB1 HG HB
      obtain ⟨g0, g1, g2, g3, g4, g5, g6, g7⟩ := hbG.cells8
      have HG := Lib.hid hbG; clear hbG
      have HB := Lib.hid hB; clear hB
      go_wp2_with fail
      refine (Over_any x0 x1 x2 x3 x4 x5 L x7 (a + m) n _ (by omega) (by omega) (by omega) (by omega)).mono ?_
      rw [O2.out]
      rintro e w3 ⟨rfl, hB1⟩
      clear g0 g1 g2 g3 g4 g5 g6 g7
      have hbG := HG.out.below hB1 HG.out.lt
      have hB := below_step HB.out hB1 HB.out.size
      clear hB1 HG HB
      obtain ⟨g0, g1, g2, g3, g4, g5, g6, g7⟩ := hbG.cells8
      have HG := Lib.hid hbG; clear hbG
      have HB := Lib.hid hB; clear hB
      go_wp2_with fail
      refine (Over_any x0 x1 x2 x3 x4 x5 L x7 a (a + L) _ (by omega) (by omega) (by omega) (by omega)).mono ?_
      rw [O3.out]
      rintro e w3 ⟨rfl, hB1⟩
      clear g0 g1 g2 g3 g4 g5 g6 g7
      have hbG := HG.out.below hB1 HG.out.lt
      have hB := below_step HB.out hB1 HB.out.size
      clear hB1 HG HB
      obtain ⟨g0, g1, g2, g3, g4, g5, g6, g7⟩ := hbG.cells8
      have HG := Lib.hid hbG; clear hbG
      have HB := Lib.hid hB; clear hB
      go_wp2_with fail
      refine (Over_any x0 x1 x2 x3 x4 x5 L x7 a (a + L + 1) _ (by omega) (by omega) (by omega) (by omega)).mono ?_
      rw [O4.out]
      rintro e w3 ⟨rfl, hB1⟩
      clear g0 g1 g2 g3 g4 g5 g6 g7
      have hbG := HG.out.below hB1 HG.out.lt
      have hB := below_step HB.out hB1 HB.out.size
      clear hB1 HG HB
      obtain ⟨g0, g1, g2, g3, g4, g5, g6, g7⟩ := hbG.cells8
      have HG := Lib.hid hbG; clear hbG
      have HB := Lib.hid hB; clear hB
      go_wp2_with fail
      refine (wakes07 _).mono ?_
      rintro e w4 ⟨rfl, hB1⟩
      have hB := below_step HB.out hB1 HB.out.size
      clear hB1
      go_wp2_with fail
      go_ret
      exact ⟨rfl, hB⟩

theorem walk (a0_0 a0_1 a0_2 a0_3 a0_4 a0_5 a0_6 a0_7 : Int) (w0_0 : (Lit.int .i64 a0_0).wf = true) (w0_1 : (Lit.int .i64 a0_1).wf = true) (w0_2 : (Lit.int .i64 a0_2).wf = true) (w0_3 : (Lit.int .i64 a0_3).wf = true) (w0_4 : (Lit.int .i64 a0_4).wf = true) (w0_5 : (Lit.int .i64 a0_5).wf = true) (w0_6 : (Lit.int .i64 a0_6).wf = true) (w0_7 : (Lit.int .i64 a0_7).wf = true) (a1 : Int) (w1 : (Lit.int .i64 a1).wf = true) (a2 : Int) (w2 : (Lit.int .i64 a2).wf = true) (a3 : Int) (w3 : (Lit.int .i64 a3).wf = true) (a4 : Int) (w4 : (Lit.int .i64 a4).wf = true) (w : World) :
    Calls Try.prog 9 #[.agg #[.int .i64 a0_0, .int .i64 a0_1, .int .i64 a0_2, .int .i64 a0_3, .int .i64 a0_4, .int .i64 a0_5, .int .i64 a0_6, .int .i64 a0_7], .int .i64 a1, .int .i64 a2, .int .i64 a3, .int .i64 a4] w fun e w' => e = .returned (.bool true) ∧ Below w.heap.size w w' :=
  core a0_0 a0_1 a0_2 a0_3 a0_4 a0_5 a0_6 a0_7 a1 a2 a3 a4 w

theorem own : ownKnob Try.prog.godebug = none := by kernel_rfl
theorem laidOut : laidOutB Try.prog = true := by kernel_rfl
set_option maxRecDepth 100000 in
theorem lifted (os : Os) (started : os.Started) (H : Type) (enc : TypeId × Value → H) :
    ReturnsInHanded {} Try.checked os 9 .any (Rows.beatOverSpec.pre6 enc Try.prog Try.f9 Rows.beatOverRow.domain false) (Rows.beatOverSpec.post enc Try.prog Try.f9 false true false false) := by
  refine returnsInHanded_of_change (C := Try.checked) own started (by kernel_rfl) Try.func9
    (ChangeSpec.witness6 (enc := enc) (C := Try.checked) false ⟨#[], #[.agg #[.int .i64 0, .int .i64 0, .int .i64 0, .int .i64 0, .int .i64 0, .int .i64 0, .int .i64 0, .int .i64 0], .int .i64 0, .int .i64 0, .int .i64 0, .int .i64 0], []⟩ 8 (by kernel_rfl) (by kernel_rfl) (by kernel_rfl) (by kernel_rfl)) ?_
  intro W base args ds gs before hval0 hW hcnd _
  have hval : ∀ (j : Nat) t v, Try.f9.params[j]? = some t → args[j]? = some v → Value.okWide Try.prog W .any base t v := hval0
  have hW' := hW
  obtain ⟨p, q, hA0, hV, rfl, hfz, hnd⟩ := hW
  have hA : DataW.TrodAll enc Try.prog W 0 (fun _ => true) true Try.f9.params.toList args.toList ds p := hA0
  rw [Try.params9] at hA hval
  obtain ⟨v0, vs0, d0, ds0, p0, q0, hargs, rfl, rfl, h0, r0⟩ := trodAll_cons hA
  obtain ⟨v1, vs1, d1, ds1, p1, q1, rfl, rfl, rfl, h1, r1⟩ := trodAll_cons r0
  obtain ⟨v2, vs2, d2, ds2, p2, q2, rfl, rfl, rfl, h2, r2⟩ := trodAll_cons r1
  obtain ⟨v3, vs3, d3, ds3, p3, q3, rfl, rfl, rfl, h3, r3⟩ := trodAll_cons r2
  obtain ⟨v4, vs4, d4, ds4, p4, q4, rfl, rfl, rfl, h4, r4⟩ := trodAll_cons r3
  obtain ⟨rfl, rfl, rfl⟩ := trodAll_nil r4
  obtain rfl : args = #[v0, v1, v2, v3, v4] := by cases args; simp_all
  obtain ⟨rfl, rfl⟩ := trodVars_none hV
  have k0 := h0
  have lt0 : ∀ x ∈ p0, x.block < W.heap.size := by obtain ⟨m, hm⟩ := k0; exact DataW.trod_lt m _ _ _ hm
  obtain ⟨a0_0, a0_1, a0_2, a0_3, a0_4, a0_5, a0_6, a0_7, rfl, w0_0, w0_1, w0_2, w0_3, w0_4, w0_5, w0_6, w0_7⟩ := open_api_Geo_arg (hval 0 42 v0 rfl rfl) h0
  have k1 := h1
  have lt1 : ∀ x ∈ p1, x.block < W.heap.size := by obtain ⟨m, hm⟩ := k1; exact DataW.trod_lt m _ _ _ hm
  obtain ⟨a1, rfl, -, -, w1⟩ := open_int Try.underlying3 (hval 1 3 v1 rfl rfl) h1
  have k2 := h2
  have lt2 : ∀ x ∈ p2, x.block < W.heap.size := by obtain ⟨m, hm⟩ := k2; exact DataW.trod_lt m _ _ _ hm
  obtain ⟨a2, rfl, -, -, w2⟩ := open_int Try.underlying3 (hval 2 3 v2 rfl rfl) h2
  have k3 := h3
  have lt3 : ∀ x ∈ p3, x.block < W.heap.size := by obtain ⟨m, hm⟩ := k3; exact DataW.trod_lt m _ _ _ hm
  obtain ⟨a3, rfl, -, -, w3⟩ := open_int Try.underlying3 (hval 3 3 v3 rfl rfl) h3
  have k4 := h4
  have lt4 : ∀ x ∈ p4, x.block < W.heap.size := by obtain ⟨m, hm⟩ := k4; exact DataW.trod_lt m _ _ _ hm
  obtain ⟨a4, rfl, -, -, w4⟩ := open_int Try.underlying3 (hval 4 3 v4 rfl rfl) h4
  clear hA0 hval0
  refine (walk a0_0 a0_1 a0_2 a0_3 a0_4 a0_5 a0_6 a0_7 w0_0 w0_1 w0_2 w0_3 w0_4 w0_5 w0_6 w0_7 a1 w1 a2 w2 a3 w3 a4 w4 W).mono fun e W' ⟨he, bel⟩ => ?_
  subst he
  exact ⟨_, rfl, _, _, _, [], _, [], hW', trodAll_mk1 (shut_bool Try.underlying4 _), (trodAll_cons_mk (Below.trod laidOut (by kernel_rfl) (of_decide_eq_true (by kernel_rfl)) k0 bel lt0) (trodAll_cons_mk (Below.trod laidOut (by kernel_rfl) (of_decide_eq_true (by kernel_rfl)) k1 bel lt1) (trodAll_cons_mk (Below.trod laidOut (by kernel_rfl) (of_decide_eq_true (by kernel_rfl)) k2 bel lt2) (trodAll_cons_mk (Below.trod laidOut (by kernel_rfl) (of_decide_eq_true (by kernel_rfl)) k3 bel lt3) (trodAll_cons_mk (Below.trod laidOut (by kernel_rfl) (of_decide_eq_true (by kernel_rfl)) k4 bel lt4) trodAll_mk0))))), rfl, bel.frame _, fun h => by cases h⟩

/-- The statement. -/
theorem proved : Rows.BeatOverSaid :=
  OpenClaim.holds_of_wide 9 Try.f9 rfl rfl rfl rfl rfl rfl rfl ⟨rfl, rfl, rfl, rfl, rfl⟩ rfl rfl rfl rfl rfl (by kernel_rfl) Try.func9 (by kernel_rfl)
    (of_decide_eq_true (by kernel_rfl)) (by unfold Func.isWrapper; first | (rw [if_pos (by decide +kernel)]; kernel_rfl) | (rw [if_neg (by decide +kernel)]; exact ⟨rfl, rfl⟩))
    (fun os started H enc _ => lifted os started H enc)
end Go.Proofs.Ytkmiknefbbjggaa.beatOver

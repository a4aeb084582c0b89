/- The statement GeoRound: a journal's places go round, those side by side are unlike as long as they are fewer than it has, and what is none has no sector: for any geometry, slot and places. -/
import Derived.Test.YthfnbageimpbiaaGeoWakes
import Derived.Test.YthfnbageimpbiaaGeoRef
import Derived.Test.YthfnbageimpbiaaFrameGeo
import Derived.Test.YthfnbageimpbiaaRows
import Derived.ProofKit
import Derived.OpenShut
import Derived.Below
namespace Go.Proofs.Ythfnbageimpbiaa.geoRound
open Go.ChangeShapes Go.WideShapes Go.ChangeAt Go.RowKit Go.Joins
set_option linter.unusedVariables false

theorem jr {g : Geo} (hm : g.may = true) {i : Int} (h0 : 0 ≤ i) (h1 : i < g.slots) {l : Int} (hl : 0 ≤ l) : g.journalS i l = g.headS i + 1 + l % g.journal := by
  refine journal_head ?_ hl
  unfold Geo.headS
  rw [if_pos ⟨hm, h0, h1⟩]
  have hk := Geo.may_ok hm
  have := hk.n1; have := hk.l1; have := hk.s1
  have : 0 ≤ i * (1 + g.journal) := Int.mul_nonneg h0 (by have := hk.j1; have := hk.p1; omega)
  omega
theorem same_mod (a b j : Int) (hj : 0 < j) : (a % j = b % j) ↔ (a - b).tmod j = 0 := by
  have h1 : (a - b).tmod j = 0 ↔ j ∣ (a - b) := ⟨Int.dvd_of_tmod_eq_zero, Int.tmod_eq_zero_of_dvd⟩
  rw [h1]
  exact Int.emod_eq_emod_iff_emod_sub_eq_zero.trans ⟨Int.dvd_of_emod_eq_zero, Int.emod_eq_zero_of_dvd⟩

set_option maxHeartbeats 1000000 in
set_option maxRecDepth 100000 in
theorem early (g : Geo) (slot a b : Int) (w : World) (h : ¬ (g.may = true ∧ 0 ≤ slot ∧ slot < g.slots ∧ 0 ≤ a ∧ 0 ≤ b ∧ a ≤ 1099511627776 ∧ b ≤ 1099511627776)) :
    Calls Try.prog 5 #[g.v, .int .i64 slot, .int .i64 a, .int .i64 b] w fun e w' => e = .returned (.bool true) ∧ Below w.heap.size w w' := by
  have hm := fun w => RMay_any g w
  generalize g.may = m at *
  have HM := Lib.hid hm; clear hm
  have hB := Lib.hid (geoAt_new g w)
  have fin : ∀ {w1 w2 : World}, Below (w.alloc (.cells #[.int .i64 g.nodes, .int .i64 g.slots, .int .i64 g.blocks, .int .i64 g.per, .int .i64 g.journal, .int .i64 g.log, .int .i64 g.lease, .int .i64 g.wait] 23)).heap.size (w.alloc (.cells #[.int .i64 g.nodes, .int .i64 g.slots, .int .i64 g.blocks, .int .i64 g.per, .int .i64 g.journal, .int .i64 g.log, .int .i64 g.lease, .int .i64 g.wait] 23)) w1 → Below w1.heap.size w1 w2 → Below w.heap.size w w2 := fun h1 h2 => (geoAt_keep (geoAt_keep hB.out h1) h2).2.2.2.2.2.2.2.2.2
  have FIN := Lib.hid (fun w1 w2 => @fin w1 w2); clear fin
  have EX : ∀ {w1 : World}, Below (w.alloc (.cells #[.int .i64 g.nodes, .int .i64 g.slots, .int .i64 g.blocks, .int .i64 g.per, .int .i64 g.journal, .int .i64 g.log, .int .i64 g.lease, .int .i64 g.wait] 23)).heap.size (w.alloc (.cells #[.int .i64 g.nodes, .int .i64 g.slots, .int .i64 g.blocks, .int .i64 g.per, .int .i64 g.journal, .int .i64 g.log, .int .i64 g.lease, .int .i64 g.wait] 23)) w1 → GeoAt g w.heap.size w w1 := fun h1 => geoAt_keep hB.out h1
  have KP := Lib.hid (fun w1 => @EX w1); clear EX

  by_cases n0 : m = true
  case neg =>
    have c0 : m = false := by simpa using n0
    clear h n0
    subst c0
    go_enter Try.func5, Try.ntmps5
    go_wp2_with fail
    refine (HM.out _).mono ?_
    rintro e w1 ⟨rfl, hB1⟩
    have hG := KP.out _ hB1
    go_wp2_with fail
    refine (wakes04 _).mono ?_
    rintro e w2 ⟨rfl, hB2⟩
    go_wp2_with fail
    go_ret
    exact ⟨rfl, FIN.out _ _ hB1 hB2⟩
  by_cases n1 : 0 ≤ slot
  case neg =>
    have c1 : slot < 0 := by omega
    clear h n1
    subst n0
    go_enter Try.func5, Try.ntmps5
    go_wp2_with fail
    refine (HM.out _).mono ?_
    rintro e w1 ⟨rfl, hB1⟩
    have hG := KP.out _ hB1
    go_wp2_with fail
    refine (wakes04 _).mono ?_
    rintro e w2 ⟨rfl, hB2⟩
    go_wp2_with fail
    go_ret
    exact ⟨rfl, FIN.out _ _ hB1 hB2⟩
  by_cases n2 : slot < g.slots
  case neg =>
    have c2 : g.slots ≤ slot := by omega
    clear h n2
    subst n0
    go_enter Try.func5, Try.ntmps5
    go_wp2_with fail
    refine (HM.out _).mono ?_
    rintro e w1 ⟨rfl, hB1⟩
    have hG := KP.out _ hB1
    go_wp2_with fail
    refine (wakes04 _).mono ?_
    rintro e w2 ⟨rfl, hB2⟩
    go_wp2_with fail
    go_ret
    exact ⟨rfl, FIN.out _ _ hB1 hB2⟩
  by_cases n3 : 0 ≤ a
  case neg =>
    have c3 : a < 0 := by omega
    clear h n3
    subst n0
    go_enter Try.func5, Try.ntmps5
    go_wp2_with fail
    refine (HM.out _).mono ?_
    rintro e w1 ⟨rfl, hB1⟩
    have hG := KP.out _ hB1
    go_wp2_with fail
    refine (wakes04 _).mono ?_
    rintro e w2 ⟨rfl, hB2⟩
    go_wp2_with fail
    go_ret
    exact ⟨rfl, FIN.out _ _ hB1 hB2⟩
  by_cases n4 : 0 ≤ b
  case neg =>
    have c4 : b < 0 := by omega
    clear h n4
    subst n0
    go_enter Try.func5, Try.ntmps5
    go_wp2_with fail
    refine (HM.out _).mono ?_
    rintro e w1 ⟨rfl, hB1⟩
    have hG := KP.out _ hB1
    go_wp2_with fail
    refine (wakes04 _).mono ?_
    rintro e w2 ⟨rfl, hB2⟩
    go_wp2_with fail
    go_ret
    exact ⟨rfl, FIN.out _ _ hB1 hB2⟩
  by_cases n5 : a ≤ 1099511627776
  case neg =>
    have c5 : 1099511627776 < a := by omega
    clear h n5
    subst n0
    go_enter Try.func5, Try.ntmps5
    go_wp2_with fail
    refine (HM.out _).mono ?_
    rintro e w1 ⟨rfl, hB1⟩
    have hG := KP.out _ hB1
    go_wp2_with fail
    refine (wakes04 _).mono ?_
    rintro e w2 ⟨rfl, hB2⟩
    go_wp2_with fail
    go_ret
    exact ⟨rfl, FIN.out _ _ hB1 hB2⟩
  by_cases n6 : b ≤ 1099511627776
  case neg =>
    have c6 : 1099511627776 < b := by omega
    clear h n6
    subst n0
    go_enter Try.func5, Try.ntmps5
    go_wp2_with fail
    refine (HM.out _).mono ?_
    rintro e w1 ⟨rfl, hB1⟩
    have hG := KP.out _ hB1
    go_wp2_with fail
    refine (wakes04 _).mono ?_
    rintro e w2 ⟨rfl, hB2⟩
    go_wp2_with fail
    go_ret
    exact ⟨rfl, FIN.out _ _ hB1 hB2⟩
  exact absurd ⟨n0, n1, n2, n3, n4, n5, n6⟩ h

set_option maxHeartbeats 8000000 in
set_option maxRecDepth 100000 in
theorem late (g : Geo) (slot a b : Int) (w : World) (hm : g.may = true) (s0 : 0 ≤ slot) (s1 : slot < g.slots) (a0 : 0 ≤ a) (b0 : 0 ≤ b) (a1 : a ≤ 1099511627776) (b1 : b ≤ 1099511627776) (hw1 : -9223372036854775808 ≤ g.wait) (hw2 : g.wait ≤ 9223372036854775807) :
    Calls Try.prog 5 #[g.v, .int .i64 slot, .int .i64 a, .int .i64 b] w fun e w' => e = .returned (.bool true) ∧ Below w.heap.size w w' := by
  have hmy := fun w => RMay_any g w
  rw [hm] at hmy
  have j1 := jr hm s0 s1 a0
  have j2 := jr hm s0 s1 b0
  have hbd := head_bd g slot
  obtain ⟨k1, k2, k3, k4, k5, k6, k7, k8, k9, k10, k11, k12, k13, k14, k15⟩ := Geo.may_ok hm
  have m1 := Int.emod_nonneg a (b := g.journal) (by omega)
  have m2 := Int.emod_lt_of_pos a (b := g.journal) (by omega)
  have hj0 : ¬ g.journal = 0 := by omega
  have j3 : g.journalS slot (a + g.journal) = g.journalS slot a := by rw [jr hm s0 s1 (by omega), j1, Int.add_emod_right]
  have hxy : (g.journalS slot a == g.journalS slot b) = ((a - b).tmod g.journal == 0) := by
    rw [j1, j2, Bool.eq_iff_iff, beq_iff_eq, beq_iff_eq, ← same_mod a b g.journal (by omega)]
    omega
  have j4 : g.journalS slot (-1 - a) = -1 := journal_neg (by omega) _
  have j5 : g.journalS (slot + g.slots) a = -1 := by unfold Geo.journalS; rw [if_neg (by omega)]
  have j6 : g.dataS (g.blocks + a) 0 = -1 := by unfold Geo.dataS; rw [if_neg (by omega)]
  have j7 : g.leaseS (-1) = -1 := by unfold Geo.leaseS; rw [if_neg (by omega)]
  obtain ⟨X, hX⟩ : ∃ X, g.journalS slot a = X := ⟨_, rfl⟩
  obtain ⟨Y, hY⟩ : ∃ Y, g.journalS slot b = Y := ⟨_, rfl⟩
  obtain ⟨H, hH⟩ : ∃ H, g.headS slot = H := ⟨_, rfl⟩
  obtain ⟨t, ht⟩ : ∃ t, (a - b).tmod g.journal = t := ⟨_, rfl⟩
  rw [hX] at j3 j1 hxy
  rw [hY] at hxy
  rw [hH] at j1 hbd
  rw [ht] at hxy
  have d1 : decide (H < X) = true := by simp; omega
  have d2 : decide (X ≤ H + g.journal) = true := by simp; omega
  clear j1 j2 m1 m2
  have w1 : IntKind.i64.wrap (a + g.journal) = a + g.journal := IntWalk.i64_in _ (by omega)
  have w2 : IntKind.i64.wrap (a - b) = a - b := IntWalk.i64_in _ (by omega)
  have w3 : IntKind.i64.wrap (-1 - a) = -1 - a := IntWalk.i64_in _ (by omega)
  have w4 : IntKind.i64.wrap (slot + g.slots) = slot + g.slots := IntWalk.i64_in _ (by omega)
  have w5 : IntKind.i64.wrap (H + g.journal) = H + g.journal := IntWalk.i64_in _ (by omega)
  have w6 : IntKind.i64.wrap (g.blocks + a) = g.blocks + a := IntWalk.i64_in _ (by omega)
  have p1 := fun w => Journal_any g slot a w (by omega) hw1 hw2
  have p2 := fun w => Journal_any g slot b w (by omega) hw1 hw2
  have p3 := fun w => Journal_any g slot (a + g.journal) w (by omega) hw1 hw2
  have p4 := fun w => Journal_any g slot (-1 - a) w (by omega) hw1 hw2
  have p5 := fun w => Journal_any g (slot + g.slots) a w (by omega) hw1 hw2
  have p6 := fun w => Data_any g (g.blocks + a) 0 w hw1 hw2
  have p7 := fun w => Lease_any g (-1) w hw1 hw2
  have p8 := fun w => Head_any g slot w hw1 hw2
  rw [hX] at p1
  rw [hY] at p2
  rw [j3] at p3
  rw [j4] at p4
  rw [j5] at p5
  rw [j6] at p6
  rw [j7] at p7
  rw [hH] at p8
  dsimp only [Geo.v] at *
  have P1 := Lib.hid p1; have P2 := Lib.hid p2; have P3 := Lib.hid p3; have P4 := Lib.hid p4; have P5 := Lib.hid p5; have P6 := Lib.hid p6; have P7 := Lib.hid p7; have P8 := Lib.hid p8; have PM := Lib.hid hmy
  have HT := Lib.hid ht
  have W1 := Lib.hid w1; have W2 := Lib.hid w2; have W3 := Lib.hid w3; have W4 := Lib.hid w4; have W5 := Lib.hid w5; have W6 := Lib.hid w6; have HXY := Lib.hid hxy; have HJ0 := Lib.hid hj0
  clear p1 p2 p3 p4 p5 p6 p7 p8 hmy j3 j4 j5 j6 j7 hX hY hH ht w1 w2 w3 w4 w5 w6 hxy hj0 hm
  go_enter Try.func5, Try.ntmps5
  have HG0 := Lib.hid (geoAt_new g w)
  go_wp2_with fail
  refine (PM.out _).mono ?_
  rintro e w1 ⟨rfl, hB1⟩
  have hG := geoAt_keep HG0.out hB1
  have HG := Lib.hid hG
  clear hB1
  go_wp2_with fail
  go_region_held3 (GeoAt g w.heap.size w) (first | exact geoAt_drew HG.out | exact geoAt_keep (by assumption) (by assumption))
    (first
      | (go_at_call 15; (with_reducible refine (P1.out _).mono ?_); rintro e w3 ⟨rfl, hB3⟩)
      | (go_at_call 15; (with_reducible refine (P2.out _).mono ?_); rintro e w3 ⟨rfl, hB3⟩))
  rename_i hH
  have HG2 := Lib.hid hH; clear hH
  go_wp2_with fail
  simp only [List.append_eq, List.cons_append, List.nil_append]
  have ww1 := W1.out; have ww2 := W2.out; have ww3 := W3.out; have ww4 := W4.out; have ww5 := W5.out; have ww6 := W6.out; have hxy := HXY.out; have hj0 := HJ0.out; have ht := HT.out
  go_region_held3 (GeoAt g w.heap.size w) (first | exact geoAt_drew HG2.out | exact geoAt_keep (by assumption) (by assumption))
    (first
      | (go_at_call 15; (with_reducible refine (P3.out _).mono ?_); rintro e w3 ⟨rfl, hB3⟩)
      | (go_at_call 15; (with_reducible refine (P4.out _).mono ?_); rintro e w3 ⟨rfl, hB3⟩)
      | (go_at_call 15; (with_reducible refine (P5.out _).mono ?_); rintro e w3 ⟨rfl, hB3⟩)
      | (go_at_call 17; (with_reducible refine (P6.out _).mono ?_); rintro e w3 ⟨rfl, hB3⟩)
      | (go_at_call 18; (with_reducible refine (P7.out _).mono ?_); rintro e w3 ⟨rfl, hB3⟩)
      | (go_at_call 16; (with_reducible refine (P8.out _).mono ?_); rintro e w3 ⟨rfl, hB3⟩)
      | (go_at_call 7; refine (wakes04 _).mono ?_; rintro e w3 ⟨rfl, hB3⟩))
  rename_i hH
  clear ww1 ww2 ww3 ww4 ww5 ww6 hxy hj0 ht
  have HG3 := Lib.hid hH; clear hH
  go_wp2_with fail
  go_ret
  exact ⟨rfl, HG3.out.2.2.2.2.2.2.2.2.2⟩

theorem walk (a0_0 a0_1 a0_2 a0_3 a0_4 a0_5 a0_6 a0_7 : Int) (w0_0 : (Lit.int .i64 a0_0).wf = true) (w0_1 : (Lit.int .i64 a0_1).wf = true) (w0_2 : (Lit.int .i64 a0_2).wf = true) (w0_3 : (Lit.int .i64 a0_3).wf = true) (w0_4 : (Lit.int .i64 a0_4).wf = true) (w0_5 : (Lit.int .i64 a0_5).wf = true) (w0_6 : (Lit.int .i64 a0_6).wf = true) (w0_7 : (Lit.int .i64 a0_7).wf = true) (a1 : Int) (_w1 : (Lit.int .i64 a1).wf = true) (a2 : Int) (w2 : (Lit.int .i64 a2).wf = true) (a3 : Int) (w3 : (Lit.int .i64 a3).wf = true) (w : World) :
    Calls Try.prog 5 #[.agg #[.int .i64 a0_0, .int .i64 a0_1, .int .i64 a0_2, .int .i64 a0_3, .int .i64 a0_4, .int .i64 a0_5, .int .i64 a0_6, .int .i64 a0_7], .int .i64 a1, .int .i64 a2, .int .i64 a3] w fun e w' => e = .returned (.bool true) ∧ Below w.heap.size w w' := by
  by_cases h : (Geo.mk a0_0 a0_1 a0_2 a0_3 a0_4 a0_5 a0_6 a0_7).may = true ∧ 0 ≤ a1 ∧ a1 < (Geo.mk a0_0 a0_1 a0_2 a0_3 a0_4 a0_5 a0_6 a0_7).slots ∧ 0 ≤ a2 ∧ 0 ≤ a3 ∧ a2 ≤ 1099511627776 ∧ a3 ≤ 1099511627776
  · obtain ⟨h1, h2, h3, h4, h5, h6, h7⟩ := h
    exact late (Geo.mk a0_0 a0_1 a0_2 a0_3 a0_4 a0_5 a0_6 a0_7) a1 a2 a3 w h1 h2 h3 h4 h5 h6 h7 (wf_i64 w0_7).1 (wf_i64 w0_7).2
  · exact early (Geo.mk a0_0 a0_1 a0_2 a0_3 a0_4 a0_5 a0_6 a0_7) a1 a2 a3 w h

theorem own : ownKnob Try.prog.godebug = none := by kernel_rfl
theorem laidOut : laidOutB Try.prog = true := by kernel_rfl
set_option maxRecDepth 100000 in
theorem lifted (os : Os) (started : os.Started) (H : Type) (enc : TypeId × Value → H) :
    ReturnsInHanded {} Try.checked os 5 .any (Rows.geoRoundSpec.pre6 enc Try.prog Try.f5 Rows.geoRoundRow.domain false) (Rows.geoRoundSpec.post enc Try.prog Try.f5 false true false false) := by
  refine returnsInHanded_of_change (C := Try.checked) own started (by kernel_rfl) Try.func5
    (ChangeSpec.witness6 (enc := enc) (C := Try.checked) false ⟨#[], #[.agg #[.int .i64 0, .int .i64 0, .int .i64 0, .int .i64 0, .int .i64 0, .int .i64 0, .int .i64 0, .int .i64 0], .int .i64 0, .int .i64 0, .int .i64 0], []⟩ 8 (by kernel_rfl) (by kernel_rfl) (by kernel_rfl) (by kernel_rfl)) ?_
  intro W base args ds gs before hval0 hW hcnd _
  have hval : ∀ (j : Nat) t v, Try.f5.params[j]? = some t → args[j]? = some v → Value.okWide Try.prog W .any base t v := hval0
  have hW' := hW
  obtain ⟨p, q, hA0, hV, rfl, hfz, hnd⟩ := hW
  have hA : DataW.TrodAll enc Try.prog W 0 (fun _ => true) true Try.f5.params.toList args.toList ds p := hA0
  rw [Try.params5] at hA hval
  obtain ⟨v0, vs0, d0, ds0, p0, q0, hargs, rfl, rfl, h0, r0⟩ := trodAll_cons hA
  obtain ⟨v1, vs1, d1, ds1, p1, q1, rfl, rfl, rfl, h1, r1⟩ := trodAll_cons r0
  obtain ⟨v2, vs2, d2, ds2, p2, q2, rfl, rfl, rfl, h2, r2⟩ := trodAll_cons r1
  obtain ⟨v3, vs3, d3, ds3, p3, q3, rfl, rfl, rfl, h3, r3⟩ := trodAll_cons r2
  obtain ⟨rfl, rfl, rfl⟩ := trodAll_nil r3
  obtain rfl : args = #[v0, v1, v2, v3] := by cases args; simp_all
  obtain ⟨rfl, rfl⟩ := trodVars_none hV
  have k0 := h0
  have lt0 : ∀ x ∈ p0, x.block < W.heap.size := by obtain ⟨m, hm⟩ := k0; exact DataW.trod_lt m _ _ _ hm
  obtain ⟨a0_0, a0_1, a0_2, a0_3, a0_4, a0_5, a0_6, a0_7, rfl, w0_0, w0_1, w0_2, w0_3, w0_4, w0_5, w0_6, w0_7⟩ := open_api_Geo_arg (hval 0 23 v0 rfl rfl) h0
  have k1 := h1
  have lt1 : ∀ x ∈ p1, x.block < W.heap.size := by obtain ⟨m, hm⟩ := k1; exact DataW.trod_lt m _ _ _ hm
  obtain ⟨a1, rfl, -, -, w1⟩ := open_int Try.underlying3 (hval 1 3 v1 rfl rfl) h1
  have k2 := h2
  have lt2 : ∀ x ∈ p2, x.block < W.heap.size := by obtain ⟨m, hm⟩ := k2; exact DataW.trod_lt m _ _ _ hm
  obtain ⟨a2, rfl, -, -, w2⟩ := open_int Try.underlying3 (hval 2 3 v2 rfl rfl) h2
  have k3 := h3
  have lt3 : ∀ x ∈ p3, x.block < W.heap.size := by obtain ⟨m, hm⟩ := k3; exact DataW.trod_lt m _ _ _ hm
  obtain ⟨a3, rfl, -, -, w3⟩ := open_int Try.underlying3 (hval 3 3 v3 rfl rfl) h3
  clear hA0 hval0
  refine (walk a0_0 a0_1 a0_2 a0_3 a0_4 a0_5 a0_6 a0_7 w0_0 w0_1 w0_2 w0_3 w0_4 w0_5 w0_6 w0_7 a1 w1 a2 w2 a3 w3 W).mono fun e W' ⟨he, bel⟩ => ?_
  subst he
  exact ⟨_, rfl, _, _, _, [], _, [], hW', trodAll_mk1 (shut_bool Try.underlying4 _), (trodAll_cons_mk (Below.trod laidOut (by kernel_rfl) (of_decide_eq_true (by kernel_rfl)) k0 bel lt0) (trodAll_cons_mk (Below.trod laidOut (by kernel_rfl) (of_decide_eq_true (by kernel_rfl)) k1 bel lt1) (trodAll_cons_mk (Below.trod laidOut (by kernel_rfl) (of_decide_eq_true (by kernel_rfl)) k2 bel lt2) (trodAll_cons_mk (Below.trod laidOut (by kernel_rfl) (of_decide_eq_true (by kernel_rfl)) k3 bel lt3) trodAll_mk0)))), rfl, bel.frame _, fun h => by cases h⟩

/-- The statement. -/
theorem proved : Rows.GeoRoundSaid :=
  OpenClaim.holds_of_wide 5 Try.f5 rfl rfl rfl rfl rfl rfl rfl ⟨rfl, rfl, rfl, rfl, rfl⟩ rfl rfl rfl rfl rfl (by kernel_rfl) Try.func5 (by kernel_rfl)
    (of_decide_eq_true (by kernel_rfl)) (by unfold Func.isWrapper; first | (rw [if_pos (by decide +kernel)]; kernel_rfl) | (rw [if_neg (by decide +kernel)]; exact ⟨rfl, rfl⟩))
    (fun os started H enc _ => lifted os started H enc)
end Go.Proofs.Ythfnbageimpbiaa.geoRound


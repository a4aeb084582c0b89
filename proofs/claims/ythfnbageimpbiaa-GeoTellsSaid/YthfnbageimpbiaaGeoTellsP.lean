/- The statement GeoTells: whether any geometry may be, how much it has, and where everything stands, as the document's answer says, for any numbers. -/
import Derived.Test.YthfnbageimpbiaaGeoWakes
import Derived.Test.YthfnbageimpbiaaGeoRef
import Derived.Test.YthfnbageimpbiaaFrameGeo
import Derived.Test.YthfnbageimpbiaaRows
import Derived.ProofKit
import Derived.OpenShut
import Derived.Below
namespace Go.Proofs.Ythfnbageimpbiaa.geoTells
open Go.ChangeShapes Go.WideShapes Go.ChangeAt Go.RowKit Go.Joins

set_option maxHeartbeats 8000000 in
set_option maxRecDepth 100000 in
theorem core (g : Geo) (a b : Int) (w : World) (hb : b ≤ 9223372036854775807) (hw1 : -9223372036854775808 ≤ g.wait) (hw2 : g.wait ≤ 9223372036854775807) :
    Calls Try.prog 6 #[g.v, .int .i64 a, .int .i64 b] w fun e w' => e = .returned (.bool true) ∧ Below w.heap.size w w' := by
  have p0 := fun w => May_any g  w  hw1 hw2
  have q0 := fun w => RMay_any g  w
  have p1 := fun w => Total_any g  w  hw1 hw2
  have q1 := fun w => RTotal_any g  w
  have p2 := fun w => Rest_any g  w  hw1 hw2
  have q2 := fun w => RRest_any g  w
  have p3 := fun w => Lease_any g a w  hw1 hw2
  have q3 := fun w => RLease_any g a w
  have p4 := fun w => Paxos_any g a w  hw1 hw2
  have q4 := fun w => RPaxos_any g a w
  have p5 := fun w => Log_any g a w  hw1 hw2
  have q5 := fun w => RLog_any g a w
  have p6 := fun w => Head_any g a w  hw1 hw2
  have q6 := fun w => RHead_any g a w
  have p7 := fun w => Journal_any g a b w (by omega) hw1 hw2
  have q7 := fun w => RJournal_any g a b w
  have p8 := fun w => Data_any g a b w  hw1 hw2
  have q8 := fun w => RData_any g a b w
  generalize g.may = z0 at *
  generalize g.totalS = z1 at *
  generalize g.restS = z2 at *
  generalize g.leaseS a = z3 at *
  generalize g.paxosS a = z4 at *
  generalize g.logS a = z5 at *
  generalize g.headS a = z6 at *
  generalize g.journalS a b = z7 at *
  generalize g.dataS a b = z8 at *
  dsimp only [Geo.v] at *
  have P0 := Lib.hid p0; clear p0
  have Q0 := Lib.hid q0; clear q0
  have P1 := Lib.hid p1; clear p1
  have Q1 := Lib.hid q1; clear q1
  have P2 := Lib.hid p2; clear p2
  have Q2 := Lib.hid q2; clear q2
  have P3 := Lib.hid p3; clear p3
  have Q3 := Lib.hid q3; clear q3
  have P4 := Lib.hid p4; clear p4
  have Q4 := Lib.hid q4; clear q4
  have P5 := Lib.hid p5; clear p5
  have Q5 := Lib.hid q5; clear q5
  have P6 := Lib.hid p6; clear p6
  have Q6 := Lib.hid q6; clear q6
  have P7 := Lib.hid p7; clear p7
  have Q7 := Lib.hid q7; clear q7
  have P8 := Lib.hid p8; clear p8
  have Q8 := Lib.hid q8; clear q8
  go_enter Try.func6, Try.ntmps6
  have HG := Lib.hid (geoAt_new g w)
  go_wp2_with fail
  go_region_held3 (GeoAt g w.heap.size w) (first | exact geoAt_drew HG.out | exact geoAt_keep (by assumption) (by assumption))
    (first
      | (go_at_call 19; refine (P0.out _).mono ?_; rintro e w3 ⟨rfl, hB3⟩)
      | (go_at_call 12; refine (Q0.out _).mono ?_; rintro e w3 ⟨rfl, hB3⟩)
      | (go_at_call 13; refine (P1.out _).mono ?_; rintro e w3 ⟨rfl, hB3⟩)
      | (go_at_call 20; refine (Q1.out _).mono ?_; rintro e w3 ⟨rfl, hB3⟩)
      | (go_at_call 21; refine (P2.out _).mono ?_; rintro e w3 ⟨rfl, hB3⟩)
      | (go_at_call 22; refine (Q2.out _).mono ?_; rintro e w3 ⟨rfl, hB3⟩))
  rename_i hH
  have HG2 := Lib.hid hH; clear hH
  go_wp2_with fail
  go_region_held3 (GeoAt g w.heap.size w) (first | exact geoAt_drew HG2.out | exact geoAt_keep (by assumption) (by assumption))
    (first
      | (go_at_call 18; refine (P3.out _).mono ?_; rintro e w3 ⟨rfl, hB3⟩)
      | (go_at_call 23; refine (Q3.out _).mono ?_; rintro e w3 ⟨rfl, hB3⟩)
      | (go_at_call 24; refine (P4.out _).mono ?_; rintro e w3 ⟨rfl, hB3⟩)
      | (go_at_call 25; refine (Q4.out _).mono ?_; rintro e w3 ⟨rfl, hB3⟩)
      | (go_at_call 26; refine (P5.out _).mono ?_; rintro e w3 ⟨rfl, hB3⟩)
      | (go_at_call 27; refine (Q5.out _).mono ?_; rintro e w3 ⟨rfl, hB3⟩)
      | (go_at_call 16; refine (P6.out _).mono ?_; rintro e w3 ⟨rfl, hB3⟩)
      | (go_at_call 28; refine (Q6.out _).mono ?_; rintro e w3 ⟨rfl, hB3⟩)
      | (go_at_call 15; refine (P7.out _).mono ?_; rintro e w3 ⟨rfl, hB3⟩)
      | (go_at_call 29; refine (Q7.out _).mono ?_; rintro e w3 ⟨rfl, hB3⟩)
      | (go_at_call 17; refine (P8.out _).mono ?_; rintro e w3 ⟨rfl, hB3⟩)
      | (go_at_call 30; refine (Q8.out _).mono ?_; rintro e w3 ⟨rfl, hB3⟩)
      | (go_at_call 7; refine (wakes04 _).mono ?_; rintro e w3 ⟨rfl, hB3⟩))
  rename_i hH
  have HG3 := Lib.hid hH; clear hH
  go_wp2_with fail
  go_ret
  exact ⟨rfl, HG3.out.2.2.2.2.2.2.2.2.2⟩

theorem walk (a0_0 a0_1 a0_2 a0_3 a0_4 a0_5 a0_6 a0_7 : Int) (_w0_0 : (Lit.int .i64 a0_0).wf = true) (_w0_1 : (Lit.int .i64 a0_1).wf = true) (_w0_2 : (Lit.int .i64 a0_2).wf = true) (_w0_3 : (Lit.int .i64 a0_3).wf = true) (_w0_4 : (Lit.int .i64 a0_4).wf = true) (_w0_5 : (Lit.int .i64 a0_5).wf = true) (_w0_6 : (Lit.int .i64 a0_6).wf = true) (w0_7 : (Lit.int .i64 a0_7).wf = true) (a1 : Int) (_w1 : (Lit.int .i64 a1).wf = true) (a2 : Int) (w2 : (Lit.int .i64 a2).wf = true) (w : World) :
    Calls Try.prog 6 #[.agg #[.int .i64 a0_0, .int .i64 a0_1, .int .i64 a0_2, .int .i64 a0_3, .int .i64 a0_4, .int .i64 a0_5, .int .i64 a0_6, .int .i64 a0_7], .int .i64 a1, .int .i64 a2] w fun e w' => e = .returned (.bool true) ∧ Below w.heap.size w w' :=
  core ⟨a0_0, a0_1, a0_2, a0_3, a0_4, a0_5, a0_6, a0_7⟩ a1 a2 w (wf_i64 w2).2 (wf_i64 w0_7).1 (wf_i64 w0_7).2

theorem own : ownKnob Try.prog.godebug = none := by kernel_rfl
theorem laidOut : laidOutB Try.prog = true := by kernel_rfl
set_option maxRecDepth 100000 in
theorem lifted (os : Os) (started : os.Started) (H : Type) (enc : TypeId × Value → H) :
    ReturnsInHanded {} Try.checked os 6 .any (Rows.geoTellsSpec.pre6 enc Try.prog Try.f6 Rows.geoTellsRow.domain false) (Rows.geoTellsSpec.post enc Try.prog Try.f6 false true false false) := by
  refine returnsInHanded_of_change (C := Try.checked) own started (by kernel_rfl) Try.func6
    (ChangeSpec.witness6 (enc := enc) (C := Try.checked) false ⟨#[], #[.agg #[.int .i64 0, .int .i64 0, .int .i64 0, .int .i64 0, .int .i64 0, .int .i64 0, .int .i64 0, .int .i64 0], .int .i64 0, .int .i64 0], []⟩ 8 (by kernel_rfl) (by kernel_rfl) (by kernel_rfl) (by kernel_rfl)) ?_
  intro W base args ds gs before hval0 hW hcnd _
  have hval : ∀ (j : Nat) t v, Try.f6.params[j]? = some t → args[j]? = some v → Value.okWide Try.prog W .any base t v := hval0
  have hW' := hW
  obtain ⟨p, q, hA0, hV, rfl, hfz, hnd⟩ := hW
  have hA : DataW.TrodAll enc Try.prog W 0 (fun _ => true) true Try.f6.params.toList args.toList ds p := hA0
  rw [Try.params6] at hA hval
  obtain ⟨v0, vs0, d0, ds0, p0, q0, hargs, rfl, rfl, h0, r0⟩ := trodAll_cons hA
  obtain ⟨v1, vs1, d1, ds1, p1, q1, rfl, rfl, rfl, h1, r1⟩ := trodAll_cons r0
  obtain ⟨v2, vs2, d2, ds2, p2, q2, rfl, rfl, rfl, h2, r2⟩ := trodAll_cons r1
  obtain ⟨rfl, rfl, rfl⟩ := trodAll_nil r2
  obtain rfl : args = #[v0, v1, v2] := by cases args; simp_all
  obtain ⟨rfl, rfl⟩ := trodVars_none hV
  have k0 := h0
  have lt0 : ∀ x ∈ p0, x.block < W.heap.size := by obtain ⟨m, hm⟩ := k0; exact DataW.trod_lt m _ _ _ hm
  obtain ⟨a0_0, a0_1, a0_2, a0_3, a0_4, a0_5, a0_6, a0_7, rfl, w0_0, w0_1, w0_2, w0_3, w0_4, w0_5, w0_6, w0_7⟩ := open_api_Geo_arg (hval 0 23 v0 rfl rfl) h0
  have k1 := h1
  have lt1 : ∀ x ∈ p1, x.block < W.heap.size := by obtain ⟨m, hm⟩ := k1; exact DataW.trod_lt m _ _ _ hm
  obtain ⟨a1, rfl, -, -, w1⟩ := open_int Try.underlying3 (hval 1 3 v1 rfl rfl) h1
  have k2 := h2
  have lt2 : ∀ x ∈ p2, x.block < W.heap.size := by obtain ⟨m, hm⟩ := k2; exact DataW.trod_lt m _ _ _ hm
  obtain ⟨a2, rfl, -, -, w2⟩ := open_int Try.underlying3 (hval 2 3 v2 rfl rfl) h2
  clear hA0 hval0
  refine (walk a0_0 a0_1 a0_2 a0_3 a0_4 a0_5 a0_6 a0_7 w0_0 w0_1 w0_2 w0_3 w0_4 w0_5 w0_6 w0_7 a1 w1 a2 w2 W).mono fun e W' ⟨he, bel⟩ => ?_
  subst he
  exact ⟨_, rfl, _, _, _, [], _, [], hW', trodAll_mk1 (shut_bool Try.underlying4 _), (trodAll_cons_mk (Below.trod laidOut (by kernel_rfl) (of_decide_eq_true (by kernel_rfl)) k0 bel lt0) (trodAll_cons_mk (Below.trod laidOut (by kernel_rfl) (of_decide_eq_true (by kernel_rfl)) k1 bel lt1) (trodAll_cons_mk (Below.trod laidOut (by kernel_rfl) (of_decide_eq_true (by kernel_rfl)) k2 bel lt2) trodAll_mk0))), rfl, bel.frame _, fun h => by cases h⟩

/-- The statement. -/
theorem proved : Rows.GeoTellsSaid :=
  OpenClaim.holds_of_wide 6 Try.f6 rfl rfl rfl rfl rfl rfl rfl ⟨rfl, rfl, rfl, rfl, rfl⟩ rfl rfl rfl rfl rfl (by kernel_rfl) Try.func6 (by kernel_rfl)
    (of_decide_eq_true (by kernel_rfl)) (by unfold Func.isWrapper; first | (rw [if_pos (by decide +kernel)]; kernel_rfl) | (rw [if_neg (by decide +kernel)]; exact ⟨rfl, rfl⟩))
    (fun os started H enc _ => lifted os started H enc)
end Go.Proofs.Ythfnbageimpbiaa.geoTells


/- RepairAlive: the walk and the frame. -/
import Derived.Test.YtkjihmlighigjaaGreatRepairAliveM55
import Derived.Test.YtkjihmlighigjaaGreatRows
import Derived.Test.YtkjihmlighigjaaGreatRepairAliveM04
set_option linter.unusedSimpArgs false
set_option linter.unusedVariables false
namespace Go.Proofs.YtkjihmlighigjaaGreat
open Go.RowKit
theorem sh_plain {s : Sh} {x : V} (h : HasSh s x) : Plain x := by
  induction h with
  | int k n h => exact .int _ _
  | bool b => exact .bool _
  | str s h => exact .str _
  | sl row es h1 h2 h3 ih =>
    refine .sl _ _ fun r hr x hx => ?_
    obtain ⟨i, hi, rfl⟩ := List.getElem_of_mem hr
    obtain ⟨j, hj, rfl⟩ := List.getElem_of_mem hx
    exact ih i hi j (by rw [← h2 i hi]; exact hj) hj
theorem shs_plain {ss : List Sh} {xs : List V} (h : HasShs ss xs) : Plain (.agg xs) := .agg _ fun x hx => by
  obtain ⟨j, hj, rfl⟩ := List.getElem_of_mem hx
  exact sh_plain (h.2 j (by rw [← h.1]; exact hj) hj)
theorem geo_wait {xs : List V} (h : HasShs shGeo xs) : ∃ g : G_Geo, xs = G_Geo.cs g ∧ i64b g.Wait = true := by
  obtain ⟨x, e, hi⟩ := Geo_of h
  refine ⟨⟨x.nodes, x.slots, x.blocks, x.per, x.journal, x.log, x.lease, x.wait⟩, ?_, ?_⟩
  · injection e
  · show (decide _ && decide _) = true
    rw [decide_eq_true hi.wait.1, decide_eq_true hi.wait.2]; rfl
end Go.Proofs.YtkjihmlighigjaaGreat
namespace Go.Proofs.YtkjihmlighigjaaGreat.repairAlive
open Go.RowKit Go.ChangeShapes Go.WideShapes Go.ChangeAt Go.Joins Go.Deep
theorem walk {w : World} {x0 x1 : List V} (s0 : HasShs shGeo x0) {v0 v1 : Value} (e0 : VR noMu (allS w) w (.agg x0) v0) (s1 : HasShs shNod x1) (e1 : VR noMu (allS w) w (.agg x1) v1) :
    Calls Tryz.prog 3 #[v0, v1] w fun e w' => e = .returned (.bool true) ∧ Below w.heap.size w w' := by
  obtain ⟨g, rfl, hg⟩ := geo_wait s0
  obtain ⟨k1, k2⟩ := node_nd s1
  have hc := (law26_RepairAlive_c 9223372036854775808 (g, G_Node.of x1, ()) true (by
    show ∀ y ∈ [V.agg (G_Geo.cs g), V.agg (G_Node.cs (G_Node.of x1))], Plain y
    rw [k1]
    exact pl_cons (shs_plain s0) (pl_cons (shs_plain s1) pl_nil)) (rAlive k2 hg (by omega))).1
  have hc : Con Tryz.prog 3 [V.agg (G_Geo.cs g), V.agg (G_Node.cs (G_Node.of x1))] (· = .bool true) := hc
  rw [k1] at hc
  refine (hc.2 w (allS w) [v0, v1] (fun g i h => h) ⟨rfl, fun j hj hj' => ?_⟩).mono ?_
  · match j, hj with
    | 0, _ => exact e0
    | 1, _ => exact e1
  · rintro e w' ⟨v, r, S', rfl, rfl, _, hr, _, _, _, hB⟩
    exact ⟨by rw [hr.bool_inv], hB⟩
theorem own : ownKnob Tryz.prog.godebug = none := by kernel_rfl
theorem laidOut : laidOutB Tryz.prog = true := jf1
set_option maxRecDepth 100000 in
theorem lifted (os : Os) (started : os.Started) (H : Type) (enc : TypeId × Value → H) :
    ReturnsInHanded {} Tryz.checked os 3 .any (Rows.repairAliveSpec.pre6 enc Tryz.prog Tryz.f3 Rows.repairAliveRow.domain false) (Rows.repairAliveSpec.post enc Tryz.prog Tryz.f3 false true false false) := by
  refine returnsInHanded_of_change (C := Tryz.checked) own started (by kernel_rfl) Tryz.func3
    (ChangeSpec.witness6 (enc := enc) (C := Tryz.checked) false ⟨#[], #[.agg #[.int .i64 0, .int .i64 0, .int .i64 0, .int .i64 0, .int .i64 0, .int .i64 0, .int .i64 0, .int .i64 0], .agg #[.int .i64 0, .int .i64 0, .bool false, .int .i64 0, .int .i64 0, .int .i64 0, .int .i64 0, .bool false, .int .i64 0, .int .i64 0, .int .i64 0, .slice none 0 0, .slice none 0 0, .slice none 0 0, .int .i64 0, .int .i64 0, .bool false, .slice none 0 0, .slice none 0 0, .slice none 0 0, .slice none 0 0, .bool false, .bool false, .int .i8 0, .int .i64 0, .int .i64 0, .int .i8 0, .int .i64 0, .string ByteArray.empty, .int .i64 0, .int .i64 0, .int .i8 0, .int .i64 0, .string ByteArray.empty, .int .i8 0, .int .i64 0, .int .i64 0, .int .i64 0, .int .i64 0, .string ByteArray.empty, .int .i64 0, .int .i64 0, .int .i64 0, .string ByteArray.empty, .int .i64 0, .bool false, .bool false, .slice none 0 0, .int .i64 0, .slice none 0 0, .int .i64 0, .int .i64 0, .int .i8 0, .int .i64 0, .int .i64 0, .int .i8 0, .int .i64 0, .slice none 0 0, .slice none 0 0, .int .i64 0, .int .i64 0, .int .i64 0, .int .i64 0, .slice none 0 0]], []⟩ 8 (by kernel_rfl) (by kernel_rfl) (by kernel_rfl) (by kernel_rfl)) ?_
  intro W base args ds gs before hval0 hW hcnd _
  have hval : ∀ (j : Nat) t v, Tryz.f3.params[j]? = some t → args[j]? = some v → Value.okWide Tryz.prog W .any base t v := hval0
  have hW' := hW
  obtain ⟨p, q, hA0, hV, rfl, hfz, hnd⟩ := hW
  have hA : DataW.TrodAll enc Tryz.prog W 0 (fun _ => true) true Tryz.f3.params.toList args.toList ds p := hA0
  rw [Tryz.params3] at hA hval
  obtain ⟨v0, vs0, d0, ds0, p0, q0, hargs, rfl, rfl, h0, r0⟩ := trodAll_cons hA
  obtain ⟨v1, vs1, d1, ds1, p1, q1, rfl, rfl, rfl, h1, r1⟩ := trodAll_cons r0
  obtain ⟨rfl, rfl, rfl⟩ := trodAll_nil r1
  obtain rfl : args = #[v0, v1] := by cases args; simp_all
  obtain ⟨rfl, rfl⟩ := trodVars_none hV
  have k0 := h0
  have lt0 : ∀ x ∈ p0, x.block < W.heap.size := by obtain ⟨m, hm⟩ := k0; exact DataW.trod_lt m _ _ _ hm
  obtain ⟨x0, e0, s0⟩ := arg_struct (ss := shGeo) (d := 20) Tryz.underlying23 (by kernel_rfl) (hval 0 23 v0 rfl rfl) h0
  have k1 := h1
  have lt1 : ∀ x ∈ p1, x.block < W.heap.size := by obtain ⟨m, hm⟩ := k1; exact DataW.trod_lt m _ _ _ hm
  obtain ⟨x1, e1, s1⟩ := arg_struct (ss := shNod) (d := 20) Tryz.underlying57 (by kernel_rfl) (hval 1 57 v1 rfl rfl) h1
  clear hA0 hval0
  refine (walk s0 e0 s1 e1).mono fun e W' ⟨he, bel⟩ => ?_
  subst he
  exact ⟨_, rfl, _, _, _, [], _, [], hW', trodAll_mk1 (shut_bool Tryz.underlying4 _), (trodAll_cons_mk (Below.trod laidOut (by kernel_rfl) (of_decide_eq_true (by kernel_rfl)) k0 bel lt0) (trodAll_cons_mk (Below.trod laidOut (by kernel_rfl) (of_decide_eq_true (by kernel_rfl)) k1 bel lt1) trodAll_mk0)), rfl, bel.frame _, fun h => by cases h⟩

theorem named : Tryz.pinned.checked.prog.funcNamed Rows.repairAliveRow.func = some 3 := by kernel_rfl
theorem inst : Tryz.f3.isInstance Tryz.pinned.checked.prog Rows.repairAliveRow.origin Rows.repairAliveRow.targs := of_decide_eq_true (by kernel_rfl)
theorem wrap : Tryz.f3.isWrapper Tryz.pinned.checked.prog Rows.repairAliveRow.wrapper Rows.repairAliveRow.mainSum := by
  unfold Func.isWrapper; first | (rw [if_pos (by decide +kernel)]; kernel_rfl) | (rw [if_neg (by decide +kernel)]; exact ⟨rfl, rfl⟩)
theorem proved : Rows.RepairAliveSaid :=
  OpenClaim.holds_of_wide 3 Tryz.f3 rfl rfl rfl rfl rfl rfl rfl ⟨rfl, rfl, rfl, rfl, rfl⟩ rfl rfl rfl rfl rfl named Tryz.func3 closed
    inst wrap (fun os started H enc _ => lifted os started H enc)
end Go.Proofs.YtkjihmlighigjaaGreat.repairAlive

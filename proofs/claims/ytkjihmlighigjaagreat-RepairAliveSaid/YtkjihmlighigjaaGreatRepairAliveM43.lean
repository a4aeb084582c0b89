/- slices.Clone: a new row. -/
import Derived.Test.YtkjihmlighigjaaGreatRepairAliveM39
import Derived.Test.YtkjihmlighigjaaGreatRepairAliveM30
import Derived.Test.YtkjihmlighigjaaGreatRepairAliveM29
set_option linter.unusedSimpArgs false
set_option linter.unusedVariables false
namespace Go.Proofs.YtkjihmlighigjaaGreat
open Go.RowKit

attribute [go_sem] nilB
theorem ncon_of_awp {P : Program} {g : FuncId} {fn : Func} {c : Code} {args : List V} {es : List (List V)} {sz : Nat} (hf : P.funcs[g]? = some fn) (hb : fn.body = some c) (hm : P.follows .mixedOrders = true) (hn : (fn.name == "runtime.NumGoroutine") = false) (hl : Nat.ble args.length fn.ntmps = true) (ho : okC fn.ntmps c = true) {l : List ResultVar} (hr : fn.results = l.toArray)
    (hrow : (es.all fun r => Nat.beq r.length sz) = true) (hpl : ∀ r ∈ es, ∀ x ∈ r, Plain x) (h : awp P c (NEnd P l es sz) (frOf args) ⟨fun _ => none, 0⟩) : NCon P g args es sz :=
  ncon_of_aw0 hf hb hn (Nat.le_of_ble_eq_true hl) (fun i hi => Nat.eq_of_beq_eq_true (List.all_eq_true.1 hrow _ (List.getElem_mem hi))) hpl (by rw [hr]; exact (awp_sound hm c _ _ _ ho h).aw0)
theorem nEnd_v {P : Program} {l : List ResultVar} {es : List (List V)} {sz : Nat} {fr : Fr} {st : St} {e : AEx} (he : e = .ret ∨ e = .normal) (h : bindV (rvv P fr st l) fun r0 => (∃ b cap k, r0 = .bs b 0 es.length cap ∧ st.get b = some k ∧ k.es = es ∧ k.lk = 0 ∧ k.sz = sz) ∨ (es = [] ∧ r0 = .sl [] true)) : NEnd P l es sz e fr st := by
  obtain ⟨r0, h1, h2⟩ := bindV_some h
  rw [rvv_eq] at h1
  refine ⟨he, ?_⟩
  rcases h2 with ⟨b, cap, k, rfl, h2⟩ | ⟨h2, rfl⟩
  · exact .inl ⟨b, cap, k, h1, h2⟩
  · exact .inr ⟨h2, h1⟩
def clR (sz : Nat) (es : List (List V)) : Option (List (List V)) := bif (es.all fun r => Nat.beq r.length sz) && (Nat.ble es.length 1000000 && rowsNm es) then some es else none
theorem clR_ctr {P : Program} {i : FuncId} {sz : Nat} (h : ∀ (es : List (List V)) (fl : Bool), (es.all fun r => Nat.beq r.length sz) = true → es.length ≤ 1000000 → (∀ r ∈ es, ∀ x ∈ r, Plain x) → NCon P i [.sl es fl] es sz) :
    CtrN P i sz (caC cdR caN) (fun a => clR sz a.1) := by
  rintro ⟨es, _⟩ r hp q
  obtain ⟨q1, q2⟩ := bif_some q
  rw [Bool.and_eq_true, Bool.and_eq_true] at q1
  injection q2 with q2
  subst q2
  refine h es false q1.1 (Nat.le_of_ble_eq_true q1.2.1) fun r hr x hx => ?_
  have := hp (.sl es false) (by simp [caC, cdR, cdK])
  cases this with
  | sl _ _ hh => exact hh r hr x hx
set_option maxRecDepth 100000 in
set_option maxHeartbeats 4000000 in
theorem clSlot_nc (es : List (List V)) (fl : Bool) (hrow : (es.all fun r => Nat.beq r.length 2) = true) (hl : es.length ≤ 1000000) (hpl : ∀ r ∈ es, ∀ x ∈ r, Plain x) : NCon Tryz.prog 268 [.sl es fl] es 2 := by
  refine ncon_of_awp Tryz.func268 rfl mixed (by decide) rfl (by kernel_rfl) rfl hrow hpl ?_
  by_cases h0 : es.length = 0
  · obtain rfl := List.eq_nil_of_length_eq_zero h0
    (repeat' (first | with_reducible (first | refine agr_d (fun hc => ?_) fun hc => ?_ | refine agr_n (fun hc => ?_) fun hc => ?_ | refine acd_d (fun hc => ?_) fun hc => ?_ | refine acd_n (fun hc => ?_) fun hc => ?_ | refine dgr_d (fun hc => ?_) fun hc => ?_ | refine dgr_n (fun hc => ?_) fun hc => ?_ | refine dl_sound _ _ [] [] [] _ _ (fun _ h => absurd h List.not_mem_nil) ?_ | refine And.intro ?_ ?_) | simp (disch := omega) only [go_sem, Nat.reduceAdd, Nat.reduceSub, Nat.reduceMul, Nat.reduceLeDiff, Nat.reduceLT, Nat.reduceEqDiff, Int.reduceLT, Int.reduceLE, Int.reduceToNat, Int.reduceAdd, Int.reduceSub, Int.reduceMul, Int.reduceEq, Int.reduceNeg, reduceCtorEq, true_and, and_true, Int.toNat_natCast, List.getElem?_map, Option.map_some, List.length_map, List.length_take, List.length_drop, List.length_append, Nat.sub_zero, Int.toNat_zero, List.length_replicate, Bool.true_or, Bool.or_true, Bool.false_or, Bool.or_false, false_implies, implies_true]))
    · refine nEnd_v (.inl rfl) ?_
      simp (disch := omega) only [go_sem, Nat.reduceAdd, Nat.reduceSub, Nat.reduceMul, Nat.reduceLeDiff, Nat.reduceLT, Nat.reduceEqDiff, Int.reduceLT, Int.reduceLE, Int.reduceToNat, Int.reduceAdd, Int.reduceSub, Int.reduceMul, Int.reduceEq, Int.reduceNeg, reduceCtorEq, true_and, and_true, Int.toNat_natCast, List.getElem?_map, Option.map_some, List.length_map, List.length_take, List.length_drop, List.length_append, Nat.sub_zero, Int.toNat_zero, List.length_replicate, Bool.true_or, Bool.or_true, Bool.false_or, Bool.or_false, false_implies, implies_true]
      exact .inr trivial
    · refine nEnd_v (.inl rfl) ?_
      simp (disch := omega) only [go_sem, Nat.reduceAdd, Nat.reduceSub, Nat.reduceMul, Nat.reduceLeDiff, Nat.reduceLT, Nat.reduceEqDiff, Int.reduceLT, Int.reduceLE, Int.reduceToNat, Int.reduceAdd, Int.reduceSub, Int.reduceMul, Int.reduceEq, Int.reduceNeg, reduceCtorEq, true_and, and_true, Int.toNat_natCast, List.getElem?_map, Option.map_some, List.length_map, List.length_take, List.length_drop, List.length_append, Nat.sub_zero, Int.toNat_zero, List.length_replicate, Bool.true_or, Bool.or_true, Bool.false_or, Bool.or_false, false_implies, implies_true]
      exact .inl ⟨1, 0, ⟨[], 2, 0⟩, rfl, by simp, rfl, rfl, rfl⟩
  · have h1 : Nat.beq es.length 0 = false := by cases h : Nat.beq es.length 0 with | true => exact absurd (Nat.eq_of_beq_eq_true h) h0 | false => rfl
    have hrow2 : (es.all fun r => decide (r.length = 2)) = true := List.all_eq_true.2 fun r hr => decide_eq_true (Nat.eq_of_beq_eq_true (List.all_eq_true.1 hrow r hr))
    (repeat' (first | with_reducible (first | refine agr_d (fun hc => ?_) fun hc => ?_ | refine agr_n (fun hc => ?_) fun hc => ?_ | refine acd_d (fun hc => ?_) fun hc => ?_ | refine acd_n (fun hc => ?_) fun hc => ?_ | refine dgr_d (fun hc => ?_) fun hc => ?_ | refine dgr_n (fun hc => ?_) fun hc => ?_ | refine dl_sound _ _ [] [] [] _ _ (fun _ h => absurd h List.not_mem_nil) ?_) | simp (disch := omega) only [go_sem, h1, h0, hrow2, Nat.reduceAdd, Nat.reduceSub, Nat.reduceMul, Nat.reduceLeDiff, Nat.reduceLT, Nat.reduceEqDiff, Int.reduceLT, Int.reduceLE, Int.reduceToNat, Int.reduceAdd, Int.reduceSub, Int.reduceMul, Int.reduceEq, Int.reduceNeg, reduceCtorEq, true_and, and_true, Int.toNat_natCast, List.getElem?_map, Option.map_some, List.length_map, List.length_take, List.length_drop, List.length_append, Nat.sub_zero, Int.toNat_zero, List.length_replicate, Bool.true_or, Bool.or_true, Bool.false_or, Bool.or_false, false_implies, implies_true]))
    refine nEnd_v (.inl rfl) ?_
    simp (disch := omega) only [go_sem, Nat.reduceAdd, Nat.reduceSub, Nat.reduceMul, Nat.reduceLeDiff, Nat.reduceLT, Nat.reduceEqDiff, Int.reduceLT, Int.reduceLE, Int.reduceToNat, Int.reduceAdd, Int.reduceSub, Int.reduceMul, Int.reduceEq, Int.reduceNeg, reduceCtorEq, true_and, and_true, Int.toNat_natCast, List.getElem?_map, Option.map_some, List.length_map, List.length_take, List.length_drop, List.length_append, Nat.sub_zero, Int.toNat_zero, List.length_replicate, Bool.true_or, Bool.or_true, Bool.false_or, Bool.or_false, false_implies, implies_true]
    exact .inl ⟨1, es.length, ⟨es, 2, 0⟩, rfl, by simp, rfl, rfl, rfl⟩
def slices_Clone_Slot (L : Nat) (x0 : List (List V)) : Option (List (List V)) := clR 2 x0
theorem slices_Clone_Slot_c (L : Nat) : CtrN Tryz.prog 268 2 (caC cdR caN) (fun a => slices_Clone_Slot L a.1) := clR_ctr clSlot_nc
set_option maxRecDepth 100000 in
set_option maxHeartbeats 4000000 in
theorem clHold_nc (es : List (List V)) (fl : Bool) (hrow : (es.all fun r => Nat.beq r.length 4) = true) (hl : es.length ≤ 1000000) (hpl : ∀ r ∈ es, ∀ x ∈ r, Plain x) : NCon Tryz.prog 269 [.sl es fl] es 4 := by
  refine ncon_of_awp Tryz.func269 rfl mixed (by decide) rfl (by kernel_rfl) rfl hrow hpl ?_
  by_cases h0 : es.length = 0
  · obtain rfl := List.eq_nil_of_length_eq_zero h0
    (repeat' (first | with_reducible (first | refine agr_d (fun hc => ?_) fun hc => ?_ | refine agr_n (fun hc => ?_) fun hc => ?_ | refine acd_d (fun hc => ?_) fun hc => ?_ | refine acd_n (fun hc => ?_) fun hc => ?_ | refine dgr_d (fun hc => ?_) fun hc => ?_ | refine dgr_n (fun hc => ?_) fun hc => ?_ | refine dl_sound _ _ [] [] [] _ _ (fun _ h => absurd h List.not_mem_nil) ?_ | refine And.intro ?_ ?_) | simp (disch := omega) only [go_sem, Nat.reduceAdd, Nat.reduceSub, Nat.reduceMul, Nat.reduceLeDiff, Nat.reduceLT, Nat.reduceEqDiff, Int.reduceLT, Int.reduceLE, Int.reduceToNat, Int.reduceAdd, Int.reduceSub, Int.reduceMul, Int.reduceEq, Int.reduceNeg, reduceCtorEq, true_and, and_true, Int.toNat_natCast, List.getElem?_map, Option.map_some, List.length_map, List.length_take, List.length_drop, List.length_append, Nat.sub_zero, Int.toNat_zero, List.length_replicate, Bool.true_or, Bool.or_true, Bool.false_or, Bool.or_false, false_implies, implies_true]))
    · refine nEnd_v (.inl rfl) ?_
      simp (disch := omega) only [go_sem, Nat.reduceAdd, Nat.reduceSub, Nat.reduceMul, Nat.reduceLeDiff, Nat.reduceLT, Nat.reduceEqDiff, Int.reduceLT, Int.reduceLE, Int.reduceToNat, Int.reduceAdd, Int.reduceSub, Int.reduceMul, Int.reduceEq, Int.reduceNeg, reduceCtorEq, true_and, and_true, Int.toNat_natCast, List.getElem?_map, Option.map_some, List.length_map, List.length_take, List.length_drop, List.length_append, Nat.sub_zero, Int.toNat_zero, List.length_replicate, Bool.true_or, Bool.or_true, Bool.false_or, Bool.or_false, false_implies, implies_true]
      exact .inr trivial
    · refine nEnd_v (.inl rfl) ?_
      simp (disch := omega) only [go_sem, Nat.reduceAdd, Nat.reduceSub, Nat.reduceMul, Nat.reduceLeDiff, Nat.reduceLT, Nat.reduceEqDiff, Int.reduceLT, Int.reduceLE, Int.reduceToNat, Int.reduceAdd, Int.reduceSub, Int.reduceMul, Int.reduceEq, Int.reduceNeg, reduceCtorEq, true_and, and_true, Int.toNat_natCast, List.getElem?_map, Option.map_some, List.length_map, List.length_take, List.length_drop, List.length_append, Nat.sub_zero, Int.toNat_zero, List.length_replicate, Bool.true_or, Bool.or_true, Bool.false_or, Bool.or_false, false_implies, implies_true]
      exact .inl ⟨1, 0, ⟨[], 4, 0⟩, rfl, by simp, rfl, rfl, rfl⟩
  · have h1 : Nat.beq es.length 0 = false := by cases h : Nat.beq es.length 0 with | true => exact absurd (Nat.eq_of_beq_eq_true h) h0 | false => rfl
    have hrow2 : (es.all fun r => decide (r.length = 4)) = true := List.all_eq_true.2 fun r hr => decide_eq_true (Nat.eq_of_beq_eq_true (List.all_eq_true.1 hrow r hr))
    (repeat' (first | with_reducible (first | refine agr_d (fun hc => ?_) fun hc => ?_ | refine agr_n (fun hc => ?_) fun hc => ?_ | refine acd_d (fun hc => ?_) fun hc => ?_ | refine acd_n (fun hc => ?_) fun hc => ?_ | refine dgr_d (fun hc => ?_) fun hc => ?_ | refine dgr_n (fun hc => ?_) fun hc => ?_ | refine dl_sound _ _ [] [] [] _ _ (fun _ h => absurd h List.not_mem_nil) ?_) | simp (disch := omega) only [go_sem, h1, h0, hrow2, Nat.reduceAdd, Nat.reduceSub, Nat.reduceMul, Nat.reduceLeDiff, Nat.reduceLT, Nat.reduceEqDiff, Int.reduceLT, Int.reduceLE, Int.reduceToNat, Int.reduceAdd, Int.reduceSub, Int.reduceMul, Int.reduceEq, Int.reduceNeg, reduceCtorEq, true_and, and_true, Int.toNat_natCast, List.getElem?_map, Option.map_some, List.length_map, List.length_take, List.length_drop, List.length_append, Nat.sub_zero, Int.toNat_zero, List.length_replicate, Bool.true_or, Bool.or_true, Bool.false_or, Bool.or_false, false_implies, implies_true]))
    refine nEnd_v (.inl rfl) ?_
    simp (disch := omega) only [go_sem, Nat.reduceAdd, Nat.reduceSub, Nat.reduceMul, Nat.reduceLeDiff, Nat.reduceLT, Nat.reduceEqDiff, Int.reduceLT, Int.reduceLE, Int.reduceToNat, Int.reduceAdd, Int.reduceSub, Int.reduceMul, Int.reduceEq, Int.reduceNeg, reduceCtorEq, true_and, and_true, Int.toNat_natCast, List.getElem?_map, Option.map_some, List.length_map, List.length_take, List.length_drop, List.length_append, Nat.sub_zero, Int.toNat_zero, List.length_replicate, Bool.true_or, Bool.or_true, Bool.false_or, Bool.or_false, false_implies, implies_true]
    exact .inl ⟨1, es.length, ⟨es, 4, 0⟩, rfl, by simp, rfl, rfl, rfl⟩
def slices_Clone_Hold (L : Nat) (x0 : List (List V)) : Option (List (List V)) := clR 4 x0
theorem slices_Clone_Hold_c (L : Nat) : CtrN Tryz.prog 269 4 (caC cdR caN) (fun a => slices_Clone_Hold L a.1) := clR_ctr clHold_nc
end Go.Proofs.YtkjihmlighigjaaGreat

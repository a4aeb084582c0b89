/- device: why an act is not done, by the calculus. -/
import Derived.Test.YtllijcnbjbfabaaDevM29
import Derived.Test.YtllijcnbjbfabaaDevM27
import Derived.Test.YtllijcnbjbfabaaDevM01
namespace Go.Proofs.Ytllijcnbjbfabaa
open Go.RowKit
set_option linter.unusedSimpArgs false
set_option linter.unusedVariables false

theorem refuseR_a {d : Dev} {node : Int} {a : Ac} (h : refA d node a) : refuseR d node a = 2 := if_pos h
theorem refuseR_b {d : Dev} {node : Int} {a : Ac} (h1 : ¬ refA d node a) (h : refB d a) : refuseR d node a = 2 := (if_neg h1).trans (if_pos h)
theorem refuseR_c {d : Dev} {node : Int} {a : Ac} (h1 : ¬ refA d node a) (h2 : ¬ refB d a) (h : refC d node a) : refuseR d node a = 61 := (if_neg h1).trans ((if_neg h2).trans (if_pos h))
theorem refuseR_d {d : Dev} {node : Int} {a : Ac} (h1 : ¬ refA d node a) (h2 : ¬ refB d a) (h3 : ¬ refC d node a) (h : refD d a) : refuseR d node a = 60 := (if_neg h1).trans ((if_neg h2).trans ((if_neg h3).trans (if_pos h)))
theorem refuseR_0 {d : Dev} {node : Int} {a : Ac} (h1 : ¬ refA d node a) (h2 : ¬ refB d a) (h3 : ¬ refC d node a) (h4 : ¬ refD d a) : refuseR d node a = 0 := (if_neg h1).trans ((if_neg h2).trans ((if_neg h3).trans (if_neg h4)))
section
variable {P : Program} {ops : Array Oper} {h : FuncId} {d : Option Tmp} {l : List Oper} {fr : Fr} {st : St} {r : V} {b n cap sz lk : Nat} {es : List (List V)}
theorem ac1_sc0 {K : Fr → St → Prop} (hg : st.get b = some ⟨es, sz, lk⟩) (hn : n = es.length) (hp : Plain (.sl es false)) (hc : Con P h [.sl es false] (· = r)) (hs : Sc r) (hk : aops P ops l (fr.put d r) st K) : ac1 P ops h [.bs b 0 n cap] d l fr st K := by
  subst hn
  exact ac1_sc (fun _ => es.length) (fzs_one (Fz.rows hg (Nat.le_refl _) hp)) hc hs hk
end
set_option maxRecDepth 100000 in
set_option maxHeartbeats 16000000 in
theorem refuses_con (d : Dev) (hd : DevOk d) (node : Int) (a : Ac) (ha : AcOk a) : Con Try.prog 55 [devT d, .int .i64 node, acV a] (· = .int .i64 (refuseR d node a)) := by
  refine con_of_awp Try.func55 rfl mixed (by decide) rfl (by kernel_rfl) rfl ?_
  have hm : PCon Try.prog 54 [devT d] (.bool (checkB d)) := ⟨wmay_con d hd, by (simp only [List.nil_append, List.cons_append, List.append_nil, List.forall_mem_cons, List.not_mem_nil, false_implies, implies_true, and_true, true_and, plain_agg, plain_tp, plain_fn, plain_tup, plain_int, plain_bool, plain_str, plain_nilp, plain_nilfn, plain_undef, plain_dev, plain_pr, plain_tx, plain_in, plain_cc])⟩
  have hnd : PCon Try.prog 79 [devT d, .int .i64 node] (.bool (decide (0 ≤ node) && decide (node < (d.keys.length : Int)))) := ⟨wnode_con d node, by (simp only [List.nil_append, List.cons_append, List.append_nil, List.forall_mem_cons, List.not_mem_nil, false_implies, implies_true, and_true, true_and, plain_agg, plain_tp, plain_fn, plain_tup, plain_int, plain_bool, plain_str, plain_nilp, plain_nilfn, plain_undef, plain_dev, plain_pr, plain_tx, plain_in, plain_cc])⟩
  have hsz : Plain (.sl [[.str a.b]] false) := (plain_tx [a.b] false).2 trivial
  have hsh : Con Try.prog 81 [.sl [[.str a.b]] false] (· = .bool (!decide ((512 : Int) < (a.b.size : Int)))) := by
    have := short_con [a.b] false (by simp)
    rw [show shortB [a.b] = !decide ((512 : Int) < (a.b.size : Int)) by simp [shortB]] at this
    exact this
  have hgv : PCon Try.prog 83 [devT d, .int .i64 a.key] (.bool (givenB d a.key)) := ⟨wgiven_con d _ ha.key.2, by (simp only [List.nil_append, List.cons_append, List.append_nil, List.forall_mem_cons, List.not_mem_nil, false_implies, implies_true, and_true, true_and, plain_agg, plain_tp, plain_fn, plain_tup, plain_int, plain_bool, plain_str, plain_nilp, plain_nilfn, plain_undef, plain_dev, plain_pr, plain_tx, plain_in, plain_cc])⟩
  by_cases hA : refA d node a
  · rw [refuseR_a hA]
    cases hb : checkB d with
    | false =>
      rw [hb] at hm
      (repeat' (first | with_reducible (first | refine agr_d (fun hc => ?_) fun hc => ?_ | refine agr_n (fun hc => ?_) fun hc => ?_ | refine acd_d (fun hc => ?_) fun hc => ?_ | refine acd_n (fun hc => ?_) fun hc => ?_ | refine dgr_d (fun hc => ?_) fun hc => ?_ | refine dgr_n (fun hc => ?_) fun hc => ?_ | refine dl_sound _ _ [] [] [] _ _ (fun _ h => absurd h List.not_mem_nil) ?_ | refine conEnd_p (.inl rfl) ?_ | refine conEnd_p (.inr rfl) ?_ | refine dc1_p hm ?_ | refine ac1_p hm ?_) | simp (disch := omega) only [go_sem, devT, Nat.reduceAdd, Nat.reduceSub, Nat.reduceMul, Nat.reduceLeDiff, Nat.reduceLT, Nat.reduceEqDiff, Int.reduceLT, Int.reduceLE, Int.reduceToNat, Int.reduceAdd, Int.reduceSub, Int.reduceMul, Int.reduceEq, Int.reduceNeg, reduceCtorEq, true_and, and_true, Int.toNat_natCast, List.getElem?_map, Option.map_some, List.length_map, List.length_take, List.length_drop, List.length_append, Nat.sub_zero, Int.toNat_zero, List.length_replicate, Bool.true_or, Bool.or_true, Bool.false_or, Bool.or_false, false_implies, implies_true]))
    | true =>
      rw [hb] at hm
      have h' : node < 0 ∨ (d.keys.length : Int) ≤ node ∨ a.k < 1 ∨ 6 < a.k := by
        rcases hA with h | h
        · rw [hb] at h; cases h
        · exact h
      by_cases g1 : node < 0
      · rw [show decide (0 ≤ node) = false from decide_eq_false (by omega)] at hnd
        (repeat' (first | with_reducible (first | refine agr_d (fun hc => ?_) fun hc => ?_ | refine agr_n (fun hc => ?_) fun hc => ?_ | refine acd_d (fun hc => ?_) fun hc => ?_ | refine acd_n (fun hc => ?_) fun hc => ?_ | refine dgr_d (fun hc => ?_) fun hc => ?_ | refine dgr_n (fun hc => ?_) fun hc => ?_ | refine dl_sound _ _ [] [] [] _ _ (fun _ h => absurd h List.not_mem_nil) ?_ | refine conEnd_p (.inl rfl) ?_ | refine conEnd_p (.inr rfl) ?_ | refine dc1_p hm ?_ | refine ac1_p hm ?_ | refine dc1_p hnd ?_ | refine ac1_p hnd ?_) | simp (disch := omega) only [go_sem, devT, Nat.reduceAdd, Nat.reduceSub, Nat.reduceMul, Nat.reduceLeDiff, Nat.reduceLT, Nat.reduceEqDiff, Int.reduceLT, Int.reduceLE, Int.reduceToNat, Int.reduceAdd, Int.reduceSub, Int.reduceMul, Int.reduceEq, Int.reduceNeg, reduceCtorEq, true_and, and_true, Int.toNat_natCast, List.getElem?_map, Option.map_some, List.length_map, List.length_take, List.length_drop, List.length_append, Nat.sub_zero, Int.toNat_zero, List.length_replicate, Bool.true_or, Bool.or_true, Bool.false_or, Bool.or_false, false_implies, implies_true]))
      by_cases g2 : (d.keys.length : Int) ≤ node
      · rw [show decide (node < (d.keys.length : Int)) = false from decide_eq_false (by omega), Bool.and_false] at hnd
        (repeat' (first | with_reducible (first | refine agr_d (fun hc => ?_) fun hc => ?_ | refine agr_n (fun hc => ?_) fun hc => ?_ | refine acd_d (fun hc => ?_) fun hc => ?_ | refine acd_n (fun hc => ?_) fun hc => ?_ | refine dgr_d (fun hc => ?_) fun hc => ?_ | refine dgr_n (fun hc => ?_) fun hc => ?_ | refine dl_sound _ _ [] [] [] _ _ (fun _ h => absurd h List.not_mem_nil) ?_ | refine conEnd_p (.inl rfl) ?_ | refine conEnd_p (.inr rfl) ?_ | refine dc1_p hm ?_ | refine ac1_p hm ?_ | refine dc1_p hnd ?_ | refine ac1_p hnd ?_) | simp (disch := omega) only [go_sem, devT, Nat.reduceAdd, Nat.reduceSub, Nat.reduceMul, Nat.reduceLeDiff, Nat.reduceLT, Nat.reduceEqDiff, Int.reduceLT, Int.reduceLE, Int.reduceToNat, Int.reduceAdd, Int.reduceSub, Int.reduceMul, Int.reduceEq, Int.reduceNeg, reduceCtorEq, true_and, and_true, Int.toNat_natCast, List.getElem?_map, Option.map_some, List.length_map, List.length_take, List.length_drop, List.length_append, Nat.sub_zero, Int.toNat_zero, List.length_replicate, Bool.true_or, Bool.or_true, Bool.false_or, Bool.or_false, false_implies, implies_true]))
      rw [show decide (0 ≤ node) = true from decide_eq_true (by omega), show decide (node < (d.keys.length : Int)) = true from decide_eq_true (by omega), Bool.and_true] at hnd
      by_cases g3 : a.k < 1
      · (repeat' (first | with_reducible (first | refine agr_d (fun hc => ?_) fun hc => ?_ | refine agr_n (fun hc => ?_) fun hc => ?_ | refine acd_d (fun hc => ?_) fun hc => ?_ | refine acd_n (fun hc => ?_) fun hc => ?_ | refine dgr_d (fun hc => ?_) fun hc => ?_ | refine dgr_n (fun hc => ?_) fun hc => ?_ | refine dl_sound _ _ [] [] [] _ _ (fun _ h => absurd h List.not_mem_nil) ?_ | refine conEnd_p (.inl rfl) ?_ | refine conEnd_p (.inr rfl) ?_ | refine dc1_p hm ?_ | refine ac1_p hm ?_ | refine dc1_p hnd ?_ | refine ac1_p hnd ?_) | simp (disch := omega) only [go_sem, devT, Nat.reduceAdd, Nat.reduceSub, Nat.reduceMul, Nat.reduceLeDiff, Nat.reduceLT, Nat.reduceEqDiff, Int.reduceLT, Int.reduceLE, Int.reduceToNat, Int.reduceAdd, Int.reduceSub, Int.reduceMul, Int.reduceEq, Int.reduceNeg, reduceCtorEq, true_and, and_true, Int.toNat_natCast, List.getElem?_map, Option.map_some, List.length_map, List.length_take, List.length_drop, List.length_append, Nat.sub_zero, Int.toNat_zero, List.length_replicate, Bool.true_or, Bool.or_true, Bool.false_or, Bool.or_false, false_implies, implies_true]))
      by_cases g4 : 6 < a.k
      · (repeat' (first | with_reducible (first | refine agr_d (fun hc => ?_) fun hc => ?_ | refine agr_n (fun hc => ?_) fun hc => ?_ | refine acd_d (fun hc => ?_) fun hc => ?_ | refine acd_n (fun hc => ?_) fun hc => ?_ | refine dgr_d (fun hc => ?_) fun hc => ?_ | refine dgr_n (fun hc => ?_) fun hc => ?_ | refine dl_sound _ _ [] [] [] _ _ (fun _ h => absurd h List.not_mem_nil) ?_ | refine conEnd_p (.inl rfl) ?_ | refine conEnd_p (.inr rfl) ?_ | refine dc1_p hm ?_ | refine ac1_p hm ?_ | refine dc1_p hnd ?_ | refine ac1_p hnd ?_) | simp (disch := omega) only [go_sem, devT, Nat.reduceAdd, Nat.reduceSub, Nat.reduceMul, Nat.reduceLeDiff, Nat.reduceLT, Nat.reduceEqDiff, Int.reduceLT, Int.reduceLE, Int.reduceToNat, Int.reduceAdd, Int.reduceSub, Int.reduceMul, Int.reduceEq, Int.reduceNeg, reduceCtorEq, true_and, and_true, Int.toNat_natCast, List.getElem?_map, Option.map_some, List.length_map, List.length_take, List.length_drop, List.length_append, Nat.sub_zero, Int.toNat_zero, List.length_replicate, Bool.true_or, Bool.or_true, Bool.false_or, Bool.or_false, false_implies, implies_true]))
      exact absurd h' (by omega)
  have hb : checkB d = true := by
    cases hb : checkB d with
    | false => exact absurd (.inl hb) hA
    | true => rfl
  have g1 : ¬ node < 0 := fun h => hA (.inr (.inl h))
  have g2 : ¬ (d.keys.length : Int) ≤ node := fun h => hA (.inr (.inr (.inl h)))
  have g3 : ¬ a.k < 1 := fun h => hA (.inr (.inr (.inr (.inl h))))
  have g4 : ¬ 6 < a.k := fun h => hA (.inr (.inr (.inr (.inr h))))
  rw [hb] at hm
  rw [show decide (0 ≤ node) = true from decide_eq_true (by omega), show decide (node < (d.keys.length : Int)) = true from decide_eq_true (by omega), Bool.and_true] at hnd
  obtain ⟨nd, rfl⟩ : ∃ n : Nat, node = n := ⟨node.toNat, by omega⟩
  have hn : nd < d.keys.length := by omega
  have hkg : d.keys[nd]? = some d.keys[nd] := List.getElem?_eq_getElem hn
  have hkd : d.keys.getD nd 0 = d.keys[nd] := by rw [List.getD_eq_getElem?_getD, hkg]; rfl
  have hCd : refC d nd a ↔ (a.k ≠ 6 ∧ fencedB d [d.keys[nd]] = true) := by
    unfold refC
    rw [Int.toNat_natCast, hkd]
  have hfc : PCon Try.prog 80 [devT d, .int .i64 nd] (.bool (fencedB d [d.keys[nd]])) := ⟨wfenced_con d nd hn (by have := hd.f; omega) (by have := hd.k; omega), by (simp only [List.nil_append, List.cons_append, List.append_nil, List.forall_mem_cons, List.not_mem_nil, false_implies, implies_true, and_true, true_and, plain_agg, plain_tp, plain_fn, plain_tup, plain_int, plain_bool, plain_str, plain_nilp, plain_nilfn, plain_undef, plain_dev, plain_pr, plain_tx, plain_in, plain_cc])⟩
  have h5 : a.k = 1 ∨ a.k = 2 ∨ a.k = 3 ∨ a.k = 4 ∨ a.k = 5 ∨ a.k = 6 := by omega
  by_cases hB : refB d a
  · rw [refuseR_b hA hB]
    rcases hB with ⟨hk, h⟩ | ⟨hk, h⟩ | ⟨hk, h⟩
    · have h512 : (512 : Int) < (a.b.size : Int) := by omega
      rcases hk with hk | hk <;> (repeat' (first | with_reducible (first | refine agr_d (fun hc => ?_) fun hc => ?_ | refine agr_n (fun hc => ?_) fun hc => ?_ | refine acd_d (fun hc => ?_) fun hc => ?_ | refine acd_n (fun hc => ?_) fun hc => ?_ | refine dgr_d (fun hc => ?_) fun hc => ?_ | refine dgr_n (fun hc => ?_) fun hc => ?_ | refine dl_sound _ _ [] [] [] _ _ (fun _ h => absurd h List.not_mem_nil) ?_ | refine conEnd_p (.inl rfl) ?_ | refine conEnd_p (.inr rfl) ?_ | refine dc1_p hm ?_ | refine ac1_p hm ?_ | refine dc1_p hnd ?_ | refine ac1_p hnd ?_ | refine ac1_sc0 (sz := 1) (lk := 0) ?_ ?_ hsz hsh (.bool _) ?_) | simp (disch := omega) only [go_sem, devT, hk, h512, Nat.reduceAdd, Nat.reduceSub, Nat.reduceMul, Nat.reduceLeDiff, Nat.reduceLT, Nat.reduceEqDiff, Int.reduceLT, Int.reduceLE, Int.reduceToNat, Int.reduceAdd, Int.reduceSub, Int.reduceMul, Int.reduceEq, Int.reduceNeg, reduceCtorEq, true_and, and_true, Int.toNat_natCast, List.getElem?_map, Option.map_some, List.length_map, List.length_take, List.length_drop, List.length_append, Nat.sub_zero, Int.toNat_zero, List.length_replicate, Bool.true_or, Bool.or_true, Bool.false_or, Bool.or_false, false_implies, implies_true]))
    · rw [h] at hgv
      (repeat' (first | with_reducible (first | refine agr_d (fun hc => ?_) fun hc => ?_ | refine agr_n (fun hc => ?_) fun hc => ?_ | refine acd_d (fun hc => ?_) fun hc => ?_ | refine acd_n (fun hc => ?_) fun hc => ?_ | refine dgr_d (fun hc => ?_) fun hc => ?_ | refine dgr_n (fun hc => ?_) fun hc => ?_ | refine dl_sound _ _ [] [] [] _ _ (fun _ h => absurd h List.not_mem_nil) ?_ | refine conEnd_p (.inl rfl) ?_ | refine conEnd_p (.inr rfl) ?_ | refine dc1_p hm ?_ | refine ac1_p hm ?_ | refine dc1_p hnd ?_ | refine ac1_p hnd ?_ | refine dc1_p hgv ?_ | refine ac1_p hgv ?_) | simp (disch := omega) only [go_sem, devT, hk, Nat.reduceAdd, Nat.reduceSub, Nat.reduceMul, Nat.reduceLeDiff, Nat.reduceLT, Nat.reduceEqDiff, Int.reduceLT, Int.reduceLE, Int.reduceToNat, Int.reduceAdd, Int.reduceSub, Int.reduceMul, Int.reduceEq, Int.reduceNeg, reduceCtorEq, true_and, and_true, Int.toNat_natCast, List.getElem?_map, Option.map_some, List.length_map, List.length_take, List.length_drop, List.length_append, Nat.sub_zero, Int.toNat_zero, List.length_replicate, Bool.true_or, Bool.or_true, Bool.false_or, Bool.or_false, false_implies, implies_true]))
    · (repeat' (first | with_reducible (first | refine agr_d (fun hc => ?_) fun hc => ?_ | refine agr_n (fun hc => ?_) fun hc => ?_ | refine acd_d (fun hc => ?_) fun hc => ?_ | refine acd_n (fun hc => ?_) fun hc => ?_ | refine dgr_d (fun hc => ?_) fun hc => ?_ | refine dgr_n (fun hc => ?_) fun hc => ?_ | refine dl_sound _ _ [] [] [] _ _ (fun _ h => absurd h List.not_mem_nil) ?_ | refine conEnd_p (.inl rfl) ?_ | refine conEnd_p (.inr rfl) ?_ | refine dc1_p hm ?_ | refine ac1_p hm ?_ | refine dc1_p hnd ?_ | refine ac1_p hnd ?_) | simp (disch := omega) only [go_sem, devT, hk, Nat.reduceAdd, Nat.reduceSub, Nat.reduceMul, Nat.reduceLeDiff, Nat.reduceLT, Nat.reduceEqDiff, Int.reduceLT, Int.reduceLE, Int.reduceToNat, Int.reduceAdd, Int.reduceSub, Int.reduceMul, Int.reduceEq, Int.reduceNeg, reduceCtorEq, true_and, and_true, Int.toNat_natCast, List.getElem?_map, Option.map_some, List.length_map, List.length_take, List.length_drop, List.length_append, Nat.sub_zero, Int.toNat_zero, List.length_replicate, Bool.true_or, Bool.or_true, Bool.false_or, Bool.or_false, false_implies, implies_true]))
  have hB1 : a.k = 2 ∨ a.k = 3 → ¬ (512 : Int) < (a.b.size : Int) := fun hk h => hB (.inl ⟨hk, by omega⟩)
  have hB2 : a.k = 5 → givenB d a.key = true := fun hk => by
    cases h : givenB d a.key with
    | true => rfl
    | false => exact absurd (.inr (.inl ⟨hk, h⟩)) hB
  have hB3 : a.k = 6 → ¬ (68719476736 : Int) ≤ d.next := fun hk h => hB (.inr (.inr ⟨hk, h⟩))
  by_cases hC : refC d nd a
  · rw [refuseR_c hA hB hC]
    obtain ⟨h6, hfb⟩ := hCd.1 hC
    rw [hfb] at hfc
    rcases h5 with hk | hk | hk | hk | hk | hk
    · (repeat' (first | with_reducible (first | refine agr_d (fun hc => ?_) fun hc => ?_ | refine agr_n (fun hc => ?_) fun hc => ?_ | refine acd_d (fun hc => ?_) fun hc => ?_ | refine acd_n (fun hc => ?_) fun hc => ?_ | refine dgr_d (fun hc => ?_) fun hc => ?_ | refine dgr_n (fun hc => ?_) fun hc => ?_ | refine dl_sound _ _ [] [] [] _ _ (fun _ h => absurd h List.not_mem_nil) ?_ | refine conEnd_p (.inl rfl) ?_ | refine conEnd_p (.inr rfl) ?_ | refine dc1_p hm ?_ | refine ac1_p hm ?_ | refine dc1_p hnd ?_ | refine ac1_p hnd ?_ | refine dc1_p hfc ?_ | refine ac1_p hfc ?_) | simp (disch := omega) only [go_sem, devT, hk, Nat.reduceAdd, Nat.reduceSub, Nat.reduceMul, Nat.reduceLeDiff, Nat.reduceLT, Nat.reduceEqDiff, Int.reduceLT, Int.reduceLE, Int.reduceToNat, Int.reduceAdd, Int.reduceSub, Int.reduceMul, Int.reduceEq, Int.reduceNeg, reduceCtorEq, true_and, and_true, Int.toNat_natCast, List.getElem?_map, Option.map_some, List.length_map, List.length_take, List.length_drop, List.length_append, Nat.sub_zero, Int.toNat_zero, List.length_replicate, Bool.true_or, Bool.or_true, Bool.false_or, Bool.or_false, false_implies, implies_true]))
    · have h512 := hB1 (.inl hk)
      (repeat' (first | with_reducible (first | refine agr_d (fun hc => ?_) fun hc => ?_ | refine agr_n (fun hc => ?_) fun hc => ?_ | refine acd_d (fun hc => ?_) fun hc => ?_ | refine acd_n (fun hc => ?_) fun hc => ?_ | refine dgr_d (fun hc => ?_) fun hc => ?_ | refine dgr_n (fun hc => ?_) fun hc => ?_ | refine dl_sound _ _ [] [] [] _ _ (fun _ h => absurd h List.not_mem_nil) ?_ | refine conEnd_p (.inl rfl) ?_ | refine conEnd_p (.inr rfl) ?_ | refine dc1_p hm ?_ | refine ac1_p hm ?_ | refine dc1_p hnd ?_ | refine ac1_p hnd ?_ | refine dc1_p hfc ?_ | refine ac1_p hfc ?_ | refine ac1_sc0 (sz := 1) (lk := 0) ?_ ?_ hsz hsh (.bool _) ?_) | simp (disch := omega) only [go_sem, devT, hk, h512, Nat.reduceAdd, Nat.reduceSub, Nat.reduceMul, Nat.reduceLeDiff, Nat.reduceLT, Nat.reduceEqDiff, Int.reduceLT, Int.reduceLE, Int.reduceToNat, Int.reduceAdd, Int.reduceSub, Int.reduceMul, Int.reduceEq, Int.reduceNeg, reduceCtorEq, true_and, and_true, Int.toNat_natCast, List.getElem?_map, Option.map_some, List.length_map, List.length_take, List.length_drop, List.length_append, Nat.sub_zero, Int.toNat_zero, List.length_replicate, Bool.true_or, Bool.or_true, Bool.false_or, Bool.or_false, false_implies, implies_true]))
    · have h512 := hB1 (.inr hk)
      (repeat' (first | with_reducible (first | refine agr_d (fun hc => ?_) fun hc => ?_ | refine agr_n (fun hc => ?_) fun hc => ?_ | refine acd_d (fun hc => ?_) fun hc => ?_ | refine acd_n (fun hc => ?_) fun hc => ?_ | refine dgr_d (fun hc => ?_) fun hc => ?_ | refine dgr_n (fun hc => ?_) fun hc => ?_ | refine dl_sound _ _ [] [] [] _ _ (fun _ h => absurd h List.not_mem_nil) ?_ | refine conEnd_p (.inl rfl) ?_ | refine conEnd_p (.inr rfl) ?_ | refine dc1_p hm ?_ | refine ac1_p hm ?_ | refine dc1_p hnd ?_ | refine ac1_p hnd ?_ | refine dc1_p hfc ?_ | refine ac1_p hfc ?_ | refine ac1_sc0 (sz := 1) (lk := 0) ?_ ?_ hsz hsh (.bool _) ?_) | simp (disch := omega) only [go_sem, devT, hk, h512, Nat.reduceAdd, Nat.reduceSub, Nat.reduceMul, Nat.reduceLeDiff, Nat.reduceLT, Nat.reduceEqDiff, Int.reduceLT, Int.reduceLE, Int.reduceToNat, Int.reduceAdd, Int.reduceSub, Int.reduceMul, Int.reduceEq, Int.reduceNeg, reduceCtorEq, true_and, and_true, Int.toNat_natCast, List.getElem?_map, Option.map_some, List.length_map, List.length_take, List.length_drop, List.length_append, Nat.sub_zero, Int.toNat_zero, List.length_replicate, Bool.true_or, Bool.or_true, Bool.false_or, Bool.or_false, false_implies, implies_true]))
    · (repeat' (first | with_reducible (first | refine agr_d (fun hc => ?_) fun hc => ?_ | refine agr_n (fun hc => ?_) fun hc => ?_ | refine acd_d (fun hc => ?_) fun hc => ?_ | refine acd_n (fun hc => ?_) fun hc => ?_ | refine dgr_d (fun hc => ?_) fun hc => ?_ | refine dgr_n (fun hc => ?_) fun hc => ?_ | refine dl_sound _ _ [] [] [] _ _ (fun _ h => absurd h List.not_mem_nil) ?_ | refine conEnd_p (.inl rfl) ?_ | refine conEnd_p (.inr rfl) ?_ | refine dc1_p hm ?_ | refine ac1_p hm ?_ | refine dc1_p hnd ?_ | refine ac1_p hnd ?_ | refine dc1_p hfc ?_ | refine ac1_p hfc ?_) | simp (disch := omega) only [go_sem, devT, hk, Nat.reduceAdd, Nat.reduceSub, Nat.reduceMul, Nat.reduceLeDiff, Nat.reduceLT, Nat.reduceEqDiff, Int.reduceLT, Int.reduceLE, Int.reduceToNat, Int.reduceAdd, Int.reduceSub, Int.reduceMul, Int.reduceEq, Int.reduceNeg, reduceCtorEq, true_and, and_true, Int.toNat_natCast, List.getElem?_map, Option.map_some, List.length_map, List.length_take, List.length_drop, List.length_append, Nat.sub_zero, Int.toNat_zero, List.length_replicate, Bool.true_or, Bool.or_true, Bool.false_or, Bool.or_false, false_implies, implies_true]))
    · rw [hB2 hk] at hgv
      (repeat' (first | with_reducible (first | refine agr_d (fun hc => ?_) fun hc => ?_ | refine agr_n (fun hc => ?_) fun hc => ?_ | refine acd_d (fun hc => ?_) fun hc => ?_ | refine acd_n (fun hc => ?_) fun hc => ?_ | refine dgr_d (fun hc => ?_) fun hc => ?_ | refine dgr_n (fun hc => ?_) fun hc => ?_ | refine dl_sound _ _ [] [] [] _ _ (fun _ h => absurd h List.not_mem_nil) ?_ | refine conEnd_p (.inl rfl) ?_ | refine conEnd_p (.inr rfl) ?_ | refine dc1_p hm ?_ | refine ac1_p hm ?_ | refine dc1_p hnd ?_ | refine ac1_p hnd ?_ | refine dc1_p hfc ?_ | refine ac1_p hfc ?_ | refine dc1_p hgv ?_ | refine ac1_p hgv ?_) | simp (disch := omega) only [go_sem, devT, hk, Nat.reduceAdd, Nat.reduceSub, Nat.reduceMul, Nat.reduceLeDiff, Nat.reduceLT, Nat.reduceEqDiff, Int.reduceLT, Int.reduceLE, Int.reduceToNat, Int.reduceAdd, Int.reduceSub, Int.reduceMul, Int.reduceEq, Int.reduceNeg, reduceCtorEq, true_and, and_true, Int.toNat_natCast, List.getElem?_map, Option.map_some, List.length_map, List.length_take, List.length_drop, List.length_append, Nat.sub_zero, Int.toNat_zero, List.length_replicate, Bool.true_or, Bool.or_true, Bool.false_or, Bool.or_false, false_implies, implies_true]))
    · exact absurd hk h6
  have hfb : a.k ≠ 6 → fencedB d [d.keys[nd]] = false := fun h6 => by
    cases h : fencedB d [d.keys[nd]] with
    | false => rfl
    | true => exact absurd (hCd.2 ⟨h6, h⟩) hC
  by_cases hD : refD d a
  · rw [refuseR_d hA hB hC hD]
    obtain ⟨hk, hs⟩ := hD
    rw [hfb (by omega)] at hfc
    by_cases hs1 : a.s < 0
    · rcases hk with hk | hk | hk
      · (repeat' (first | with_reducible (first | refine agr_d (fun hc => ?_) fun hc => ?_ | refine agr_n (fun hc => ?_) fun hc => ?_ | refine acd_d (fun hc => ?_) fun hc => ?_ | refine acd_n (fun hc => ?_) fun hc => ?_ | refine dgr_d (fun hc => ?_) fun hc => ?_ | refine dgr_n (fun hc => ?_) fun hc => ?_ | refine dl_sound _ _ [] [] [] _ _ (fun _ h => absurd h List.not_mem_nil) ?_ | refine conEnd_p (.inl rfl) ?_ | refine conEnd_p (.inr rfl) ?_ | refine dc1_p hm ?_ | refine ac1_p hm ?_ | refine dc1_p hnd ?_ | refine ac1_p hnd ?_ | refine dc1_p hfc ?_ | refine ac1_p hfc ?_) | simp (disch := omega) only [go_sem, devT, hk, Nat.reduceAdd, Nat.reduceSub, Nat.reduceMul, Nat.reduceLeDiff, Nat.reduceLT, Nat.reduceEqDiff, Int.reduceLT, Int.reduceLE, Int.reduceToNat, Int.reduceAdd, Int.reduceSub, Int.reduceMul, Int.reduceEq, Int.reduceNeg, reduceCtorEq, true_and, and_true, Int.toNat_natCast, List.getElem?_map, Option.map_some, List.length_map, List.length_take, List.length_drop, List.length_append, Nat.sub_zero, Int.toNat_zero, List.length_replicate, Bool.true_or, Bool.or_true, Bool.false_or, Bool.or_false, false_implies, implies_true]))
      · have h512 := hB1 (.inl hk)
        (repeat' (first | with_reducible (first | refine agr_d (fun hc => ?_) fun hc => ?_ | refine agr_n (fun hc => ?_) fun hc => ?_ | refine acd_d (fun hc => ?_) fun hc => ?_ | refine acd_n (fun hc => ?_) fun hc => ?_ | refine dgr_d (fun hc => ?_) fun hc => ?_ | refine dgr_n (fun hc => ?_) fun hc => ?_ | refine dl_sound _ _ [] [] [] _ _ (fun _ h => absurd h List.not_mem_nil) ?_ | refine conEnd_p (.inl rfl) ?_ | refine conEnd_p (.inr rfl) ?_ | refine dc1_p hm ?_ | refine ac1_p hm ?_ | refine dc1_p hnd ?_ | refine ac1_p hnd ?_ | refine dc1_p hfc ?_ | refine ac1_p hfc ?_ | refine ac1_sc0 (sz := 1) (lk := 0) ?_ ?_ hsz hsh (.bool _) ?_) | simp (disch := omega) only [go_sem, devT, hk, h512, Nat.reduceAdd, Nat.reduceSub, Nat.reduceMul, Nat.reduceLeDiff, Nat.reduceLT, Nat.reduceEqDiff, Int.reduceLT, Int.reduceLE, Int.reduceToNat, Int.reduceAdd, Int.reduceSub, Int.reduceMul, Int.reduceEq, Int.reduceNeg, reduceCtorEq, true_and, and_true, Int.toNat_natCast, List.getElem?_map, Option.map_some, List.length_map, List.length_take, List.length_drop, List.length_append, Nat.sub_zero, Int.toNat_zero, List.length_replicate, Bool.true_or, Bool.or_true, Bool.false_or, Bool.or_false, false_implies, implies_true]))
      · have h512 := hB1 (.inr hk)
        (repeat' (first | with_reducible (first | refine agr_d (fun hc => ?_) fun hc => ?_ | refine agr_n (fun hc => ?_) fun hc => ?_ | refine acd_d (fun hc => ?_) fun hc => ?_ | refine acd_n (fun hc => ?_) fun hc => ?_ | refine dgr_d (fun hc => ?_) fun hc => ?_ | refine dgr_n (fun hc => ?_) fun hc => ?_ | refine dl_sound _ _ [] [] [] _ _ (fun _ h => absurd h List.not_mem_nil) ?_ | refine conEnd_p (.inl rfl) ?_ | refine conEnd_p (.inr rfl) ?_ | refine dc1_p hm ?_ | refine ac1_p hm ?_ | refine dc1_p hnd ?_ | refine ac1_p hnd ?_ | refine dc1_p hfc ?_ | refine ac1_p hfc ?_ | refine ac1_sc0 (sz := 1) (lk := 0) ?_ ?_ hsz hsh (.bool _) ?_) | simp (disch := omega) only [go_sem, devT, hk, h512, Nat.reduceAdd, Nat.reduceSub, Nat.reduceMul, Nat.reduceLeDiff, Nat.reduceLT, Nat.reduceEqDiff, Int.reduceLT, Int.reduceLE, Int.reduceToNat, Int.reduceAdd, Int.reduceSub, Int.reduceMul, Int.reduceEq, Int.reduceNeg, reduceCtorEq, true_and, and_true, Int.toNat_natCast, List.getElem?_map, Option.map_some, List.length_map, List.length_take, List.length_drop, List.length_append, Nat.sub_zero, Int.toNat_zero, List.length_replicate, Bool.true_or, Bool.or_true, Bool.false_or, Bool.or_false, false_implies, implies_true]))
    · have hs2 : (d.s.length : Int) ≤ a.s := by omega
      rcases hk with hk | hk | hk
      · (repeat' (first | with_reducible (first | refine agr_d (fun hc => ?_) fun hc => ?_ | refine agr_n (fun hc => ?_) fun hc => ?_ | refine acd_d (fun hc => ?_) fun hc => ?_ | refine acd_n (fun hc => ?_) fun hc => ?_ | refine dgr_d (fun hc => ?_) fun hc => ?_ | refine dgr_n (fun hc => ?_) fun hc => ?_ | refine dl_sound _ _ [] [] [] _ _ (fun _ h => absurd h List.not_mem_nil) ?_ | refine conEnd_p (.inl rfl) ?_ | refine conEnd_p (.inr rfl) ?_ | refine dc1_p hm ?_ | refine ac1_p hm ?_ | refine dc1_p hnd ?_ | refine ac1_p hnd ?_ | refine dc1_p hfc ?_ | refine ac1_p hfc ?_) | simp (disch := omega) only [go_sem, devT, hk, Nat.reduceAdd, Nat.reduceSub, Nat.reduceMul, Nat.reduceLeDiff, Nat.reduceLT, Nat.reduceEqDiff, Int.reduceLT, Int.reduceLE, Int.reduceToNat, Int.reduceAdd, Int.reduceSub, Int.reduceMul, Int.reduceEq, Int.reduceNeg, reduceCtorEq, true_and, and_true, Int.toNat_natCast, List.getElem?_map, Option.map_some, List.length_map, List.length_take, List.length_drop, List.length_append, Nat.sub_zero, Int.toNat_zero, List.length_replicate, Bool.true_or, Bool.or_true, Bool.false_or, Bool.or_false, false_implies, implies_true]))
      · have h512 := hB1 (.inl hk)
        (repeat' (first | with_reducible (first | refine agr_d (fun hc => ?_) fun hc => ?_ | refine agr_n (fun hc => ?_) fun hc => ?_ | refine acd_d (fun hc => ?_) fun hc => ?_ | refine acd_n (fun hc => ?_) fun hc => ?_ | refine dgr_d (fun hc => ?_) fun hc => ?_ | refine dgr_n (fun hc => ?_) fun hc => ?_ | refine dl_sound _ _ [] [] [] _ _ (fun _ h => absurd h List.not_mem_nil) ?_ | refine conEnd_p (.inl rfl) ?_ | refine conEnd_p (.inr rfl) ?_ | refine dc1_p hm ?_ | refine ac1_p hm ?_ | refine dc1_p hnd ?_ | refine ac1_p hnd ?_ | refine dc1_p hfc ?_ | refine ac1_p hfc ?_ | refine ac1_sc0 (sz := 1) (lk := 0) ?_ ?_ hsz hsh (.bool _) ?_) | simp (disch := omega) only [go_sem, devT, hk, h512, Nat.reduceAdd, Nat.reduceSub, Nat.reduceMul, Nat.reduceLeDiff, Nat.reduceLT, Nat.reduceEqDiff, Int.reduceLT, Int.reduceLE, Int.reduceToNat, Int.reduceAdd, Int.reduceSub, Int.reduceMul, Int.reduceEq, Int.reduceNeg, reduceCtorEq, true_and, and_true, Int.toNat_natCast, List.getElem?_map, Option.map_some, List.length_map, List.length_take, List.length_drop, List.length_append, Nat.sub_zero, Int.toNat_zero, List.length_replicate, Bool.true_or, Bool.or_true, Bool.false_or, Bool.or_false, false_implies, implies_true]))
      · have h512 := hB1 (.inr hk)
        (repeat' (first | with_reducible (first | refine agr_d (fun hc => ?_) fun hc => ?_ | refine agr_n (fun hc => ?_) fun hc => ?_ | refine acd_d (fun hc => ?_) fun hc => ?_ | refine acd_n (fun hc => ?_) fun hc => ?_ | refine dgr_d (fun hc => ?_) fun hc => ?_ | refine dgr_n (fun hc => ?_) fun hc => ?_ | refine dl_sound _ _ [] [] [] _ _ (fun _ h => absurd h List.not_mem_nil) ?_ | refine conEnd_p (.inl rfl) ?_ | refine conEnd_p (.inr rfl) ?_ | refine dc1_p hm ?_ | refine ac1_p hm ?_ | refine dc1_p hnd ?_ | refine ac1_p hnd ?_ | refine dc1_p hfc ?_ | refine ac1_p hfc ?_ | refine ac1_sc0 (sz := 1) (lk := 0) ?_ ?_ hsz hsh (.bool _) ?_) | simp (disch := omega) only [go_sem, devT, hk, h512, Nat.reduceAdd, Nat.reduceSub, Nat.reduceMul, Nat.reduceLeDiff, Nat.reduceLT, Nat.reduceEqDiff, Int.reduceLT, Int.reduceLE, Int.reduceToNat, Int.reduceAdd, Int.reduceSub, Int.reduceMul, Int.reduceEq, Int.reduceNeg, reduceCtorEq, true_and, and_true, Int.toNat_natCast, List.getElem?_map, Option.map_some, List.length_map, List.length_take, List.length_drop, List.length_append, Nat.sub_zero, Int.toNat_zero, List.length_replicate, Bool.true_or, Bool.or_true, Bool.false_or, Bool.or_false, false_implies, implies_true]))
  rw [refuseR_0 hA hB hC hD]
  have hs : a.k = 1 ∨ a.k = 2 ∨ a.k = 3 → ¬ a.s < 0 ∧ ¬ (d.s.length : Int) ≤ a.s := fun hk => ⟨fun h => hD ⟨hk, .inl h⟩, fun h => hD ⟨hk, .inr h⟩⟩
  rcases h5 with hk | hk | hk | hk | hk | hk
  · rw [hfb (by omega)] at hfc
    obtain ⟨hs1, hs2⟩ := hs (by omega)
    (repeat' (first | with_reducible (first | refine agr_d (fun hc => ?_) fun hc => ?_ | refine agr_n (fun hc => ?_) fun hc => ?_ | refine acd_d (fun hc => ?_) fun hc => ?_ | refine acd_n (fun hc => ?_) fun hc => ?_ | refine dgr_d (fun hc => ?_) fun hc => ?_ | refine dgr_n (fun hc => ?_) fun hc => ?_ | refine dl_sound _ _ [] [] [] _ _ (fun _ h => absurd h List.not_mem_nil) ?_ | refine conEnd_p (.inl rfl) ?_ | refine conEnd_p (.inr rfl) ?_ | refine dc1_p hm ?_ | refine ac1_p hm ?_ | refine dc1_p hnd ?_ | refine ac1_p hnd ?_ | refine dc1_p hfc ?_ | refine ac1_p hfc ?_) | simp (disch := omega) only [go_sem, devT, hk, Nat.reduceAdd, Nat.reduceSub, Nat.reduceMul, Nat.reduceLeDiff, Nat.reduceLT, Nat.reduceEqDiff, Int.reduceLT, Int.reduceLE, Int.reduceToNat, Int.reduceAdd, Int.reduceSub, Int.reduceMul, Int.reduceEq, Int.reduceNeg, reduceCtorEq, true_and, and_true, Int.toNat_natCast, List.getElem?_map, Option.map_some, List.length_map, List.length_take, List.length_drop, List.length_append, Nat.sub_zero, Int.toNat_zero, List.length_replicate, Bool.true_or, Bool.or_true, Bool.false_or, Bool.or_false, false_implies, implies_true]))
  · have h512 := hB1 (.inl hk)
    rw [hfb (by omega)] at hfc
    obtain ⟨hs1, hs2⟩ := hs (by omega)
    (repeat' (first | with_reducible (first | refine agr_d (fun hc => ?_) fun hc => ?_ | refine agr_n (fun hc => ?_) fun hc => ?_ | refine acd_d (fun hc => ?_) fun hc => ?_ | refine acd_n (fun hc => ?_) fun hc => ?_ | refine dgr_d (fun hc => ?_) fun hc => ?_ | refine dgr_n (fun hc => ?_) fun hc => ?_ | refine dl_sound _ _ [] [] [] _ _ (fun _ h => absurd h List.not_mem_nil) ?_ | refine conEnd_p (.inl rfl) ?_ | refine conEnd_p (.inr rfl) ?_ | refine dc1_p hm ?_ | refine ac1_p hm ?_ | refine dc1_p hnd ?_ | refine ac1_p hnd ?_ | refine dc1_p hfc ?_ | refine ac1_p hfc ?_ | refine ac1_sc0 (sz := 1) (lk := 0) ?_ ?_ hsz hsh (.bool _) ?_) | simp (disch := omega) only [go_sem, devT, hk, h512, Nat.reduceAdd, Nat.reduceSub, Nat.reduceMul, Nat.reduceLeDiff, Nat.reduceLT, Nat.reduceEqDiff, Int.reduceLT, Int.reduceLE, Int.reduceToNat, Int.reduceAdd, Int.reduceSub, Int.reduceMul, Int.reduceEq, Int.reduceNeg, reduceCtorEq, true_and, and_true, Int.toNat_natCast, List.getElem?_map, Option.map_some, List.length_map, List.length_take, List.length_drop, List.length_append, Nat.sub_zero, Int.toNat_zero, List.length_replicate, Bool.true_or, Bool.or_true, Bool.false_or, Bool.or_false, false_implies, implies_true]))
  · have h512 := hB1 (.inr hk)
    rw [hfb (by omega)] at hfc
    obtain ⟨hs1, hs2⟩ := hs (by omega)
    (repeat' (first | with_reducible (first | refine agr_d (fun hc => ?_) fun hc => ?_ | refine agr_n (fun hc => ?_) fun hc => ?_ | refine acd_d (fun hc => ?_) fun hc => ?_ | refine acd_n (fun hc => ?_) fun hc => ?_ | refine dgr_d (fun hc => ?_) fun hc => ?_ | refine dgr_n (fun hc => ?_) fun hc => ?_ | refine dl_sound _ _ [] [] [] _ _ (fun _ h => absurd h List.not_mem_nil) ?_ | refine conEnd_p (.inl rfl) ?_ | refine conEnd_p (.inr rfl) ?_ | refine dc1_p hm ?_ | refine ac1_p hm ?_ | refine dc1_p hnd ?_ | refine ac1_p hnd ?_ | refine dc1_p hfc ?_ | refine ac1_p hfc ?_ | refine ac1_sc0 (sz := 1) (lk := 0) ?_ ?_ hsz hsh (.bool _) ?_) | simp (disch := omega) only [go_sem, devT, hk, h512, Nat.reduceAdd, Nat.reduceSub, Nat.reduceMul, Nat.reduceLeDiff, Nat.reduceLT, Nat.reduceEqDiff, Int.reduceLT, Int.reduceLE, Int.reduceToNat, Int.reduceAdd, Int.reduceSub, Int.reduceMul, Int.reduceEq, Int.reduceNeg, reduceCtorEq, true_and, and_true, Int.toNat_natCast, List.getElem?_map, Option.map_some, List.length_map, List.length_take, List.length_drop, List.length_append, Nat.sub_zero, Int.toNat_zero, List.length_replicate, Bool.true_or, Bool.or_true, Bool.false_or, Bool.or_false, false_implies, implies_true]))
  · rw [hfb (by omega)] at hfc
    (repeat' (first | with_reducible (first | refine agr_d (fun hc => ?_) fun hc => ?_ | refine agr_n (fun hc => ?_) fun hc => ?_ | refine acd_d (fun hc => ?_) fun hc => ?_ | refine acd_n (fun hc => ?_) fun hc => ?_ | refine dgr_d (fun hc => ?_) fun hc => ?_ | refine dgr_n (fun hc => ?_) fun hc => ?_ | refine dl_sound _ _ [] [] [] _ _ (fun _ h => absurd h List.not_mem_nil) ?_ | refine conEnd_p (.inl rfl) ?_ | refine conEnd_p (.inr rfl) ?_ | refine dc1_p hm ?_ | refine ac1_p hm ?_ | refine dc1_p hnd ?_ | refine ac1_p hnd ?_ | refine dc1_p hfc ?_ | refine ac1_p hfc ?_) | simp (disch := omega) only [go_sem, devT, hk, Nat.reduceAdd, Nat.reduceSub, Nat.reduceMul, Nat.reduceLeDiff, Nat.reduceLT, Nat.reduceEqDiff, Int.reduceLT, Int.reduceLE, Int.reduceToNat, Int.reduceAdd, Int.reduceSub, Int.reduceMul, Int.reduceEq, Int.reduceNeg, reduceCtorEq, true_and, and_true, Int.toNat_natCast, List.getElem?_map, Option.map_some, List.length_map, List.length_take, List.length_drop, List.length_append, Nat.sub_zero, Int.toNat_zero, List.length_replicate, Bool.true_or, Bool.or_true, Bool.false_or, Bool.or_false, false_implies, implies_true]))
  · rw [hfb (by omega)] at hfc
    rw [hB2 hk] at hgv
    (repeat' (first | with_reducible (first | refine agr_d (fun hc => ?_) fun hc => ?_ | refine agr_n (fun hc => ?_) fun hc => ?_ | refine acd_d (fun hc => ?_) fun hc => ?_ | refine acd_n (fun hc => ?_) fun hc => ?_ | refine dgr_d (fun hc => ?_) fun hc => ?_ | refine dgr_n (fun hc => ?_) fun hc => ?_ | refine dl_sound _ _ [] [] [] _ _ (fun _ h => absurd h List.not_mem_nil) ?_ | refine conEnd_p (.inl rfl) ?_ | refine conEnd_p (.inr rfl) ?_ | refine dc1_p hm ?_ | refine ac1_p hm ?_ | refine dc1_p hnd ?_ | refine ac1_p hnd ?_ | refine dc1_p hfc ?_ | refine ac1_p hfc ?_ | refine dc1_p hgv ?_ | refine ac1_p hgv ?_) | simp (disch := omega) only [go_sem, devT, hk, Nat.reduceAdd, Nat.reduceSub, Nat.reduceMul, Nat.reduceLeDiff, Nat.reduceLT, Nat.reduceEqDiff, Int.reduceLT, Int.reduceLE, Int.reduceToNat, Int.reduceAdd, Int.reduceSub, Int.reduceMul, Int.reduceEq, Int.reduceNeg, reduceCtorEq, true_and, and_true, Int.toNat_natCast, List.getElem?_map, Option.map_some, List.length_map, List.length_take, List.length_drop, List.length_append, Nat.sub_zero, Int.toNat_zero, List.length_replicate, Bool.true_or, Bool.or_true, Bool.false_or, Bool.or_false, false_implies, implies_true]))
  · have h36 := hB3 hk
    (repeat' (first | with_reducible (first | refine agr_d (fun hc => ?_) fun hc => ?_ | refine agr_n (fun hc => ?_) fun hc => ?_ | refine acd_d (fun hc => ?_) fun hc => ?_ | refine acd_n (fun hc => ?_) fun hc => ?_ | refine dgr_d (fun hc => ?_) fun hc => ?_ | refine dgr_n (fun hc => ?_) fun hc => ?_ | refine dl_sound _ _ [] [] [] _ _ (fun _ h => absurd h List.not_mem_nil) ?_ | refine conEnd_p (.inl rfl) ?_ | refine conEnd_p (.inr rfl) ?_ | refine dc1_p hm ?_ | refine ac1_p hm ?_ | refine dc1_p hnd ?_ | refine ac1_p hnd ?_ | refine dc1_p hfc ?_ | refine ac1_p hfc ?_) | simp (disch := omega) only [go_sem, devT, hk, Nat.reduceAdd, Nat.reduceSub, Nat.reduceMul, Nat.reduceLeDiff, Nat.reduceLT, Nat.reduceEqDiff, Int.reduceLT, Int.reduceLE, Int.reduceToNat, Int.reduceAdd, Int.reduceSub, Int.reduceMul, Int.reduceEq, Int.reduceNeg, reduceCtorEq, true_and, and_true, Int.toNat_natCast, List.getElem?_map, Option.map_some, List.length_map, List.length_take, List.length_drop, List.length_append, Nat.sub_zero, Int.toNat_zero, List.length_replicate, Bool.true_or, Bool.or_true, Bool.false_or, Bool.or_false, false_implies, implies_true]))
end Go.Proofs.Ytllijcnbjbfabaa

namespace Go.Proofs.Ytllijcnbjbfabaa
open Go.RowKit
set_option linter.unusedSimpArgs false
set_option linter.unusedVariables false

theorem zeroCells_one (z : Array Value) : (Builtin.zeroCells z 1).toList = z.toList := by
  unfold Builtin.zeroCells
  apply List.ext_getElem
  · simp
  · intro i h1 h2
    have hi : i < z.size := by simpa using h2
    simp [Nat.mod_eq_of_lt hi, hi]
theorem asem_clear1 {P : Program} {t e : TypeId} {ie : TypeInfo} {z : Value} {x : Operand} {fr : Fr} {st : St} {K : V → St → Prop} {b i cap : Nat} {es : List (List V)} {sz lk : Nat} (hx : ev fr x = .bs b i 1 cap) (hu : P.underlying t = some (.slice e)) (hi : P.info? e = some ie) (hz : ie.zero = some z)
    (hzs : z.cells.size = sz) (hsz : ie.size = sz) (hone : z.cells.toList.all (fun v => v.oneCell') = true) (hb : st.get b = some ⟨es, sz, lk⟩) (hin : i < es.length) (hlk : lk ≤ i)
    (hk : K (.tup []) (st.set b ⟨es.set i (z.cells.toList.map vOf), sz, lk⟩)) : asem P (.call ⟨.builtin .clear, #[x], #[t]⟩) fr st K := by
  intro mu S B w a h1 hf hfr hB
  have hv := hfr.at_ x
  rw [hx] at hv
  obtain ⟨L, A, c, hL, hval, hn, hc, hA⟩ := hv.bs_inv
  have hm := hv.bs_reg hL
  obtain ⟨L', hL', hbr, hg⟩ := h1.loc b _ hb
  rw [hL] at hL'; injection hL' with hL'; subst hL'
  have hLs : sz = L.sz := hbr.sz
  have hlen := hbr.len hm
  dsimp only at hlen
  rcases hA with hA | ⟨rfl, hlim⟩
  · omega
  · have hul : z.cells.toList.length = L.sz := by rw [Array.length_toList, hzs, hLs]
    have hend : i * L.sz + L.sz ≤ L.lim * L.sz := by
      have : (i + 1) * L.sz ≤ L.lim * L.sz := Nat.mul_le_mul_right _ (by omega)
      rw [Nat.succ_mul] at this; omega
    obtain ⟨s1, s2, s3⟩ := h1.setCells (k' := ⟨es.set i (z.cells.toList.map vOf), sz, lk⟩) hb hL hm z.cells.toList (i * L.sz) (Nat.mul_le_mul_right _ hlk) (by omega) (fun u hu => List.all_eq_true.1 hone u hu) rfl rfl
      (by simpa using hlen) (by have := hbr.lk; simpa using this) (fun i' hi' => by
        dsimp only at hi' ⊢
        rw [List.getElem_set]
        split
        · rw [List.length_map, hul]
        · exact hbr.row i' (by simpa using hi'))
      (fun i' j' y hy => by
        unfold cellOf at hy
        dsimp only at hy
        rw [List.getElem?_set] at hy
        by_cases e' : i = i'
        · subst e'
          rw [if_pos rfl, if_pos hin, Option.bind_some, List.getElem?_map] at hy
          obtain ⟨u, hu, rfl⟩ := Option.map_eq_some_iff.1 hy
          have hj : j' < z.cells.toList.length := (List.getElem?_eq_some_iff.1 hu).1
          exact .inl ⟨by omega, u, by rw [show i * L.sz + j' - i * L.sz = j' by omega]; exact hu, .of_vOf u⟩
        · right
          rw [if_neg e'] at hy
          have hy' : cellOf es i' j' = some y := hy
          obtain ⟨hi2, hj2, _⟩ := cellOf_some hy'
          have hj3 : j' < L.sz := by rw [← hbr.row i' hi2]; exact hj2
          refine ⟨?_, hy⟩
          rcases Nat.lt_or_gt_of_ne e' with h2 | h2
          · have := row_mul (i := i) (i' := i') h2 (sz := L.sz) (j' := L.sz - 1)
            have h3 : (i + 1) * L.sz ≤ i' * L.sz := Nat.mul_le_mul_right _ h2
            rw [Nat.succ_mul] at h3
            omega
          · have h3 : (i' + 1) * L.sz ≤ i * L.sz := Nat.mul_le_mul_right _ h2
            rw [Nat.succ_mul] at h3
            omega)
    have hfA : FrA mu (st.set b ⟨es.set i (z.cells.toList.map vOf), sz, lk⟩) := fun y hy => by
      obtain ⟨q1, q2⟩ := hf y hy
      refine ⟨q1, ?_⟩
      rw [St.get_set, if_neg (by rintro rfl; rw [hb] at q2; cases q2)]
      exact q2
    refine ⟨.tup [], _, .tuple #[], mu, S, _, fun o ho => ?_, s1, hfA, .tup [] [] rfl (fun _ h => absurd h (by simp)), s2.ev, hk⟩
    left
    obtain ⟨dst, op, ty, pos, after, guard⟩ := o
    dsimp only at ho
    subst ho
    have hrun : (Builtin.clear_ #[t] ty #[a.eval x]).run P w = .ok (.tuple #[]) (w.setCells L.g (L.o + i * L.sz) z.cells.toList) := by
      rw [hval]
      have hst := run_storeCells_cells (P := P) L.g (L.o + i * L.sz) z.cells.toList 0 w (fun j hj => by rw [Nat.add_zero]; exact (s3 j hj).1) (fun j hj => by rw [Nat.add_zero]; exact (s3 j hj).2) (fun v hv => List.all_eq_true.1 hone v hv)
      rw [Nat.add_zero] at hst
      simp [Builtin.clear_, run_underlying hu, zeroValue, typeInfo, hi, hz, zeroCells_one, hst, Result.andThen]
    show ((do pure (.value (← Builtin.clear_ #[t] ty (#[x].map a.eval))) : Sem Next)).run P w = _
    rw [Sem.run_bind]
    have e2 : #[x].map a.eval = #[a.eval x] := by simp
    rw [e2, hrun]
    rfl
set_option maxRecDepth 100000 in
set_option maxHeartbeats 16000000 in
theorem Delete_con (l : List Pr) (k bl lk : Nat) (st0 : St) (hb : st0.get bl = some ⟨l.map prV, 2, 0⟩) (hbl : bl < st0.c) (hk : k < l.length) (hl : l.length ≤ 1000000) :
    ICon Try.prog 59 [.bs bl 0 l.length l.length, .int .i64 k, .int .i64 ((k : Int) + 1)] st0 fun r st => r = .bs bl 0 (l.length - 1) l.length ∧ st0.c ≤ st.c ∧ (∃ q, st.get bl = some ⟨(l.eraseIdx k ++ [q]).map prV, 2, 0⟩) ∧ ∀ y, y ≠ bl → st.get y = st0.get y := by
  refine icon_of_awp Try.func59 rfl mixed (by decide) rfl (by kernel_rfl) rfl ?_
  have hne : ¬ ((k : Int) = (k : Int) + 1) := by omega
  have hk1 : ((k : Int) + 1).toNat = k + 1 := by omega
  have hk2 : ¬ k = l.length := by omega
  have hk3 : k + (l.length - (k + 1)) = l.length - 1 := by omega
  have hk4 : l.length - (l.length - 1) = 1 := by omega
  have he : l.take k ++ ((l.drop (k + 1)).take (l.length - (k + 1)) ++ l.drop (l.length - 1)) = l.eraseIdx k ++ l.drop (l.length - 1) := by
    rw [List.take_of_length_le (l := l.drop (k + 1)) (by simp), ← List.append_assoc, List.eraseIdx_eq_take_drop_succ]
  have hel : (l.eraseIdx k).length = l.length - 1 := List.length_eraseIdx_of_lt hk
  have hdl : (l.drop (l.length - 1)).length = 1 := by simp; omega
  (repeat' (first | with_reducible (first | refine agr_d (fun hc => ?_) fun hc => ?_ | refine agr_n (fun hc => ?_) fun hc => ?_ | refine acd_d (fun hc => ?_) fun hc => ?_ | refine acd_n (fun hc => ?_) fun hc => ?_ | refine dgr_d (fun hc => ?_) fun hc => ?_ | refine dgr_n (fun hc => ?_) fun hc => ?_ | refine dl_sound _ _ [] [] [] _ _ (fun _ h => absurd h List.not_mem_nil) ?_) | simp (disch := omega) only [go_sem, hb, hne, hk1, hk2, Nat.min_self, hk3, hk4, he, Nat.reduceAdd, Nat.reduceSub, Nat.reduceMul, Nat.reduceLeDiff, Nat.reduceLT, Nat.reduceEqDiff, Int.reduceLT, Int.reduceLE, Int.reduceToNat, Int.reduceAdd, Int.reduceSub, Int.reduceMul, Int.reduceEq, Int.reduceNeg, reduceCtorEq, true_and, and_true, Int.toNat_natCast, List.getElem?_map, Option.map_some, List.length_map, List.length_take, List.length_drop, List.length_append, Nat.sub_zero, Int.toNat_zero, List.length_replicate, Bool.true_or, Bool.or_true, Bool.false_or, Bool.or_false, false_implies, implies_true]))
  rw [aop_clear]
  refine asem_clear1 (b := bl) (cap := 1) (i := l.length - 1) (es := (l.eraseIdx k ++ l.drop (l.length - 1)).map prV) (sz := 2) (lk := 0) (e := 52) (ie := ti52) (z := zv52) ?_ und_48 inf_52 tiz52 zvs52 tis52 zvo52 ?_ (by simp [hel]; omega) (Nat.zero_le _) ?_
  · simp (disch := omega) only [go_sem, Nat.reduceAdd, Nat.reduceSub, Nat.reduceMul, Nat.reduceLeDiff, Nat.reduceLT, Nat.reduceEqDiff, Int.reduceLT, Int.reduceLE, Int.reduceToNat, Int.reduceAdd, Int.reduceSub, Int.reduceMul, Int.reduceEq, Int.reduceNeg, reduceCtorEq, true_and, and_true, Int.toNat_natCast, List.getElem?_map, Option.map_some, List.length_map, List.length_take, List.length_drop, List.length_append, Nat.sub_zero, Int.toNat_zero, List.length_replicate, Bool.true_or, Bool.or_true, Bool.false_or, Bool.or_false, false_implies, implies_true] <;> rfl
  · simp (disch := omega) only [go_sem, Nat.reduceAdd, Nat.reduceSub, Nat.reduceMul, Nat.reduceLeDiff, Nat.reduceLT, Nat.reduceEqDiff, Int.reduceLT, Int.reduceLE, Int.reduceToNat, Int.reduceAdd, Int.reduceSub, Int.reduceMul, Int.reduceEq, Int.reduceNeg, reduceCtorEq, true_and, and_true, Int.toNat_natCast, List.getElem?_map, Option.map_some, List.length_map, List.length_take, List.length_drop, List.length_append, Nat.sub_zero, Int.toNat_zero, List.length_replicate, Bool.true_or, Bool.or_true, Bool.false_or, Bool.or_false, false_implies, implies_true]
  have hset : ((l.eraseIdx k ++ l.drop (l.length - 1)).map prV).set (l.length - 1) [V.int .i64 0, V.str ⟨#[]⟩] = (l.eraseIdx k ++ [(⟨0, ⟨#[]⟩⟩ : Pr)]).map prV := by
    obtain ⟨q, hq⟩ := List.length_eq_one_iff.1 hdl
    rw [hq, List.map_append, List.map_append, List.set_append_right _ _ (by simp [hel]), List.length_map, hel, Nat.sub_self]
    rfl
  rw [zvv52, hset]
  (repeat' (first | with_reducible (first | refine agr_d (fun hc => ?_) fun hc => ?_ | refine agr_n (fun hc => ?_) fun hc => ?_ | refine acd_d (fun hc => ?_) fun hc => ?_ | refine acd_n (fun hc => ?_) fun hc => ?_ | refine dgr_d (fun hc => ?_) fun hc => ?_ | refine dgr_n (fun hc => ?_) fun hc => ?_ | refine dl_sound _ _ [] [] [] _ _ (fun _ h => absurd h List.not_mem_nil) ?_) | simp (disch := omega) only [go_sem, Nat.reduceAdd, Nat.reduceSub, Nat.reduceMul, Nat.reduceLeDiff, Nat.reduceLT, Nat.reduceEqDiff, Int.reduceLT, Int.reduceLE, Int.reduceToNat, Int.reduceAdd, Int.reduceSub, Int.reduceMul, Int.reduceEq, Int.reduceNeg, reduceCtorEq, true_and, and_true, Int.toNat_natCast, List.getElem?_map, Option.map_some, List.length_map, List.length_take, List.length_drop, List.length_append, Nat.sub_zero, Int.toNat_zero, List.length_replicate, Bool.true_or, Bool.or_true, Bool.false_or, Bool.or_false, false_implies, implies_true]))
  refine iconEnd_v (by first | exact .inl rfl | exact .inr rfl) ?_
  simp (disch := omega) only [go_sem, Nat.reduceAdd, Nat.reduceSub, Nat.reduceMul, Nat.reduceLeDiff, Nat.reduceLT, Nat.reduceEqDiff, Int.reduceLT, Int.reduceLE, Int.reduceToNat, Int.reduceAdd, Int.reduceSub, Int.reduceMul, Int.reduceEq, Int.reduceNeg, reduceCtorEq, true_and, and_true, Int.toNat_natCast, List.getElem?_map, Option.map_some, List.length_map, List.length_take, List.length_drop, List.length_append, Nat.sub_zero, Int.toNat_zero, List.length_replicate, Bool.true_or, Bool.or_true, Bool.false_or, Bool.or_false, false_implies, implies_true]
  refine ⟨by omega, ⟨_, rfl⟩, fun y hy => ?_⟩
  simp (disch := omega) only [go_sem, hy, Nat.reduceAdd, Nat.reduceSub, Nat.reduceMul, Nat.reduceLeDiff, Nat.reduceLT, Nat.reduceEqDiff, Int.reduceLT, Int.reduceLE, Int.reduceToNat, Int.reduceAdd, Int.reduceSub, Int.reduceMul, Int.reduceEq, Int.reduceNeg, reduceCtorEq, true_and, and_true, Int.toNat_natCast, List.getElem?_map, Option.map_some, List.length_map, List.length_take, List.length_drop, List.length_append, Nat.sub_zero, Int.toNat_zero, List.length_replicate, Bool.true_or, Bool.or_true, Bool.false_or, Bool.or_false, false_implies, implies_true]
end Go.Proofs.Ytllijcnbjbfabaa

namespace Go.Proofs.Ytllijcnbjbfabaa
open Go.RowKit
set_option linter.unusedSimpArgs false
set_option linter.unusedVariables false

/-- the words of an act that is done -/
structure Done (d : Dev) (node : Nat) (a : Ac) : Prop where
  may : MayD d
  n : node < d.keys.length
  A : ¬ refA d node a
  B : ¬ refB d a
  C : ¬ refC d node a
  D : ¬ refD d a
theorem Done.c {d : Dev} {node : Nat} {a : Ac} (h : Done d node a) : node < d.cache.length := by rw [h.may.c]; exact h.n
theorem Done.ok {d : Dev} {node : Nat} {a : Ac} (h : Done d node a) : doR d node a = ((actD d node a).1, (actD d node a).2, 0) := by
  have := do_ok h.A h.B h.C h.D
  rwa [Int.toNat_natCast] at this
theorem Done.s {d : Dev} {node : Nat} {a : Ac} (h : Done d node a) (hk : a.k = 1 ∨ a.k = 2 ∨ a.k = 3) : 0 ≤ a.s ∧ a.s < d.s.length := by
  have h1 : ¬ a.s < 0 := fun q => h.D ⟨hk, .inl q⟩
  have h2 : ¬ (d.s.length : Int) ≤ a.s := fun q => h.D ⟨hk, .inr q⟩
  omega
set_option maxRecDepth 100000 in
set_option maxHeartbeats 16000000 in
theorem dDo_no (d : Dev) (hd : DevOk d) (node : Int) (a : Ac) (ha : AcOk a) (h : refuseR d node a ≠ 0) : Con Try.prog 20 [devV d, .int .i64 node, acV a] (· = doV (doR d node a)) := by
  have hR := refuses_con d hd node a ha
  have e : doR d node a = (d, ⟨#[]⟩, refuseR d node a) := by unfold doR; rw [if_neg h]
  rw [e]
  refine con_of_awp Try.func20 rfl mixed (by decide) rfl (by kernel_rfl) rfl ?_
  (repeat' (first | with_reducible (first | refine agr_d (fun hc => ?_) fun hc => ?_ | refine agr_n (fun hc => ?_) fun hc => ?_ | refine acd_d (fun hc => ?_) fun hc => ?_ | refine acd_n (fun hc => ?_) fun hc => ?_ | refine dgr_d (fun hc => ?_) fun hc => ?_ | refine dgr_n (fun hc => ?_) fun hc => ?_ | refine dl_sound _ _ [] [] [] _ _ (fun _ h => absurd h List.not_mem_nil) ?_ | refine conEnd_p (.inl rfl) ?_ | refine conEnd_p (.inr rfl) ?_ | refine ac1_sc mny (fzs_three (fz_tpm (sz := 5) (lk := 0) ?_ (by (simp only [List.nil_append, List.cons_append, List.append_nil, List.forall_mem_cons, List.not_mem_nil, false_implies, implies_true, and_true, true_and, plain_agg, plain_tp, plain_fn, plain_tup, plain_int, plain_bool, plain_str, plain_nilp, plain_nilfn, plain_undef, plain_dev, plain_pr, plain_tx, plain_in, plain_cc]))) (.plain _ (.int _ _)) (.plain _ (by (simp only [List.nil_append, List.cons_append, List.append_nil, List.forall_mem_cons, List.not_mem_nil, false_implies, implies_true, and_true, true_and, plain_agg, plain_tp, plain_fn, plain_tup, plain_int, plain_bool, plain_str, plain_nilp, plain_nilfn, plain_undef, plain_dev, plain_pr, plain_tx, plain_in, plain_cc])))) hR (.int _ _) ?_) | simp (disch := omega) only [go_sem, devV, doV, h, Nat.reduceAdd, Nat.reduceSub, Nat.reduceMul, Nat.reduceLeDiff, Nat.reduceLT, Nat.reduceEqDiff, Int.reduceLT, Int.reduceLE, Int.reduceToNat, Int.reduceAdd, Int.reduceSub, Int.reduceMul, Int.reduceEq, Int.reduceNeg, reduceCtorEq, true_and, and_true, Int.toNat_natCast, List.getElem?_map, Option.map_some, List.length_map, List.length_take, List.length_drop, List.length_append, Nat.sub_zero, Int.toNat_zero, List.length_replicate, Bool.true_or, Bool.or_true, Bool.false_or, Bool.or_false, false_implies, implies_true]))
set_option maxRecDepth 100000 in
set_option maxHeartbeats 16000000 in
theorem dDo_1 (d : Dev) (hd : DevOk d) (node : Nat) (a : Ac) (ha : AcOk a) (h : Done d node a) (hk : a.k = 1) : Con Try.prog 20 [devV d, .int .i64 node, acV a] (· = doV (doR d node a)) := by
  have hR := refuses_con d hd node a ha
  rw [refuseR_0 h.A h.B h.C h.D] at hR
  simp only [acV, hk] at hR
  rw [h.ok]
  have hcn := h.c
  obtain ⟨hs1, hs2⟩ := h.s (.inl hk)
  have hsl : a.s.toNat < d.s.length := by omega
  have hsg : d.s[a.s.toNat]? = some d.s[a.s.toNat] := List.getElem?_eq_getElem hsl
  have hcl := hd.ci node hcn
  have hcd : d.cache.getD node [] = d.cache[node] := getD_at hcn
  refine con_of_awp Try.func20 rfl mixed (by decide) rfl (by kernel_rfl) rfl ?_
  (repeat' (first | with_reducible (first | refine agr_d (fun hc => ?_) fun hc => ?_ | refine agr_n (fun hc => ?_) fun hc => ?_ | refine acd_d (fun hc => ?_) fun hc => ?_ | refine acd_n (fun hc => ?_) fun hc => ?_ | refine dgr_d (fun hc => ?_) fun hc => ?_ | refine dgr_n (fun hc => ?_) fun hc => ?_ | refine dl_sound _ _ [] [] [] _ _ (fun _ h => absurd h List.not_mem_nil) ?_ | refine ac1_sc mny (fzs_three (fz_tpm (sz := 5) (lk := 0) ?_ (by (simp only [List.nil_append, List.cons_append, List.append_nil, List.forall_mem_cons, List.not_mem_nil, false_implies, implies_true, and_true, true_and, plain_agg, plain_tp, plain_fn, plain_tup, plain_int, plain_bool, plain_str, plain_nilp, plain_nilfn, plain_undef, plain_dev, plain_pr, plain_tx, plain_in, plain_cc]))) (.plain _ (.int _ _)) (.plain _ (by (simp only [List.nil_append, List.cons_append, List.append_nil, List.forall_mem_cons, List.not_mem_nil, false_implies, implies_true, and_true, true_and, plain_agg, plain_tp, plain_fn, plain_tup, plain_int, plain_bool, plain_str, plain_nilp, plain_nilfn, plain_undef, plain_dev, plain_pr, plain_tx, plain_in, plain_cc])))) hR (.int _ _) ?_) | simp (disch := omega) only [go_sem, devV, doV, hk, Nat.reduceAdd, Nat.reduceSub, Nat.reduceMul, Nat.reduceLeDiff, Nat.reduceLT, Nat.reduceEqDiff, Int.reduceLT, Int.reduceLE, Int.reduceToNat, Int.reduceAdd, Int.reduceSub, Int.reduceMul, Int.reduceEq, Int.reduceNeg, reduceCtorEq, true_and, and_true, Int.toNat_natCast, List.getElem?_map, Option.map_some, List.length_map, List.length_take, List.length_drop, List.length_append, Nat.sub_zero, Int.toNat_zero, List.length_replicate, Bool.true_or, Bool.or_true, Bool.false_or, Bool.or_false, false_implies, implies_true]))
  refine ac1_i (cut_con d hd 3 _ (by simp (disch := omega) only [go_sem, Nat.reduceAdd, Nat.reduceSub, Nat.reduceMul, Nat.reduceLeDiff, Nat.reduceLT, Nat.reduceEqDiff, Int.reduceLT, Int.reduceLE, Int.reduceToNat, Int.reduceAdd, Int.reduceSub, Int.reduceMul, Int.reduceEq, Int.reduceNeg, reduceCtorEq, true_and, and_true, Int.toNat_natCast, List.getElem?_map, Option.map_some, List.length_map, List.length_take, List.length_drop, List.length_append, Nat.sub_zero, Int.toNat_zero, List.length_replicate, Bool.true_or, Bool.or_true, Bool.false_or, Bool.or_false, false_implies, implies_true] <;> rfl) (by simp (disch := omega) only [go_sem, Nat.reduceAdd, Nat.reduceSub, Nat.reduceMul, Nat.reduceLeDiff, Nat.reduceLT, Nat.reduceEqDiff, Int.reduceLT, Int.reduceLE, Int.reduceToNat, Int.reduceAdd, Int.reduceSub, Int.reduceMul, Int.reduceEq, Int.reduceNeg, reduceCtorEq, true_and, and_true, Int.toNat_natCast, List.getElem?_map, Option.map_some, List.length_map, List.length_take, List.length_drop, List.length_append, Nat.sub_zero, Int.toNat_zero, List.length_replicate, Bool.true_or, Bool.or_true, Bool.false_or, Bool.or_false, false_implies, implies_true]) node hcn a.s) ?_
  rintro _ ⟨g, c⟩ ⟨bl, rfl, h1, h2, h3, h4⟩
  dsimp only at h1 h2 h3 h4
  have q1 : g 1 = some ⟨[[.int .i8 1, .int .i64 a.s, .str a.b, .int .i64 a.key]], 4, 0⟩ := (h4 1 (by simp)).trans (by simp (disch := omega) only [go_sem, hk, Nat.reduceAdd, Nat.reduceSub, Nat.reduceMul, Nat.reduceLeDiff, Nat.reduceLT, Nat.reduceEqDiff, Int.reduceLT, Int.reduceLE, Int.reduceToNat, Int.reduceAdd, Int.reduceSub, Int.reduceMul, Int.reduceEq, Int.reduceNeg, reduceCtorEq, true_and, and_true, Int.toNat_natCast, List.getElem?_map, Option.map_some, List.length_map, List.length_take, List.length_drop, List.length_append, Nat.sub_zero, Int.toNat_zero, List.length_replicate, Bool.true_or, Bool.or_true, Bool.false_or, Bool.or_false, false_implies, implies_true] <;> rfl)
  have q2 : g 2 = some ⟨[[.sl [] true, .sl [] true, .sl [] true, .int .i64 0, .sl [] true]], 5, 0⟩ := (h4 2 (by simp)).trans (by simp (disch := omega) only [go_sem, Nat.reduceAdd, Nat.reduceSub, Nat.reduceMul, Nat.reduceLeDiff, Nat.reduceLT, Nat.reduceEqDiff, Int.reduceLT, Int.reduceLE, Int.reduceToNat, Int.reduceAdd, Int.reduceSub, Int.reduceMul, Int.reduceEq, Int.reduceNeg, reduceCtorEq, true_and, and_true, Int.toNat_natCast, List.getElem?_map, Option.map_some, List.length_map, List.length_take, List.length_drop, List.length_append, Nat.sub_zero, Int.toNat_zero, List.length_replicate, Bool.true_or, Bool.or_true, Bool.false_or, Bool.or_false, false_implies, implies_true] <;> rfl)
  have q3 : g 3 = some (devB d) := (h4 3 (by simp)).trans (by simp (disch := omega) only [go_sem, Nat.reduceAdd, Nat.reduceSub, Nat.reduceMul, Nat.reduceLeDiff, Nat.reduceLT, Nat.reduceEqDiff, Int.reduceLT, Int.reduceLE, Int.reduceToNat, Int.reduceAdd, Int.reduceSub, Int.reduceMul, Int.reduceEq, Int.reduceNeg, reduceCtorEq, true_and, and_true, Int.toNat_natCast, List.getElem?_map, Option.map_some, List.length_map, List.length_take, List.length_drop, List.length_append, Nat.sub_zero, Int.toNat_zero, List.length_replicate, Bool.true_or, Bool.or_true, Bool.false_or, Bool.or_false, false_implies, implies_true] <;> rfl)
  have h1' : 4 ≤ bl := Nat.le_trans (by simp) h1
  cases hpn : placeN d.cache[node] a.s with
  | none =>
    have hpr : placeR d.cache[node] a.s = -1 := by rw [placeR, hpn]
    rw [hpr]
    have hact : actD d node a = (d, d.s[a.s.toNat]) := by
      unfold actD
      dsimp only
      rw [if_pos hk, hcd, hpn]
      simp [List.getD_eq_getElem?_getD, hsl]
    rw [hact]
    (repeat' (first | with_reducible (first | refine agr_d (fun hc => ?_) fun hc => ?_ | refine agr_n (fun hc => ?_) fun hc => ?_ | refine acd_d (fun hc => ?_) fun hc => ?_ | refine acd_n (fun hc => ?_) fun hc => ?_ | refine dgr_d (fun hc => ?_) fun hc => ?_ | refine dgr_n (fun hc => ?_) fun hc => ?_ | refine dl_sound _ _ [] [] [] _ _ (fun _ h => absurd h List.not_mem_nil) ?_ | refine conEnd_p (.inl rfl) ?_ | refine conEnd_p (.inr rfl) ?_) | simp (disch := omega) only [go_sem, devV, devB, doV, hk, q1, q2, q3, h3, hsg, Nat.reduceAdd, Nat.reduceSub, Nat.reduceMul, Nat.reduceLeDiff, Nat.reduceLT, Nat.reduceEqDiff, Int.reduceLT, Int.reduceLE, Int.reduceToNat, Int.reduceAdd, Int.reduceSub, Int.reduceMul, Int.reduceEq, Int.reduceNeg, reduceCtorEq, true_and, and_true, Int.toNat_natCast, List.getElem?_map, Option.map_some, List.length_map, List.length_take, List.length_drop, List.length_append, Nat.sub_zero, Int.toNat_zero, List.length_replicate, Bool.true_or, Bool.or_true, Bool.false_or, Bool.or_false, false_implies, implies_true]))
  | some q =>
    obtain ⟨hq, hqs⟩ := placeN_lt hpn
    have hqg : d.cache[node][q]? = some d.cache[node][q] := List.getElem?_eq_getElem hq
    have hpr : placeR d.cache[node] a.s = q := by rw [placeR, hpn]
    rw [hpr]
    have hact : actD d node a = (d, d.cache[node][q].t) := by
      unfold actD
      dsimp only
      rw [if_pos hk, hcd, hpn]
      simp [List.getD_eq_getElem?_getD, hq]
    rw [hact]
    (repeat' (first | with_reducible (first | refine agr_d (fun hc => ?_) fun hc => ?_ | refine agr_n (fun hc => ?_) fun hc => ?_ | refine acd_d (fun hc => ?_) fun hc => ?_ | refine acd_n (fun hc => ?_) fun hc => ?_ | refine dgr_d (fun hc => ?_) fun hc => ?_ | refine dgr_n (fun hc => ?_) fun hc => ?_ | refine dl_sound _ _ [] [] [] _ _ (fun _ h => absurd h List.not_mem_nil) ?_ | refine conEnd_p (.inl rfl) ?_ | refine conEnd_p (.inr rfl) ?_) | simp (disch := omega) only [go_sem, devV, devB, doV, hk, q1, q2, q3, h3, hsg, hqg, Nat.reduceAdd, Nat.reduceSub, Nat.reduceMul, Nat.reduceLeDiff, Nat.reduceLT, Nat.reduceEqDiff, Int.reduceLT, Int.reduceLE, Int.reduceToNat, Int.reduceAdd, Int.reduceSub, Int.reduceMul, Int.reduceEq, Int.reduceNeg, reduceCtorEq, true_and, and_true, Int.toNat_natCast, List.getElem?_map, Option.map_some, List.length_map, List.length_take, List.length_drop, List.length_append, Nat.sub_zero, Int.toNat_zero, List.length_replicate, Bool.true_or, Bool.or_true, Bool.false_or, Bool.or_false, false_implies, implies_true]))
end Go.Proofs.Ytllijcnbjbfabaa

namespace Go.Proofs.Ytllijcnbjbfabaa
open Go.RowKit
set_option linter.unusedSimpArgs false
set_option linter.unusedVariables false

theorem add_none (g o n : Nat) : (⟨g, o, none⟩ : Addr).add n = ⟨g, o + n, none⟩ := by
  unfold Addr.add
  split
  · rename_i h; subst h; rfl
  · rfl
section
variable {mu : Mu} {S : Stab} {w : World} {v : Value}
theorem vr_int {k : IntKind} {n : Int} (h : VR mu S w (.int k n) v) : v = .int k n := VR.int_inv h
theorem vrs_nil {cs : List Value} (h : VRs mu S w [] cs) : cs = [] := by
  have := h.1
  cases cs with
  | nil => rfl
  | cons a l => simp at this
theorem vrs_cons {x : V} {xs : List V} {cs : List Value} (h : VRs mu S w (x :: xs) cs) : ∃ u us, cs = u :: us ∧ VR mu S w x u ∧ VRs mu S w xs us := by
  obtain ⟨h1, h2⟩ := h
  cases cs with
  | nil => simp at h1
  | cons a l => exact ⟨a, l, rfl, h2 0 (by simp) (by simp), by simpa using h1, fun j hj hj' => h2 (j + 1) (by simpa using hj) (by simpa using hj')⟩
theorem vr_row {es : List (List V)} {fl : Bool} {sz : Nat} (hb : ∀ g i, S g i → g < w.heap.size) (h : VR mu S w (.sl es fl) v) (hsz : ∀ r ∈ es, r.length = sz) (h0 : 0 < sz) :
    ∃ A c, v = .slice A es.length c ∧ (0 < es.length → ∃ ad, A = some ad ∧ ad.block < w.heap.size ∧ ∀ i (hi : i < es.length) j (hj : j < es[i].length), ∃ u, w.cell? (ad.add (i * sz + j)) = some u ∧ VR mu S w es[i][j] u) := by
  generalize hx : V.sl es fl = x at h
  cases h with
  | sl0 full A c hf => cases hx; exact ⟨A, c, rfl, fun h => absurd h (by simp)⟩
  | sl1 es' full g o c sz' vals hne hc hf hlen hS hcell hone hv =>
    cases hx
    have hs : sz = sz' := by rw [← hsz _ (List.getElem_mem hne), hlen 0 hne]
    subst hs
    refine ⟨_, _, rfl, fun _ => ⟨_, rfl, hb g _ (hS 0 0 hne h0), fun i hi j hj => ⟨vals i j, ?_, hv i hi j hj⟩⟩⟩
    rw [add_none, ← Nat.add_assoc]
    exact hcell i j hi (by rw [← hlen i hi]; exact hj)
  | _ => cases hx
theorem vr_in {l : List Int} {fl : Bool} (hb : ∀ g i, S g i → g < w.heap.size) (h : VR mu S w (.sl (l.map inV) fl) v) : ∃ A c, v = .slice A l.length c ∧ Reads w w.heap.size 1 A l.length (icells l) := by
  obtain ⟨A, c, hv, hr⟩ := vr_row (sz := 1) hb h (fun r hr => by obtain ⟨p, _, rfl⟩ := List.mem_map.1 hr; rfl) (by omega)
  replace hv : v = .slice A l.length c := by rw [hv, List.length_map]
  refine ⟨A, c, hv, by simp [icells], fun hn => ?_⟩
  obtain ⟨ad, hA, hlt, hc⟩ := hr (by simpa using hn)
  refine ⟨ad, hA, hlt, fun j u hu => ?_⟩
  have hj : j < l.length := by
    rcases Nat.lt_or_ge j l.length with h | h
    · exact h
    · rw [List.getElem?_eq_none (by simpa [icells] using h)] at hu; cases hu
  have hu' : u = .int .i64 l[j] := by
    simp [icells, hj] at hu
    exact hu.symm
  subst hu'
  obtain ⟨u, h1, h2⟩ := hc j (by simpa using hj) 0 (by simp [inV])
  rw [show ad.add j = ad.add (j * 1 + 0) from congrArg _ (by omega), h1]
  simp only [List.getElem_map] at h2
  rw [VR.int_inv h2]
/-- a row of the callee's own, as a value -/
theorem vr_own {base : Nat} {e : TypeId} {size n : Nat} {xs : List Value} (h : w.ownsRow base e size v n xs) (es : List (List V)) (hn : es.length = n) (hrow : ∀ r ∈ es, r.length = size)
    (hx : ∀ i (hi : i < es.length) j (hj : j < es[i].length), ∃ u, xs[i * size + j]? = some u ∧ u.oneCell' = true ∧ VR mu S w es[i][j] u) (hS : ∀ g i, base ≤ g → g < w.heap.size → S g i) : VR mu S w (.sl es false) v := by
  obtain ⟨hlen, h⟩ := h
  rcases h with ⟨rfl, h0⟩ | ⟨g, cap, cur, rfl, hb, hh, hnc, hcap, hsz, htk⟩
  · have : es = [] := List.length_eq_zero_iff.1 (by omega)
    subst this
    exact .sl0 false none 0 (by simp)
  · have hg : g < w.heap.size := by
      rcases Nat.lt_or_ge g w.heap.size with h | h
      · exact h
      · rw [Array.getElem?_eq_none h] at hh; cases hh
    subst hn
    rcases Nat.eq_zero_or_pos es.length with h0 | h0
    · have : es = [] := List.length_eq_zero_iff.1 h0
      subst this
      exact .sl0 false _ _ (by simp)
    · have hin : ∀ i j, i < es.length → j < size → i * size + j < es.length * size := fun i j hi hj => by
        have : (i + 1) * size ≤ es.length * size := Nat.mul_le_mul_right _ hi
        rw [Nat.add_mul] at this
        omega
      have hcell : ∀ k, w.cell? ⟨g, k, none⟩ = cur[k]? := fun k => by
        unfold World.cell?
        simp [hh]
      refine .sl1 es false g 0 cap size (fun i j => (xs[i * size + j]?).getD Go.undef) h0 hnc (by simp) (fun i hi => hrow _ (List.getElem_mem hi)) (fun i j _ _ => hS g _ hb hg) (fun i j hi hj => ?_) (fun i j hi hj => ?_) (fun i hi j hj => ?_)
      · obtain ⟨u, h1, h2, h3⟩ := hx i hi j (by rw [hrow _ (List.getElem_mem hi)]; exact hj)
        rw [hcell, Nat.zero_add, h1]
        rw [← htk, List.getElem?_take, if_pos (hin i j hi hj)] at h1
        rw [Array.getElem?_toList] at h1
        exact h1
      · obtain ⟨u, h1, h2, h3⟩ := hx i hi j (by rw [hrow _ (List.getElem_mem hi)]; exact hj)
        rw [h1]; exact h2
      · obtain ⟨u, h1, h2, h3⟩ := hx i hi j hj
        rw [h1]; exact h3
end
section
variable {P : Program} {ops : Array Oper} {h : FuncId} {d : Option Tmp} {l : List Oper} {fr : Fr} {st : St} {args : List V}
end
end Go.Proofs.Ytllijcnbjbfabaa

namespace Go.Proofs.Ytllijcnbjbfabaa
open Go.RowKit Go.Maps Go.Sort Go.Shelf
set_option linter.unusedSimpArgs false
set_option linter.unusedVariables false

theorem Keys_con (m : Nat) (st0 : St) : ICon Try.prog 61 [.mp m] st0 fun r st => ∃ bx, r = .fn (.func 90) [] [.ptr0 bx] ∧ st0.c ≤ bx ∧ bx < st.c ∧ st.get bx = some ⟨[[.mp m]], 1, 0⟩ ∧ ∀ y, y < st0.c → st.get y = st0.get y := by
  refine ⟨⟨_, Try.func61, by decide, rfl⟩, fun mu S B w vargs h1 h2 h3 hx => ?_⟩
  obtain ⟨u, us, rfl, e1, hx⟩ := vrs_cons hx
  obtain rfl := vrs_nil hx
  have hmap : ∃ mb, u = .map mb := by
    generalize hv : V.mp m = v at e1
    cases e1 with
    | mp b L => exact ⟨_, rfl⟩
    | undef => cases hv
    | _ => cases hv
  obtain ⟨mb, rfl⟩ := hmap
  have cK : CallsIn Fence.wide 5 Try.prog 61 #[.map mb] w fun e w' => e = .returned (.func (.func 90) #[] #[.pointer (some ⟨w.heap.size, 0, none⟩)]) ∧ w' = w.alloc (.cells #[.map mb] 111) := AnyZI.keys_in Try.keysA Fence.wide 5 trivial rfl mb w
  refine ((callsIn_wide (n := 5)).1 cK).mono ?_
  rintro e w' ⟨rfl, rfl⟩
  obtain ⟨k1, k2⟩ := new_one h1 h2.fr0 h3 111 (cs := [.mp m]) (vs := [.map mb]) (VRs.cons e1 VRs.nil) (fun u hu => by
    obtain rfl : u = .map mb := by simpa using hu
    rfl)
  refine ⟨_, _, _, _, S, rfl, ⟨st0.c, rfl, Nat.le_refl _, Nat.lt_succ_self _, by rw [St.get_new, if_pos rfl]; rfl, fun y hy => by rw [St.get_new, if_neg (by omega)]⟩, k1, fun b hb => ?_, ?_, (Out.alloc h1 h2.fr0 h3 _ _).ev⟩
  · have hb' : st0.c + 1 ≤ b := hb
    obtain ⟨q1, q2⟩ := h2 b (by omega)
    exact ⟨by rw [Mu.put_other (by omega)]; exact q1, by rw [St.get_new, if_neg (by omega)]; exact q2⟩
  · exact .fn _ _ _ [] [_] rfl rfl (fun _ h => absurd h (by simp)) fun j hj hj' => by
      obtain rfl : j = 0 := by simpa using hj
      exact .ptr0 _ _ (Mu.put_same _ _ _) rfl rfl
/-- whatever stands there -/
def anyR (v : Value) : Option (DataW Unit × List MemPlace) := some (.nil, [])
theorem rows_keys {mu : Mu} {S : Stab} {w : World} : ∀ {K : List Int} {l : List MapEntry}, RowsAre mu S w (bmR K) l → l.map (·.key) = K.map fun n => Value.int .i64 n
  | [], [], _ => rfl
  | n :: K, e :: l, ⟨h1, _, h3⟩ => by
    rw [List.map_cons, List.map_cons, h1.int_inv, rows_keys h3]
theorem sortsA (m : Nat) : AnyZI.SortsIn Try.prog Try.sortedA_ren Fence.wide m :=
  ⟨fun blk off cap ss W hH hblk hsz => callsIn_wide.2 (AnyM.slices_Sort_int Try.sortA blk off cap ss W hH hblk hsz),
   fun p cap W => callsIn_wide.2 (AnyM.slices_Sort_int_none Try.sortA p cap W)⟩
def sortI (K : List Int) : List Int := K.mergeSort fun x y => decide (x ≤ y)
theorem sortI_perm {K L : List Int} (h : K.Perm L) : sortI K = sortI L := by
  have tr : ∀ a b c : Int, decide (a ≤ b) = true → decide (b ≤ c) = true → decide (a ≤ c) = true := fun a b c h1 h2 => decide_eq_true (Int.le_trans (of_decide_eq_true h1) (of_decide_eq_true h2))
  have to : ∀ a b : Int, (decide (a ≤ b) || decide (b ≤ a)) = true := fun a b => by rcases Int.le_total a b with h | h <;> simp [h]
  have s1 := List.pairwise_mergeSort tr to K
  have s2 := List.pairwise_mergeSort tr to L
  have p : (sortI K).Perm (sortI L) := (List.mergeSort_perm K _).trans (h.trans (List.mergeSort_perm L _).symm)
  exact p.eq_of_pairwise (fun a b _ _ h1 h2 => Int.le_antisymm (of_decide_eq_true h1) (of_decide_eq_true h2)) s1 s2
set_option maxRecDepth 100000 in
theorem Sorted_con (K : List Int) (hK : ∀ x ∈ K, -4611686018427387904 ≤ x ∧ x ≤ 4611686018427387904) (hl : K.length ≤ 1000001) (bx m lkx lkm : Nat) (st0 : St) (hbx : st0.get bx = some ⟨[[.mp m]], 1, lkx⟩) (hm : st0.get m = some ⟨bmR K, 2, lkm⟩) :
    ICon Try.prog 60 [.fn (.func 90) [] [.ptr0 bx]] st0 fun r st => r = .sl ((sortI K).map inV) false ∧ st = st0 := by
  refine ⟨⟨_, Try.func60, by decide, rfl⟩, fun mu S B w vargs h1 h2 h3 hx => ?_⟩
  obtain ⟨u, us, rfl, e1, hx⟩ := vrs_cons hx
  obtain rfl := vrs_nil hx
  have hptr : ∃ L, mu bx = some L ∧ L.mp = false ∧ L.o = 0 ∧ u = .func (.func 90) #[] #[.pointer (some ⟨L.g, 0, none⟩)] := by
    cases e1 with
    | fn _ _ _ fv cv hl1 hl2 hv1 hv2 =>
      obtain rfl := List.eq_nil_of_length_eq_zero hl1.symm
      match cv, hl2, hv2 with
      | [c], _, hv2 =>
        have hc := hv2 0 (by simp) (by simp)
        simp only [List.getElem_cons_zero] at hc
        cases hc with
        | ptr0 _ L hL hmp h0 => exact ⟨L, hL, hmp, h0, rfl⟩
  obtain ⟨L, hL, hmp, h0, rfl⟩ := hptr
  obtain ⟨L', hL', hbr, _⟩ := h1.loc bx _ hbx
  rw [hL] at hL'; injection hL' with hL'; subst hL'
  obtain ⟨v, hc1, _, hc3⟩ := hbr.cell hmp 0 (by simp) 0 (by simp)
  simp only [List.getElem_cons_zero] at hc3
  obtain ⟨Lm, ents, clock, hLm, hmm, rfl, hBm, hltm, hh, hst, hrows⟩ := mp_map h1 hm hc3
  rw [h0] at hc1
  have hkeys := rows_keys hrows
  have hsz : ents.size = K.length := by
    have := congrArg List.length hkeys
    simpa using this
  have hrd : ∀ x ∈ ents.toList, ∃ n ∈ K, x.key = .int .i64 n := fun x hx => by
    have : x.key ∈ ents.toList.map (·.key) := List.mem_map.2 ⟨x, hx, rfl⟩
    rw [hkeys] at this
    obtain ⟨n, hn, e⟩ := List.mem_map.1 this
    exact ⟨n, hn, e.symm⟩
  have hkey : ∀ n ∈ K, keyOf Try.prog 3 (.int .i64 n) = some (.int .i64 n) := fun n hn => by
    obtain ⟨q1, q2⟩ := hK n hn
    have hu : Try.prog.underlying 3 = some (.int .i64) := und_3
    have hw : (Lit.int .i64 n).wf = true := by
      simp [Lit.wf, IntKind.min, IntKind.max, IntKind.signed, IntKind.bits]
      omega
    simp [keyOf, hu, mapKey, hw]
  have hrg : ∀ x ∈ ents.toList, ∃ n, x.key = .int .i64 n ∧ WideElems.rd Try.prog 3 anyR x = some (.int .i64 n, .nil) := fun x hx => by
    obtain ⟨n, hn, e⟩ := hrd x hx
    exact ⟨n, e, by unfold WideElems.rd; rw [e, hkey n hn]; rfl⟩
  have hown : w.ownsMap Try.prog 3 anyR Lm.g ents.size (.map ((ents.toList.map (WideElems.rg Try.prog 3 anyR)).foldr DataW.insert [])) :=
    ⟨ents, clock, hh, ⟨by unfold maxLen; omega, hst, fun x hx => by obtain ⟨n, _, e⟩ := hrg x hx; exact ⟨_, e⟩⟩, Nat.le_refl _, rfl⟩
  have hint : (intKeys (.map ((ents.toList.map (WideElems.rg Try.prog 3 anyR)).foldr DataW.insert []) : DataW Unit)).Perm K := by
    have e : (ents.toList.map (WideElems.rg Try.prog 3 anyR)).map (fun p => Go.intOf p.1) = K := by
      have e2 : ∀ (l : List MapEntry) (K : List Int), l.map (·.key) = K.map (fun n => Value.int .i64 n) → (∀ x ∈ l, ∃ n, x.key = .int .i64 n ∧ WideElems.rd Try.prog 3 anyR x = some (.int .i64 n, .nil)) → (l.map (WideElems.rg Try.prog 3 anyR)).map (fun p => Go.intOf p.1) = K := by
        intro l
        induction l with
        | nil => intro K hk _; cases K with
          | nil => rfl
          | cons a K => simp at hk
        | cons x l ih => intro K hk hx; cases K with
          | nil => simp at hk
          | cons a K =>
            simp only [List.map_cons, List.cons.injEq] at hk ⊢
            obtain ⟨n, e1, e3⟩ := hx x (by simp)
            rw [e1] at hk
            injection hk.1 with _ hk1
            refine ⟨?_, ih K hk.2 fun y hy => hx y (List.mem_cons_of_mem _ hy)⟩
            unfold WideElems.rg
            rw [e3, ← hk1]
            rfl
      exact e2 _ _ hkeys hrg
    have p := (WideShapes.sorted_perm (ents.toList.map (WideElems.rg Try.prog 3 anyR))).map (fun p => Go.intOf p.1)
    rw [e] at p
    exact p
  have hsize : Maps.size (.map ((ents.toList.map (WideElems.rg Try.prog 3 anyR)).foldr DataW.insert []) : DataW Unit) = K.length := by
    have := hint.length_eq
    simpa [intKeys, Maps.size] using this
  have hblt : L.g < w.heap.size := by
    rcases Nat.lt_or_ge L.g w.heap.size with h | h
    · exact h
    · unfold World.cell? at hc1
      rw [Array.getElem?_eq_none h] at hc1
      cases hc1
  have hseq : SeqGives Fence.wide 2 Try.prog 90 #[.pointer (some ⟨L.g, 0, none⟩)] encZ _ _ w :=
    AnyZI.keys_gives (ρ := Try.keysA_ren) { Try.keysA with } Fence.wide 2 trivial rfl (by omega) L.g Lm.g ents.size _ w hblt (by simpa using hc1) hown
  have cS := AnyZI.sorted_in Try.sortedA Fence.wide 5 trivial trivial trivial trivial rfl (by omega) (sortsA _) (enters_of Try.func89 (by kernel_rfl) rfl) 90 #[.pointer (some ⟨L.g, 0, none⟩)] trivial (enters_of Try.func90 (by kernel_rfl) rfl) _ _ (by rw [hsize]; unfold maxLen; omega) (by rw [hsize]; omega) w hseq
  change CallsIn _ _ Try.prog 60 _ _ _ at cS
  refine ((callsIn_wide (n := 5)).1 cS).mono ?_
  rintro e w' ⟨v, ss, rfl, hperm, hrow, _, hbel⟩
  have hss := sortI_perm (hperm.trans hint)
  have hssl : ss.length = K.length := (hperm.trans hint).length_eq
  have hvr : VR mu (fun g i => S g i ∨ (w.heap.size ≤ g ∧ g < w'.heap.size)) w' (.sl ((sortI K).map inV) false) v := by
    have hl1 : (sortI K).length = K.length := (List.mergeSort_perm K _).length_eq
    refine vr_own hrow _ (by rw [List.length_map, hl1, hssl]) (fun r hr => by obtain ⟨n, _, rfl⟩ := List.mem_map.1 hr; rfl) (fun i hi j hj => ?_) (fun g i h3 h4 => .inr ⟨h3, h4⟩)
    have hi' : i < (sortI K).length := by simpa using hi
    have hj0 : j = 0 := by simpa [inV] using hj
    subst hj0
    refine ⟨.int .i64 (sortI K)[i], ?_, rfl, ?_⟩
    · rw [Nat.mul_one, Nat.add_zero]
      have : (ss.mergeSort fun x y => decide (x ≤ y)) = sortI K := hss
      rw [this, List.getElem?_map, List.getElem?_eq_getElem hi']
      rfl
    · simp only [List.getElem_map, inV, List.getElem_cons_zero]
      exact .int _ _
  have hsr := h1.keep (S' := fun g i => S g i ∨ (w.heap.size ≤ g ∧ g < w'.heap.size)) hbel (fun _ _ h => .inl h) (fun g i hs => hs.imp id fun h => h.1) (fun g i hs => hs.elim (fun h => Nat.lt_of_lt_of_le (h1.sb g i h) hbel.size) fun h => h.2)
  exact ⟨v, _, st0, mu, _, rfl, ⟨rfl, rfl⟩, hsr, h2, hvr, ⟨fun _ _ h => h, fun _ _ h => .inl h, fun g i hs => hs.imp id fun h => Nat.le_trans h3 h.1, fun g i hs => hbel.cell (p := ⟨g, i, none⟩) (h1.sb g i hs), hbel.mono h3⟩⟩
end Go.Proofs.Ytllijcnbjbfabaa

namespace Go.Proofs.Ytllijcnbjbfabaa
open Go.RowKit
set_option linter.unusedSimpArgs false
set_option linter.unusedVariables false

/-- keys put into a set, one behind the other -/
def setK (l : List Int) (k : Int) (j : Nat) : List Int := (l.take j).foldl addK [k]
theorem setK_succ {l : List Int} {k : Int} {j : Nat} (h : j < l.length) : setK l k (j + 1) = addK (setK l k j) l[j] := by
  unfold setK
  rw [List.take_succ_eq_append_getElem h, List.foldl_append]
  rfl
theorem addK_nodup {l : List Int} {n : Int} (h : l.Nodup) : (addK l n).Nodup := by
  unfold addK
  split
  · exact h
  · rename_i hn
    rw [List.nodup_append]
    exact ⟨h, by simp, fun a ha b hb => by
      obtain rfl : b = n := by simpa using hb
      rintro rfl
      exact hn ha⟩
theorem foldK_mem (l : List Int) : ∀ (a : List Int) (x : Int), x ∈ l.foldl addK a ↔ x ∈ a ∨ x ∈ l := by
  induction l with
  | nil => intro a x; simp
  | cons y l ih =>
    intro a x
    rw [List.foldl_cons, ih]
    unfold addK
    split
    · rename_i hy
      constructor
      · rintro (h | h)
        · exact .inl h
        · exact .inr (List.mem_cons_of_mem _ h)
      · rintro (h | h)
        · exact .inl h
        · rcases List.mem_cons.1 h with rfl | h
          · exact .inl hy
          · exact .inr h
    · simp only [List.mem_append, List.mem_cons, List.not_mem_nil, or_false]
      constructor
      · rintro ((h | h) | h)
        · exact .inl h
        · exact .inr (.inl h)
        · exact .inr (.inr h)
      · rintro (h | h | h)
        · exact .inl (.inl h)
        · exact .inl (.inr h)
        · exact .inr h
theorem foldK_nodup (l : List Int) : ∀ (a : List Int), a.Nodup → (l.foldl addK a).Nodup := by
  induction l with
  | nil => intro a h; exact h
  | cons y l ih => intro a h; exact ih _ (addK_nodup h)
theorem foldK_len (l : List Int) : ∀ (a : List Int), (l.foldl addK a).length ≤ a.length + l.length := by
  induction l with
  | nil => intro a; simp
  | cons y l ih =>
    intro a
    have := ih (addK a y)
    have h2 : (addK a y).length ≤ a.length + 1 := by unfold addK; split <;> simp
    simp only [List.foldl_cons, List.length_cons]
    omega
/-- whole numbers that rise -/
def Rise (l : List Int) : Prop := l.Pairwise (· < ·)
theorem rise_at {l : List Int} (h : ∀ s t (hs : s < l.length) (ht : t < l.length), s + 1 = t → l[s] < l[t]) : Rise l := by
  unfold Rise
  rw [List.pairwise_iff_getElem]
  intro i j hi hj hij
  induction j with
  | zero => omega
  | succ j ih =>
    rcases Nat.lt_or_ge i j with h1 | h1
    · have h2 := ih (by omega) h1
      have h3 := h j (j + 1) (by omega) hj rfl
      omega
    · obtain rfl : i = j := by omega
      exact h i (i + 1) hi hj rfl
theorem fen_rise {d : Dev} (h : fenP d d.fen.length) : Rise d.fen := rise_at fun s t hs ht hst => (h t ht ht).2 s hs hst
theorem rise_nodup {l : List Int} (h : Rise l) : l.Nodup := h.imp fun h => by omega
structure FenI (l : List Int) (k : Int) (j : Nat) (p : List Int × Bool) : Prop where
  no : p.2 = false → p.1 = l.take j ∧ ∀ x ∈ l.take j, x < k
  yes : p.2 = true → (∀ x, x ∈ p.1 ↔ x = k ∨ x ∈ l.take j) ∧ Rise p.1 ∧ ∃ x ∈ l.take j, k ≤ x
theorem rise_snoc {l : List Int} {x : Int} (h : Rise l) (hx : ∀ y ∈ l, y < x) : Rise (l ++ [x]) := by
  unfold Rise
  rw [List.pairwise_append]
  exact ⟨h, by simp, fun a ha b hb => by
    obtain rfl : b = x := by simpa using hb
    exact hx a ha⟩
theorem fenI (l : List Int) (k : Int) (hl : Rise l) : ∀ j, j ≤ l.length → FenI l k j (fenceA l k j)
  | 0, _ => ⟨fun _ => ⟨by simp [fenceA], by simp⟩, fun h => by simp [fenceA] at h⟩
  | j + 1, hj => by
    have hjl : j < l.length := by omega
    have ih := fenI l k hl j (by omega)
    have hg : l[j]? = some l[j] := List.getElem?_eq_getElem hjl
    have htk : l.take (j + 1) = l.take j ++ [l[j]] := List.take_succ_eq_append_getElem hjl
    have hlt : ∀ y ∈ l.take j, y < l[j] := fun y hy => by
      obtain ⟨i, hi, rfl⟩ := List.getElem_of_mem hy
      rw [List.getElem_take]
      have hi' : i < j := by simp at hi; omega
      exact (List.pairwise_iff_getElem.1 hl) i j (by omega) hjl hi'
    have hrt : Rise (l.take j) := hl.sublist (List.take_sublist _ _)
    simp only [fenceA, hg]
    cases hd : (fenceA l k j).2 with
    | true =>
      obtain ⟨h1, h2, x0, hx0, hk0⟩ := ih.yes hd
      simp only [Bool.true_or, Bool.true_eq_false, and_false, if_false]
      refine ⟨fun h => by simp at h, fun _ => ⟨fun x => ?_, rise_snoc h2 fun y hy => ?_, x0, by rw [htk]; exact List.mem_append_left _ hx0, hk0⟩⟩
      · rw [htk, List.mem_append, h1, List.mem_append]
        simp only [List.mem_singleton]
        constructor
        · rintro ((h | h) | h)
          · exact .inl h
          · exact .inr (.inl h)
          · exact .inr (.inr h)
        · rintro (h | h | h)
          · exact .inl (.inl h)
          · exact .inl (.inr h)
          · exact .inr h
      · rcases (h1 y).1 hy with rfl | hy
        · have := hlt x0 hx0; omega
        · exact hlt y hy
    | false =>
      obtain ⟨h1, h2⟩ := ih.no hd
      simp only [Bool.false_or]
      by_cases hxk : l[j] = k
      · have e1 : decide (l[j] = k) = true := decide_eq_true hxk
        simp only [e1, Bool.true_eq_false, and_false, if_false, h1]
        refine ⟨fun h => by simp at h, fun _ => ⟨fun x => ?_, rise_snoc hrt hlt, l[j], by rw [htk]; exact List.mem_append_right _ (List.mem_singleton.2 rfl), by omega⟩⟩
        rw [htk]
        simp only [List.mem_append, List.mem_singleton, hxk]
        constructor
        · exact .inr
        · rintro (h | h)
          · exact .inr h
          · exact h
      · have e1 : decide (l[j] = k) = false := decide_eq_false hxk
        simp only [e1, and_true]
        by_cases hkx : k < l[j]
        · rw [if_pos hkx]
          refine ⟨fun h => by simp at h, fun _ => ⟨fun x => ?_, rise_snoc (rise_snoc (by rw [h1]; exact hrt) (by rw [h1]; exact h2)) fun y hy => ?_, l[j], by rw [htk]; exact List.mem_append_right _ (List.mem_singleton.2 rfl), by omega⟩⟩
          · rw [htk, h1]
            simp only [List.mem_append, List.mem_singleton]
            constructor
            · rintro ((h | h) | h)
              · exact .inr (.inl h)
              · exact .inl h
              · exact .inr (.inr h)
            · rintro (h | h | h)
              · exact .inl (.inr h)
              · exact .inl (.inl h)
              · exact .inr h
          · rw [h1] at hy
            rcases List.mem_append.1 hy with hy | hy
            · exact hlt y hy
            · obtain rfl : y = k := by simpa using hy
              exact hkx
        · rw [if_neg hkx]
          refine ⟨fun _ => ⟨by rw [h1, htk], fun x hx => ?_⟩, fun h => by simp at h⟩
          rw [htk] at hx
          rcases List.mem_append.1 hx with hx | hx
          · exact h2 x hx
          · obtain rfl : x = l[j] := by simpa using hx
            omega
theorem fenceR_spec (l : List Int) (k : Int) (hl : Rise l) : (∀ x, x ∈ fenceR l k ↔ x = k ∨ x ∈ l) ∧ Rise (fenceR l k) := by
  have h := fenI l k hl l.length (Nat.le_refl _)
  unfold fenceR
  cases hd : (fenceA l k l.length).2 with
  | true =>
    obtain ⟨h1, h2, _⟩ := h.yes hd
    simp only [hd, if_true]
    rw [List.take_length] at h1
    exact ⟨h1, h2⟩
  | false =>
    obtain ⟨h1, h2⟩ := h.no hd
    rw [List.take_length] at h1 h2
    simp only [hd, Bool.false_eq_true, if_false, h1]
    refine ⟨fun x => ?_, rise_snoc hl h2⟩
    simp only [List.mem_append, List.mem_singleton]
    exact or_comm
theorem sort_fence (l : List Int) (k : Int) (hl : Rise l) : sortI (setK l k l.length) = fenceR l k := by
  obtain ⟨h1, h2⟩ := fenceR_spec l k hl
  unfold setK
  rw [List.take_length]
  have hn := foldK_nodup l [k] (by simp)
  have hp : (l.foldl addK [k]).Perm (fenceR l k) := (List.perm_ext_iff_of_nodup hn (rise_nodup h2)).2 fun x => by rw [foldK_mem, h1]; simp
  rw [sortI_perm hp]
  have tr : ∀ a b c : Int, decide (a ≤ b) = true → decide (b ≤ c) = true → decide (a ≤ c) = true := fun a b c h1 h2 => decide_eq_true (Int.le_trans (of_decide_eq_true h1) (of_decide_eq_true h2))
  exact List.mergeSort_of_pairwise (h2.imp fun h => decide_eq_true (by omega))
theorem fenceR_len1 (l : List Int) (k : Int) (hl : Rise l) : (fenceR l k).length ≤ l.length + 1 := by
  rw [← sort_fence l k hl]
  have h1 := (List.mergeSort_perm (setK l k l.length) fun x y => decide (x ≤ y)).length_eq
  have h2 := foldK_len (l.take l.length) [k]
  unfold sortI
  rw [h1]
  unfold setK
  rw [List.take_length] at h2 ⊢
  simp at h2
  omega
end Go.Proofs.Ytllijcnbjbfabaa

namespace Go.Proofs.Ytllijcnbjbfabaa
open Go.RowKit
set_option linter.unusedSimpArgs false
set_option linter.unusedVariables false

set_option maxRecDepth 100000 in
set_option maxHeartbeats 16000000 in
theorem dDo_5 (d : Dev) (hd : DevOk d) (node : Nat) (a : Ac) (ha : AcOk a) (h : Done d node a) (hk : a.k = 5) : Con Try.prog 20 [devV d, .int .i64 node, acV a] (· = doV (doR d node a)) := by
  have hR := refuses_con d hd node a ha
  rw [refuseR_0 h.A h.B h.C h.D] at hR
  simp only [acV, hk] at hR
  rw [h.ok]
  have hcn := h.c
  have hkey : givenB d a.key = true := by
    cases hg : givenB d a.key with
    | true => rfl
    | false => exact absurd (.inr (.inl ⟨hk, hg⟩)) h.B
  have hk16 := of_decide_eq_true hkey
  have hact : actD d node a = ({ d with fen := fenceR d.fen a.key }, ⟨#[]⟩) := by
    unfold actD
    simp [hk]
  rw [hact]
  have hrise := fen_rise h.may.f
  have hb1 : ∀ j, ∀ x ∈ setK d.fen a.key j, -4611686018427387904 ≤ x ∧ x ≤ 4611686018427387904 := fun j x hx => by
    unfold setK at hx
    rw [foldK_mem] at hx
    rcases hx with hx | hx
    · obtain rfl : x = a.key := by simpa using hx
      have := h.may.n1
      omega
    · obtain ⟨i, hi, rfl⟩ := List.getElem_of_mem (List.mem_of_mem_take hx)
      exact hd.fi i hi
  have hb2 : ∀ j, j ≤ d.fen.length → (setK d.fen a.key j).length ≤ 1000001 := fun j hj => by
    have := foldK_len (d.fen.take j) [a.key]
    have := hd.f
    unfold setK
    simp at *
    omega
  refine con_of_awp Try.func20 rfl mixed (by decide) rfl (by kernel_rfl) rfl ?_
  (repeat' (first | with_reducible (first | refine agr_d (fun hc => ?_) fun hc => ?_ | refine agr_n (fun hc => ?_) fun hc => ?_ | refine acd_d (fun hc => ?_) fun hc => ?_ | refine acd_n (fun hc => ?_) fun hc => ?_ | refine dgr_d (fun hc => ?_) fun hc => ?_ | refine dgr_n (fun hc => ?_) fun hc => ?_ | refine dl_sound _ _ [] [] [] _ _ (fun _ h => absurd h List.not_mem_nil) ?_ | refine ac1_sc mny (fzs_three (fz_tpm (sz := 5) (lk := 0) ?_ (by (simp only [List.nil_append, List.cons_append, List.append_nil, List.forall_mem_cons, List.not_mem_nil, false_implies, implies_true, and_true, true_and, plain_agg, plain_tp, plain_fn, plain_tup, plain_int, plain_bool, plain_str, plain_nilp, plain_nilfn, plain_undef, plain_dev, plain_pr, plain_tx, plain_in, plain_cc]))) (.plain _ (.int _ _)) (.plain _ (by (simp only [List.nil_append, List.cons_append, List.append_nil, List.forall_mem_cons, List.not_mem_nil, false_implies, implies_true, and_true, true_and, plain_agg, plain_tp, plain_fn, plain_tup, plain_int, plain_bool, plain_str, plain_nilp, plain_nilfn, plain_undef, plain_dev, plain_pr, plain_tx, plain_in, plain_cc])))) hR (.int _ _) ?_) | simp (disch := omega) only [go_sem, devV, doV, hk, Nat.reduceAdd, Nat.reduceSub, Nat.reduceMul, Nat.reduceLeDiff, Nat.reduceLT, Nat.reduceEqDiff, Int.reduceLT, Int.reduceLE, Int.reduceToNat, Int.reduceAdd, Int.reduceSub, Int.reduceMul, Int.reduceEq, Int.reduceNeg, reduceCtorEq, true_and, and_true, Int.toNat_natCast, List.getElem?_map, Option.map_some, List.length_map, List.length_take, List.length_drop, List.length_append, Nat.sub_zero, Int.toNat_zero, List.length_replicate, Bool.true_or, Bool.or_true, Bool.false_or, Bool.or_false, false_implies, implies_true]))
  refine ac1_i (cut_con d hd 3 _ (by simp (disch := omega) only [go_sem, Nat.reduceAdd, Nat.reduceSub, Nat.reduceMul, Nat.reduceLeDiff, Nat.reduceLT, Nat.reduceEqDiff, Int.reduceLT, Int.reduceLE, Int.reduceToNat, Int.reduceAdd, Int.reduceSub, Int.reduceMul, Int.reduceEq, Int.reduceNeg, reduceCtorEq, true_and, and_true, Int.toNat_natCast, List.getElem?_map, Option.map_some, List.length_map, List.length_take, List.length_drop, List.length_append, Nat.sub_zero, Int.toNat_zero, List.length_replicate, Bool.true_or, Bool.or_true, Bool.false_or, Bool.or_false, false_implies, implies_true] <;> rfl) (by simp (disch := omega) only [go_sem, Nat.reduceAdd, Nat.reduceSub, Nat.reduceMul, Nat.reduceLeDiff, Nat.reduceLT, Nat.reduceEqDiff, Int.reduceLT, Int.reduceLE, Int.reduceToNat, Int.reduceAdd, Int.reduceSub, Int.reduceMul, Int.reduceEq, Int.reduceNeg, reduceCtorEq, true_and, and_true, Int.toNat_natCast, List.getElem?_map, Option.map_some, List.length_map, List.length_take, List.length_drop, List.length_append, Nat.sub_zero, Int.toNat_zero, List.length_replicate, Bool.true_or, Bool.or_true, Bool.false_or, Bool.or_false, false_implies, implies_true]) node hcn a.s) ?_
  rintro _ ⟨g, c⟩ ⟨bl, rfl, h1, h2, h3, h4⟩
  dsimp only at h1 h2 h3 h4
  have q1 : g 1 = some ⟨[[.int .i8 5, .int .i64 a.s, .str a.b, .int .i64 a.key]], 4, 0⟩ := (h4 1 (by simp)).trans (by simp (disch := omega) only [go_sem, hk, Nat.reduceAdd, Nat.reduceSub, Nat.reduceMul, Nat.reduceLeDiff, Nat.reduceLT, Nat.reduceEqDiff, Int.reduceLT, Int.reduceLE, Int.reduceToNat, Int.reduceAdd, Int.reduceSub, Int.reduceMul, Int.reduceEq, Int.reduceNeg, reduceCtorEq, true_and, and_true, Int.toNat_natCast, List.getElem?_map, Option.map_some, List.length_map, List.length_take, List.length_drop, List.length_append, Nat.sub_zero, Int.toNat_zero, List.length_replicate, Bool.true_or, Bool.or_true, Bool.false_or, Bool.or_false, false_implies, implies_true] <;> rfl)
  have q2 : g 2 = some ⟨[[.sl [] true, .sl [] true, .sl [] true, .int .i64 0, .sl [] true]], 5, 0⟩ := (h4 2 (by simp)).trans (by simp (disch := omega) only [go_sem, Nat.reduceAdd, Nat.reduceSub, Nat.reduceMul, Nat.reduceLeDiff, Nat.reduceLT, Nat.reduceEqDiff, Int.reduceLT, Int.reduceLE, Int.reduceToNat, Int.reduceAdd, Int.reduceSub, Int.reduceMul, Int.reduceEq, Int.reduceNeg, reduceCtorEq, true_and, and_true, Int.toNat_natCast, List.getElem?_map, Option.map_some, List.length_map, List.length_take, List.length_drop, List.length_append, Nat.sub_zero, Int.toNat_zero, List.length_replicate, Bool.true_or, Bool.or_true, Bool.false_or, Bool.or_false, false_implies, implies_true] <;> rfl)
  have q3 : g 3 = some (devB d) := (h4 3 (by simp)).trans (by simp (disch := omega) only [go_sem, Nat.reduceAdd, Nat.reduceSub, Nat.reduceMul, Nat.reduceLeDiff, Nat.reduceLT, Nat.reduceEqDiff, Int.reduceLT, Int.reduceLE, Int.reduceToNat, Int.reduceAdd, Int.reduceSub, Int.reduceMul, Int.reduceEq, Int.reduceNeg, reduceCtorEq, true_and, and_true, Int.toNat_natCast, List.getElem?_map, Option.map_some, List.length_map, List.length_take, List.length_drop, List.length_append, Nat.sub_zero, Int.toNat_zero, List.length_replicate, Bool.true_or, Bool.or_true, Bool.false_or, Bool.or_false, false_implies, implies_true] <;> rfl)
  have h1' : 4 ≤ bl := Nat.le_trans (by simp) h1
  have hpn : putRow (.int .i64 a.key) (.bool true) [] = bmR (setK d.fen a.key 0) := rfl
  have hfl := hd.f
  (repeat' (first | with_reducible (first | refine agr_d (fun hc => ?_) fun hc => ?_ | refine agr_n (fun hc => ?_) fun hc => ?_ | refine acd_d (fun hc => ?_) fun hc => ?_ | refine acd_n (fun hc => ?_) fun hc => ?_ | refine dgr_d (fun hc => ?_) fun hc => ?_ | refine dgr_n (fun hc => ?_) fun hc => ?_ | refine dl_sound _ _ [] [] [] _ _ (fun _ h => absurd h List.not_mem_nil) ?_) | simp (disch := omega) only [go_sem, devV, devB, doV, hk, q1, q2, q3, h3, List.all_nil, hpn, Nat.reduceAdd, Nat.reduceSub, Nat.reduceMul, Nat.reduceLeDiff, Nat.reduceLT, Nat.reduceEqDiff, Int.reduceLT, Int.reduceLE, Int.reduceToNat, Int.reduceAdd, Int.reduceSub, Int.reduceMul, Int.reduceEq, Int.reduceNeg, reduceCtorEq, true_and, and_true, Int.toNat_natCast, List.getElem?_map, Option.map_some, List.length_map, List.length_take, List.length_drop, List.length_append, Nat.sub_zero, Int.toNat_zero, List.length_replicate, Bool.true_or, Bool.or_true, Bool.false_or, Bool.or_false, false_implies, implies_true]))
  refine awp_for d.fen.length (fun j fr st => ∃ m, ev fr (.tmp 6) = .ptr 2 0 0 ∧ ev fr (.tmp 7) = .str ⟨#[]⟩ ∧ ev fr (.tmp 9) = .ptr 3 0 0 ∧ ev fr (.tmp 14) = .mp m ∧ ev fr (.tmp 123) = .sl (d.fen.map inV) false ∧ ev fr (.tmp 124) = .int .i64 d.fen.length ∧ ev fr (.tmp 125) = .int .i64 j ∧
    st.get 2 = some ⟨[[.sl [] true, .sl [] true, .sl [] true, .int .i64 0, .sl [] true]], 5, 0⟩ ∧ st.get 3 = some (devB d) ∧ st.get m = some ⟨bmR (setK d.fen a.key j), 2, 0⟩ ∧ 3 < m ∧ m < st.c) ?_ ?_
  · refine ⟨c + 1 + 1, ?_, ?_, ?_, ?_, ?_, ?_, ?_, ?_, ?_, ?_, ?_, ?_⟩ <;> (first | omega | simp (disch := omega) only [go_sem, q2, q3, Nat.reduceAdd, Nat.reduceSub, Nat.reduceMul, Nat.reduceLeDiff, Nat.reduceLT, Nat.reduceEqDiff, Int.reduceLT, Int.reduceLE, Int.reduceToNat, Int.reduceAdd, Int.reduceSub, Int.reduceMul, Int.reduceEq, Int.reduceNeg, reduceCtorEq, true_and, and_true, Int.toNat_natCast, List.getElem?_map, Option.map_some, List.length_map, List.length_take, List.length_drop, List.length_append, Nat.sub_zero, Int.toNat_zero, List.length_replicate, Bool.true_or, Bool.or_true, Bool.false_or, Bool.or_false, false_implies, implies_true]) <;> first | rfl | omega
  clear h1 h2 h3 h4 q1 q2 q3 h1'
  rintro j fr st hj ⟨m, h6, h7, h9, h14, h123, h124, h125, q2, q3, hm, hm3, hmc⟩
  by_cases hlt : j < d.fen.length
  · have hgt : d.fen[j]? = some d.fen[j] := List.getElem?_eq_getElem hlt
    have hs := setK_succ (k := a.key) hlt
    (repeat' (first | with_reducible (first | refine agr_d (fun hc => ?_) fun hc => ?_ | refine agr_n (fun hc => ?_) fun hc => ?_ | refine acd_d (fun hc => ?_) fun hc => ?_ | refine acd_n (fun hc => ?_) fun hc => ?_ | refine dgr_d (fun hc => ?_) fun hc => ?_ | refine dgr_n (fun hc => ?_) fun hc => ?_ | refine dl_sound _ _ [] [] [] _ _ (fun _ h => absurd h List.not_mem_nil) ?_ | refine conEnd_p (.inl rfl) ?_ | refine conEnd_p (.inr rfl) ?_) | simp (disch := omega) only [go_sem, h6, h7, h9, h14, h123, h124, h125, q2, q3, hm, hgt, Nat.reduceAdd, Nat.reduceSub, Nat.reduceMul, Nat.reduceLeDiff, Nat.reduceLT, Nat.reduceEqDiff, Int.reduceLT, Int.reduceLE, Int.reduceToNat, Int.reduceAdd, Int.reduceSub, Int.reduceMul, Int.reduceEq, Int.reduceNeg, reduceCtorEq, true_and, and_true, Int.toNat_natCast, List.getElem?_map, Option.map_some, List.length_map, List.length_take, List.length_drop, List.length_append, Nat.sub_zero, Int.toNat_zero, List.length_replicate, Bool.true_or, Bool.or_true, Bool.false_or, Bool.or_false, false_implies, implies_true]))
    refine ⟨j + 1, by omega, by omega, m, ?_⟩
    with_reducible (repeat' apply And.intro)
    all_goals first | rfl | omega | (simp (disch := omega) only [go_sem, q2, q3, hs, Nat.reduceAdd, Nat.reduceSub, Nat.reduceMul, Nat.reduceLeDiff, Nat.reduceLT, Nat.reduceEqDiff, Int.reduceLT, Int.reduceLE, Int.reduceToNat, Int.reduceAdd, Int.reduceSub, Int.reduceMul, Int.reduceEq, Int.reduceNeg, reduceCtorEq, true_and, and_true, Int.toNat_natCast, List.getElem?_map, Option.map_some, List.length_map, List.length_take, List.length_drop, List.length_append, Nat.sub_zero, Int.toNat_zero, List.length_replicate, Bool.true_or, Bool.or_true, Bool.false_or, Bool.or_false, false_implies, implies_true] <;> first | rfl | omega)
  · obtain rfl : j = d.fen.length := by omega
    (repeat' (first | with_reducible (first | refine agr_d (fun hc => ?_) fun hc => ?_ | refine agr_n (fun hc => ?_) fun hc => ?_ | refine acd_d (fun hc => ?_) fun hc => ?_ | refine acd_n (fun hc => ?_) fun hc => ?_ | refine dgr_d (fun hc => ?_) fun hc => ?_ | refine dgr_n (fun hc => ?_) fun hc => ?_ | refine dl_sound _ _ [] [] [] _ _ (fun _ h => absurd h List.not_mem_nil) ?_) | simp (disch := omega) only [go_sem, h6, h7, h9, h14, h123, h124, h125, q2, q3, hm, devB, Nat.reduceAdd, Nat.reduceSub, Nat.reduceMul, Nat.reduceLeDiff, Nat.reduceLT, Nat.reduceEqDiff, Int.reduceLT, Int.reduceLE, Int.reduceToNat, Int.reduceAdd, Int.reduceSub, Int.reduceMul, Int.reduceEq, Int.reduceNeg, reduceCtorEq, true_and, and_true, Int.toNat_natCast, List.getElem?_map, Option.map_some, List.length_map, List.length_take, List.length_drop, List.length_append, Nat.sub_zero, Int.toNat_zero, List.length_replicate, Bool.true_or, Bool.or_true, Bool.false_or, Bool.or_false, false_implies, implies_true]))
    refine ac1_i (Keys_con m _) ?_
    rintro _ ⟨g, c⟩ ⟨bx, rfl, k1, k2, k3, k4⟩
    dsimp only at k1 k2 k3 k4
    have r2 := (k4 2 (by omega)).trans q2
    have r3 := (k4 3 (by omega)).trans q3
    have rm := (k4 m (by omega)).trans hm
    (repeat' (first | with_reducible (first | refine agr_d (fun hc => ?_) fun hc => ?_ | refine agr_n (fun hc => ?_) fun hc => ?_ | refine acd_d (fun hc => ?_) fun hc => ?_ | refine acd_n (fun hc => ?_) fun hc => ?_ | refine dgr_d (fun hc => ?_) fun hc => ?_ | refine dgr_n (fun hc => ?_) fun hc => ?_ | refine dl_sound _ _ [] [] [] _ _ (fun _ h => absurd h List.not_mem_nil) ?_) | simp (disch := omega) only [go_sem, r2, r3, rm, k3, devB, h6, h7, h9, h14, Nat.reduceAdd, Nat.reduceSub, Nat.reduceMul, Nat.reduceLeDiff, Nat.reduceLT, Nat.reduceEqDiff, Int.reduceLT, Int.reduceLE, Int.reduceToNat, Int.reduceAdd, Int.reduceSub, Int.reduceMul, Int.reduceEq, Int.reduceNeg, reduceCtorEq, true_and, and_true, Int.toNat_natCast, List.getElem?_map, Option.map_some, List.length_map, List.length_take, List.length_drop, List.length_append, Nat.sub_zero, Int.toNat_zero, List.length_replicate, Bool.true_or, Bool.or_true, Bool.false_or, Bool.or_false, false_implies, implies_true]))
    refine ac1_i (Sorted_con _ (hb1 _) (by have := hb2 d.fen.length (Nat.le_refl _); have := hd.f; omega) bx m 0 0 _ ?_ ?_) ?_
    · simp (disch := omega) only [go_sem, k3, Nat.reduceAdd, Nat.reduceSub, Nat.reduceMul, Nat.reduceLeDiff, Nat.reduceLT, Nat.reduceEqDiff, Int.reduceLT, Int.reduceLE, Int.reduceToNat, Int.reduceAdd, Int.reduceSub, Int.reduceMul, Int.reduceEq, Int.reduceNeg, reduceCtorEq, true_and, and_true, Int.toNat_natCast, List.getElem?_map, Option.map_some, List.length_map, List.length_take, List.length_drop, List.length_append, Nat.sub_zero, Int.toNat_zero, List.length_replicate, Bool.true_or, Bool.or_true, Bool.false_or, Bool.or_false, false_implies, implies_true]
    · simp (disch := omega) only [go_sem, rm, Nat.reduceAdd, Nat.reduceSub, Nat.reduceMul, Nat.reduceLeDiff, Nat.reduceLT, Nat.reduceEqDiff, Int.reduceLT, Int.reduceLE, Int.reduceToNat, Int.reduceAdd, Int.reduceSub, Int.reduceMul, Int.reduceEq, Int.reduceNeg, reduceCtorEq, true_and, and_true, Int.toNat_natCast, List.getElem?_map, Option.map_some, List.length_map, List.length_take, List.length_drop, List.length_append, Nat.sub_zero, Int.toNat_zero, List.length_replicate, Bool.true_or, Bool.or_true, Bool.false_or, Bool.or_false, false_implies, implies_true]
    rintro _ _ ⟨rfl, rfl⟩
    rw [sort_fence d.fen a.key hrise]
    (repeat' (first | with_reducible (first | refine agr_d (fun hc => ?_) fun hc => ?_ | refine agr_n (fun hc => ?_) fun hc => ?_ | refine acd_d (fun hc => ?_) fun hc => ?_ | refine acd_n (fun hc => ?_) fun hc => ?_ | refine dgr_d (fun hc => ?_) fun hc => ?_ | refine dgr_n (fun hc => ?_) fun hc => ?_ | refine dl_sound _ _ [] [] [] _ _ (fun _ h => absurd h List.not_mem_nil) ?_ | refine conEnd_p (.inl rfl) ?_ | refine conEnd_p (.inr rfl) ?_) | simp (disch := omega) only [go_sem, r2, r3, rm, k3, devB, devV, doV, h6, h7, h9, h14, Nat.reduceAdd, Nat.reduceSub, Nat.reduceMul, Nat.reduceLeDiff, Nat.reduceLT, Nat.reduceEqDiff, Int.reduceLT, Int.reduceLE, Int.reduceToNat, Int.reduceAdd, Int.reduceSub, Int.reduceMul, Int.reduceEq, Int.reduceNeg, reduceCtorEq, true_and, and_true, Int.toNat_natCast, List.getElem?_map, Option.map_some, List.length_map, List.length_take, List.length_drop, List.length_append, Nat.sub_zero, Int.toNat_zero, List.length_replicate, Bool.true_or, Bool.or_true, Bool.false_or, Bool.or_false, false_implies, implies_true]))
end Go.Proofs.Ytllijcnbjbfabaa

namespace Go.Proofs.Ytllijcnbjbfabaa
open Go.RowKit
set_option linter.unusedSimpArgs false
set_option linter.unusedVariables false

/-- caches as they were, but for one -/
theorem fz_cset {st : St} {l : List (List Pr)} {bC cap lk node : Nat} {v : V} {c : List Pr} (hl : l.length ≤ 1000000) (hn : node < l.length) (hk : st.get bC = some ⟨(l.map ccV).set node [v], 1, lk⟩) (hv : Fz st mny v (.sl (c.map prV) false)) :
    Fz st mny (.bs bC 0 l.length cap) (.sl ((l.set node c).map ccV) false) := by
  have e : (l.map ccV).set node [v] = ((l.map fun c => V.sl (c.map prV) false).set node v).map (fun v => [v]) := by
    rw [List.map_set, List.map_map]
    rfl
  rw [e] at hk
  refine fz_cache hk (by simp) (by omega) (by simp) (fun i h h' => ?_)
  have hi : i < l.length := by simpa using h'
  by_cases e : node = i
  · subst e
    simp only [List.getElem_set_self]
    exact hv
  · rw [List.getElem_set_ne e, List.getElem_set_ne e]
    simp only [List.getElem_map]
    exact .plain _ ((plain_pr _ _).2 trivial)
/-- a part of a row -/
theorem fz_part {st : St} {b i n cap lk : Nat} {l m : List Pr} (hk : st.get b = some ⟨l.map prV, 2, lk⟩) (hle : i + n ≤ l.length) (hl : l.length ≤ 2000000) (hm : (l.drop i).take n = m) : Fz st mny (.bs b i n cap) (.sl (m.map prV) false) := by
  have := Fz.row (st := st) (f := mny) (b := b) (i := i) (n := n) (cap := cap) hk (by simpa using hle) (by show i + n ≤ 2000000; omega) (by have := (plain_pr l false).2 trivial; cases this with | sl _ _ h => exact h)
  simp only [] at this
  rw [← List.map_drop, ← List.map_take, hm] at this
  exact this
set_option maxRecDepth 100000 in
set_option maxHeartbeats 16000000 in
theorem dDo_2 (d : Dev) (hd : DevOk d) (node : Nat) (a : Ac) (ha : AcOk a) (h : Done d node a) (hk : a.k = 2) : Con Try.prog 20 [devV d, .int .i64 node, acV a] (· = doV (doR d node a)) := by
  have hR := refuses_con d hd node a ha
  rw [refuseR_0 h.A h.B h.C h.D] at hR
  simp only [acV, hk] at hR
  rw [h.ok]
  have hcn := h.c
  obtain ⟨hs1, hs2⟩ := h.s (.inr (.inl hk))
  have hcl := hd.ci node hcn
  have hcd : d.cache.getD node [] = d.cache[node] := getD_at hcn
  have hsset : (d.s.map txV).set a.s.toNat [.str a.b] = (d.s.set a.s.toNat a.b).map txV := by rw [List.map_set]; rfl
  refine con_of_awp Try.func20 rfl mixed (by decide) rfl (by kernel_rfl) rfl ?_
  (repeat' (first | with_reducible (first | refine agr_d (fun hc => ?_) fun hc => ?_ | refine agr_n (fun hc => ?_) fun hc => ?_ | refine acd_d (fun hc => ?_) fun hc => ?_ | refine acd_n (fun hc => ?_) fun hc => ?_ | refine dgr_d (fun hc => ?_) fun hc => ?_ | refine dgr_n (fun hc => ?_) fun hc => ?_ | refine dl_sound _ _ [] [] [] _ _ (fun _ h => absurd h List.not_mem_nil) ?_ | refine ac1_sc mny (fzs_three (fz_tpm (sz := 5) (lk := 0) ?_ (by (simp only [List.nil_append, List.cons_append, List.append_nil, List.forall_mem_cons, List.not_mem_nil, false_implies, implies_true, and_true, true_and, plain_agg, plain_tp, plain_fn, plain_tup, plain_int, plain_bool, plain_str, plain_nilp, plain_nilfn, plain_undef, plain_dev, plain_pr, plain_tx, plain_in, plain_cc]))) (.plain _ (.int _ _)) (.plain _ (by (simp only [List.nil_append, List.cons_append, List.append_nil, List.forall_mem_cons, List.not_mem_nil, false_implies, implies_true, and_true, true_and, plain_agg, plain_tp, plain_fn, plain_tup, plain_int, plain_bool, plain_str, plain_nilp, plain_nilfn, plain_undef, plain_dev, plain_pr, plain_tx, plain_in, plain_cc])))) hR (.int _ _) ?_) | simp (disch := omega) only [go_sem, devV, doV, hk, Nat.reduceAdd, Nat.reduceSub, Nat.reduceMul, Nat.reduceLeDiff, Nat.reduceLT, Nat.reduceEqDiff, Int.reduceLT, Int.reduceLE, Int.reduceToNat, Int.reduceAdd, Int.reduceSub, Int.reduceMul, Int.reduceEq, Int.reduceNeg, reduceCtorEq, true_and, and_true, Int.toNat_natCast, List.getElem?_map, Option.map_some, List.length_map, List.length_take, List.length_drop, List.length_append, Nat.sub_zero, Int.toNat_zero, List.length_replicate, Bool.true_or, Bool.or_true, Bool.false_or, Bool.or_false, false_implies, implies_true]))
  refine ac1_i (cut_con d hd 3 _ (by simp (disch := omega) only [go_sem, Nat.reduceAdd, Nat.reduceSub, Nat.reduceMul, Nat.reduceLeDiff, Nat.reduceLT, Nat.reduceEqDiff, Int.reduceLT, Int.reduceLE, Int.reduceToNat, Int.reduceAdd, Int.reduceSub, Int.reduceMul, Int.reduceEq, Int.reduceNeg, reduceCtorEq, true_and, and_true, Int.toNat_natCast, List.getElem?_map, Option.map_some, List.length_map, List.length_take, List.length_drop, List.length_append, Nat.sub_zero, Int.toNat_zero, List.length_replicate, Bool.true_or, Bool.or_true, Bool.false_or, Bool.or_false, false_implies, implies_true] <;> rfl) (by simp (disch := omega) only [go_sem, Nat.reduceAdd, Nat.reduceSub, Nat.reduceMul, Nat.reduceLeDiff, Nat.reduceLT, Nat.reduceEqDiff, Int.reduceLT, Int.reduceLE, Int.reduceToNat, Int.reduceAdd, Int.reduceSub, Int.reduceMul, Int.reduceEq, Int.reduceNeg, reduceCtorEq, true_and, and_true, Int.toNat_natCast, List.getElem?_map, Option.map_some, List.length_map, List.length_take, List.length_drop, List.length_append, Nat.sub_zero, Int.toNat_zero, List.length_replicate, Bool.true_or, Bool.or_true, Bool.false_or, Bool.or_false, false_implies, implies_true]) node hcn a.s) ?_
  rintro _ ⟨g, c⟩ ⟨bl, rfl, h1, h2, h3, h4⟩
  dsimp only at h1 h2 h3 h4
  have q1 : g 1 = some ⟨[[.int .i8 2, .int .i64 a.s, .str a.b, .int .i64 a.key]], 4, 0⟩ := (h4 1 (by simp)).trans (by simp (disch := omega) only [go_sem, hk, Nat.reduceAdd, Nat.reduceSub, Nat.reduceMul, Nat.reduceLeDiff, Nat.reduceLT, Nat.reduceEqDiff, Int.reduceLT, Int.reduceLE, Int.reduceToNat, Int.reduceAdd, Int.reduceSub, Int.reduceMul, Int.reduceEq, Int.reduceNeg, reduceCtorEq, true_and, and_true, Int.toNat_natCast, List.getElem?_map, Option.map_some, List.length_map, List.length_take, List.length_drop, List.length_append, Nat.sub_zero, Int.toNat_zero, List.length_replicate, Bool.true_or, Bool.or_true, Bool.false_or, Bool.or_false, false_implies, implies_true] <;> rfl)
  have q2 : g 2 = some ⟨[[.sl [] true, .sl [] true, .sl [] true, .int .i64 0, .sl [] true]], 5, 0⟩ := (h4 2 (by simp)).trans (by simp (disch := omega) only [go_sem, Nat.reduceAdd, Nat.reduceSub, Nat.reduceMul, Nat.reduceLeDiff, Nat.reduceLT, Nat.reduceEqDiff, Int.reduceLT, Int.reduceLE, Int.reduceToNat, Int.reduceAdd, Int.reduceSub, Int.reduceMul, Int.reduceEq, Int.reduceNeg, reduceCtorEq, true_and, and_true, Int.toNat_natCast, List.getElem?_map, Option.map_some, List.length_map, List.length_take, List.length_drop, List.length_append, Nat.sub_zero, Int.toNat_zero, List.length_replicate, Bool.true_or, Bool.or_true, Bool.false_or, Bool.or_false, false_implies, implies_true] <;> rfl)
  have q3 : g 3 = some (devB d) := (h4 3 (by simp)).trans (by simp (disch := omega) only [go_sem, Nat.reduceAdd, Nat.reduceSub, Nat.reduceMul, Nat.reduceLeDiff, Nat.reduceLT, Nat.reduceEqDiff, Int.reduceLT, Int.reduceLE, Int.reduceToNat, Int.reduceAdd, Int.reduceSub, Int.reduceMul, Int.reduceEq, Int.reduceNeg, reduceCtorEq, true_and, and_true, Int.toNat_natCast, List.getElem?_map, Option.map_some, List.length_map, List.length_take, List.length_drop, List.length_append, Nat.sub_zero, Int.toNat_zero, List.length_replicate, Bool.true_or, Bool.or_true, Bool.false_or, Bool.or_false, false_implies, implies_true] <;> rfl)
  have h1' : 4 ≤ bl := Nat.le_trans (by simp) h1
  clear h4
  (repeat' (first | with_reducible (first | refine agr_d (fun hc => ?_) fun hc => ?_ | refine agr_n (fun hc => ?_) fun hc => ?_ | refine acd_d (fun hc => ?_) fun hc => ?_ | refine acd_n (fun hc => ?_) fun hc => ?_ | refine dgr_d (fun hc => ?_) fun hc => ?_ | refine dgr_n (fun hc => ?_) fun hc => ?_ | refine dl_sound _ _ [] [] [] _ _ (fun _ h => absurd h List.not_mem_nil) ?_) | simp (disch := omega) only [go_sem, devV, devB, doV, hk, q1, q2, q3, h3, Nat.reduceAdd, Nat.reduceSub, Nat.reduceMul, Nat.reduceLeDiff, Nat.reduceLT, Nat.reduceEqDiff, Int.reduceLT, Int.reduceLE, Int.reduceToNat, Int.reduceAdd, Int.reduceSub, Int.reduceMul, Int.reduceEq, Int.reduceNeg, reduceCtorEq, true_and, and_true, Int.toNat_natCast, List.getElem?_map, Option.map_some, List.length_map, List.length_take, List.length_drop, List.length_append, Nat.sub_zero, Int.toNat_zero, List.length_replicate, Bool.true_or, Bool.or_true, Bool.false_or, Bool.or_false, false_implies, implies_true]))
  refine ac1_i (write_con (.sl (d.s.map txV) false) (.sl (d.cache.map ccV) false) (.sl (d.keys.map inV) false) (.sl (d.fen.map inV) false) .nilp d.next 3 _ ?_ ?_ (d.s.map txV) (.inl ⟨false, rfl⟩) (fun r hr => by obtain ⟨p, _, rfl⟩ := List.mem_map.1 hr; rfl) (by simpa using hd.s) ⟨a.s, a.b⟩ hs1 (by simpa using hs2) _ _ 0 ?_ ?_ ?_) ?_
  · simp (disch := omega) only [go_sem, q3, Nat.reduceAdd, Nat.reduceSub, Nat.reduceMul, Nat.reduceLeDiff, Nat.reduceLT, Nat.reduceEqDiff, Int.reduceLT, Int.reduceLE, Int.reduceToNat, Int.reduceAdd, Int.reduceSub, Int.reduceMul, Int.reduceEq, Int.reduceNeg, reduceCtorEq, true_and, and_true, Int.toNat_natCast, List.getElem?_map, Option.map_some, List.length_map, List.length_take, List.length_drop, List.length_append, Nat.sub_zero, Int.toNat_zero, List.length_replicate, Bool.true_or, Bool.or_true, Bool.false_or, Bool.or_false, false_implies, implies_true] <;> rfl
  · first | omega | (simp (disch := omega) only [go_sem, Nat.reduceAdd, Nat.reduceSub, Nat.reduceMul, Nat.reduceLeDiff, Nat.reduceLT, Nat.reduceEqDiff, Int.reduceLT, Int.reduceLE, Int.reduceToNat, Int.reduceAdd, Int.reduceSub, Int.reduceMul, Int.reduceEq, Int.reduceNeg, reduceCtorEq, true_and, and_true, Int.toNat_natCast, List.getElem?_map, Option.map_some, List.length_map, List.length_take, List.length_drop, List.length_append, Nat.sub_zero, Int.toNat_zero, List.length_replicate, Bool.true_or, Bool.or_true, Bool.false_or, Bool.or_false, false_implies, implies_true] <;> omega)
  · simp (disch := omega) only [go_sem, Nat.reduceAdd, Nat.reduceSub, Nat.reduceMul, Nat.reduceLeDiff, Nat.reduceLT, Nat.reduceEqDiff, Int.reduceLT, Int.reduceLE, Int.reduceToNat, Int.reduceAdd, Int.reduceSub, Int.reduceMul, Int.reduceEq, Int.reduceNeg, reduceCtorEq, true_and, and_true, Int.toNat_natCast, List.getElem?_map, Option.map_some, List.length_map, List.length_take, List.length_drop, List.length_append, Nat.sub_zero, Int.toNat_zero, List.length_replicate, Bool.true_or, Bool.or_true, Bool.false_or, Bool.or_false, false_implies, implies_true] <;> rfl
  · first | omega | (simp (disch := omega) only [go_sem, Nat.reduceAdd, Nat.reduceSub, Nat.reduceMul, Nat.reduceLeDiff, Nat.reduceLT, Nat.reduceEqDiff, Int.reduceLT, Int.reduceLE, Int.reduceToNat, Int.reduceAdd, Int.reduceSub, Int.reduceMul, Int.reduceEq, Int.reduceNeg, reduceCtorEq, true_and, and_true, Int.toNat_natCast, List.getElem?_map, Option.map_some, List.length_map, List.length_take, List.length_drop, List.length_append, Nat.sub_zero, Int.toNat_zero, List.length_replicate, Bool.true_or, Bool.or_true, Bool.false_or, Bool.or_false, false_implies, implies_true] <;> omega)
  · first | omega | (simp (disch := omega) only [go_sem, Nat.reduceAdd, Nat.reduceSub, Nat.reduceMul, Nat.reduceLeDiff, Nat.reduceLT, Nat.reduceEqDiff, Int.reduceLT, Int.reduceLE, Int.reduceToNat, Int.reduceAdd, Int.reduceSub, Int.reduceMul, Int.reduceEq, Int.reduceNeg, reduceCtorEq, true_and, and_true, Int.toNat_natCast, List.getElem?_map, Option.map_some, List.length_map, List.length_take, List.length_drop, List.length_append, Nat.sub_zero, Int.toNat_zero, List.length_replicate, Bool.true_or, Bool.or_true, Bool.false_or, Bool.or_false, false_implies, implies_true] <;> omega)
  rintro _ ⟨g', c'⟩ ⟨rfl, bS, k1, k2, k3, k4, k5⟩
  dsimp only at k1 k2 k3 k4 k5
  have r2 := (k5 2 (by omega) (by omega)).trans (by simp (disch := omega) only [go_sem, q2, Nat.reduceAdd, Nat.reduceSub, Nat.reduceMul, Nat.reduceLeDiff, Nat.reduceLT, Nat.reduceEqDiff, Int.reduceLT, Int.reduceLE, Int.reduceToNat, Int.reduceAdd, Int.reduceSub, Int.reduceMul, Int.reduceEq, Int.reduceNeg, reduceCtorEq, true_and, and_true, Int.toNat_natCast, List.getElem?_map, Option.map_some, List.length_map, List.length_take, List.length_drop, List.length_append, Nat.sub_zero, Int.toNat_zero, List.length_replicate, Bool.true_or, Bool.or_true, Bool.false_or, Bool.or_false, false_implies, implies_true] <;> rfl : _ = some ⟨[[.sl [] true, .sl [] true, .sl [] true, .int .i64 0, .sl [] true]], 5, 0⟩)
  have rl := (k5 bl (by omega) (by omega)).trans (by simp (disch := omega) only [go_sem, h3, Nat.reduceAdd, Nat.reduceSub, Nat.reduceMul, Nat.reduceLeDiff, Nat.reduceLT, Nat.reduceEqDiff, Int.reduceLT, Int.reduceLE, Int.reduceToNat, Int.reduceAdd, Int.reduceSub, Int.reduceMul, Int.reduceEq, Int.reduceNeg, reduceCtorEq, true_and, and_true, Int.toNat_natCast, List.getElem?_map, Option.map_some, List.length_map, List.length_take, List.length_drop, List.length_append, Nat.sub_zero, Int.toNat_zero, List.length_replicate, Bool.true_or, Bool.or_true, Bool.false_or, Bool.or_false, false_implies, implies_true] : _ = some ⟨d.cache[node].map prV, 2, 0⟩)
  have hbS : bl < bS := by omega
  have hbc : bl < c' := by omega
  have hbS4 : 4 ≤ bS := by omega
  clear k1 k5
  rw [List.length_map] at k4
  cases hpn : placeN d.cache[node] a.s with
  | none =>
    have hpr : placeR d.cache[node] a.s = -1 := by rw [placeR, hpn]
    rw [hpr]
    have hact : actD d node a = ({ d with s := d.s.set a.s.toNat a.b }, ⟨#[]⟩) := by
      unfold actD
      simp only [hk, hcd, hpn]
      rfl
    rw [hact]
    (repeat' (first | with_reducible (first | refine agr_d (fun hc => ?_) fun hc => ?_ | refine agr_n (fun hc => ?_) fun hc => ?_ | refine acd_d (fun hc => ?_) fun hc => ?_ | refine acd_n (fun hc => ?_) fun hc => ?_ | refine dgr_d (fun hc => ?_) fun hc => ?_ | refine dgr_n (fun hc => ?_) fun hc => ?_ | refine dl_sound _ _ [] [] [] _ _ (fun _ h => absurd h List.not_mem_nil) ?_) | simp (disch := omega) only [go_sem, devV, devB, doV, hk, r2, rl, k3, k4, hsset, Nat.reduceAdd, Nat.reduceSub, Nat.reduceMul, Nat.reduceLeDiff, Nat.reduceLT, Nat.reduceEqDiff, Int.reduceLT, Int.reduceLE, Int.reduceToNat, Int.reduceAdd, Int.reduceSub, Int.reduceMul, Int.reduceEq, Int.reduceNeg, reduceCtorEq, true_and, and_true, Int.toNat_natCast, List.getElem?_map, Option.map_some, List.length_map, List.length_take, List.length_drop, List.length_append, Nat.sub_zero, Int.toNat_zero, List.length_replicate, Bool.true_or, Bool.or_true, Bool.false_or, Bool.or_false, false_implies, implies_true]))
    refine conEnd_f (.inl rfl) ?_
    simp (disch := omega) only [go_sem, r2, k3, k4, hsset, Nat.reduceAdd, Nat.reduceSub, Nat.reduceMul, Nat.reduceLeDiff, Nat.reduceLT, Nat.reduceEqDiff, Int.reduceLT, Int.reduceLE, Int.reduceToNat, Int.reduceAdd, Int.reduceSub, Int.reduceMul, Int.reduceEq, Int.reduceNeg, reduceCtorEq, true_and, and_true, Int.toNat_natCast, List.getElem?_map, Option.map_some, List.length_map, List.length_take, List.length_drop, List.length_append, Nat.sub_zero, Int.toNat_zero, List.length_replicate, Bool.true_or, Bool.or_true, Bool.false_or, Bool.or_false, false_implies, implies_true]
    refine ⟨mny, _, fz_tup3 (fz_dev (d := { d with s := d.s.set a.s.toNat a.b }) rfl (fz_row (sz := 1) (lk := 0) (es := (d.s.set a.s.toNat a.b).map txV) ?_ (by simp) (by have := hd.s; omega) ((plain_tx _ _).2 trivial)) (.plain _ ((plain_cc _ _).2 trivial)) (.plain _ ((plain_in _ _).2 trivial)) (.plain _ ((plain_in _ _).2 trivial))) (.plain _ (.str _)) (.plain _ (.int _ _)), rfl⟩
    simp (disch := omega) only [go_sem, k3, hsset, Nat.reduceAdd, Nat.reduceSub, Nat.reduceMul, Nat.reduceLeDiff, Nat.reduceLT, Nat.reduceEqDiff, Int.reduceLT, Int.reduceLE, Int.reduceToNat, Int.reduceAdd, Int.reduceSub, Int.reduceMul, Int.reduceEq, Int.reduceNeg, reduceCtorEq, true_and, and_true, Int.toNat_natCast, List.getElem?_map, Option.map_some, List.length_map, List.length_take, List.length_drop, List.length_append, Nat.sub_zero, Int.toNat_zero, List.length_replicate, Bool.true_or, Bool.or_true, Bool.false_or, Bool.or_false, false_implies, implies_true]
  | some q =>
    obtain ⟨hq, hqs⟩ := placeN_lt hpn
    have hpr : placeR d.cache[node] a.s = q := by rw [placeR, hpn]
    rw [hpr]
    have hact : actD d node a = ({ d with s := d.s.set a.s.toNat a.b, cache := d.cache.set node (d.cache[node].eraseIdx q) }, ⟨#[]⟩) := by
      unfold actD
      simp only [hk, hcd, hpn]
      rfl
    rw [hact]
    (repeat' (first | with_reducible (first | refine agr_d (fun hc => ?_) fun hc => ?_ | refine agr_n (fun hc => ?_) fun hc => ?_ | refine acd_d (fun hc => ?_) fun hc => ?_ | refine acd_n (fun hc => ?_) fun hc => ?_ | refine dgr_d (fun hc => ?_) fun hc => ?_ | refine dgr_n (fun hc => ?_) fun hc => ?_ | refine dl_sound _ _ [] [] [] _ _ (fun _ h => absurd h List.not_mem_nil) ?_) | simp (disch := omega) only [go_sem, devV, devB, doV, hk, r2, rl, k3, k4, hsset, Nat.reduceAdd, Nat.reduceSub, Nat.reduceMul, Nat.reduceLeDiff, Nat.reduceLT, Nat.reduceEqDiff, Int.reduceLT, Int.reduceLE, Int.reduceToNat, Int.reduceAdd, Int.reduceSub, Int.reduceMul, Int.reduceEq, Int.reduceNeg, reduceCtorEq, true_and, and_true, Int.toNat_natCast, List.getElem?_map, Option.map_some, List.length_map, List.length_take, List.length_drop, List.length_append, Nat.sub_zero, Int.toNat_zero, List.length_replicate, Bool.true_or, Bool.or_true, Bool.false_or, Bool.or_false, false_implies, implies_true]))
    refine ac1_i (Delete_con d.cache[node] q bl 0 _ ?_ ?_ hq hcl) ?_
    · simp (disch := omega) only [go_sem, rl, Nat.reduceAdd, Nat.reduceSub, Nat.reduceMul, Nat.reduceLeDiff, Nat.reduceLT, Nat.reduceEqDiff, Int.reduceLT, Int.reduceLE, Int.reduceToNat, Int.reduceAdd, Int.reduceSub, Int.reduceMul, Int.reduceEq, Int.reduceNeg, reduceCtorEq, true_and, and_true, Int.toNat_natCast, List.getElem?_map, Option.map_some, List.length_map, List.length_take, List.length_drop, List.length_append, Nat.sub_zero, Int.toNat_zero, List.length_replicate, Bool.true_or, Bool.or_true, Bool.false_or, Bool.or_false, false_implies, implies_true]
    · first | omega | (simp (disch := omega) only [go_sem, Nat.reduceAdd, Nat.reduceSub, Nat.reduceMul, Nat.reduceLeDiff, Nat.reduceLT, Nat.reduceEqDiff, Int.reduceLT, Int.reduceLE, Int.reduceToNat, Int.reduceAdd, Int.reduceSub, Int.reduceMul, Int.reduceEq, Int.reduceNeg, reduceCtorEq, true_and, and_true, Int.toNat_natCast, List.getElem?_map, Option.map_some, List.length_map, List.length_take, List.length_drop, List.length_append, Nat.sub_zero, Int.toNat_zero, List.length_replicate, Bool.true_or, Bool.or_true, Bool.false_or, Bool.or_false, false_implies, implies_true] <;> omega)
    rintro _ ⟨g2, c2⟩ ⟨rfl, m1, ⟨x, m2⟩, m3⟩
    dsimp only at m1 m2 m3
    have s3 := (m3 3 (by omega)).trans k4
    have s2 := (m3 2 (by omega)).trans r2
    have sS := (m3 bS (by omega)).trans k3
    (repeat' (first | with_reducible (first | refine agr_d (fun hc => ?_) fun hc => ?_ | refine agr_n (fun hc => ?_) fun hc => ?_ | refine acd_d (fun hc => ?_) fun hc => ?_ | refine acd_n (fun hc => ?_) fun hc => ?_ | refine dgr_d (fun hc => ?_) fun hc => ?_ | refine dgr_n (fun hc => ?_) fun hc => ?_ | refine dl_sound _ _ [] [] [] _ _ (fun _ h => absurd h List.not_mem_nil) ?_) | simp (disch := omega) only [go_sem, devV, devB, doV, hk, s2, s3, sS, m2, Nat.reduceAdd, Nat.reduceSub, Nat.reduceMul, Nat.reduceLeDiff, Nat.reduceLT, Nat.reduceEqDiff, Int.reduceLT, Int.reduceLE, Int.reduceToNat, Int.reduceAdd, Int.reduceSub, Int.reduceMul, Int.reduceEq, Int.reduceNeg, reduceCtorEq, true_and, and_true, Int.toNat_natCast, List.getElem?_map, Option.map_some, List.length_map, List.length_take, List.length_drop, List.length_append, Nat.sub_zero, Int.toNat_zero, List.length_replicate, Bool.true_or, Bool.or_true, Bool.false_or, Bool.or_false, false_implies, implies_true]))
    refine ac1_i (keep_con (.bs bS 0 d.s.length d.s.length) (.sl (d.cache.map ccV) false) (.sl (d.keys.map inV) false) (.sl (d.fen.map inV) false) _ d.next 3 _ ?_ ?_ (d.cache.map ccV) (.inl ⟨false, rfl⟩) (fun r hr => by obtain ⟨p, _, rfl⟩ := List.mem_map.1 hr; rfl) (by simpa using hd.c) node (by simpa using hcn) (.inr ⟨_, _, _, _, rfl⟩)) ?_
    · simp (disch := omega) only [go_sem, s3, Nat.reduceAdd, Nat.reduceSub, Nat.reduceMul, Nat.reduceLeDiff, Nat.reduceLT, Nat.reduceEqDiff, Int.reduceLT, Int.reduceLE, Int.reduceToNat, Int.reduceAdd, Int.reduceSub, Int.reduceMul, Int.reduceEq, Int.reduceNeg, reduceCtorEq, true_and, and_true, Int.toNat_natCast, List.getElem?_map, Option.map_some, List.length_map, List.length_take, List.length_drop, List.length_append, Nat.sub_zero, Int.toNat_zero, List.length_replicate, Bool.true_or, Bool.or_true, Bool.false_or, Bool.or_false, false_implies, implies_true]
    · first | omega | (simp (disch := omega) only [go_sem, Nat.reduceAdd, Nat.reduceSub, Nat.reduceMul, Nat.reduceLeDiff, Nat.reduceLT, Nat.reduceEqDiff, Int.reduceLT, Int.reduceLE, Int.reduceToNat, Int.reduceAdd, Int.reduceSub, Int.reduceMul, Int.reduceEq, Int.reduceNeg, reduceCtorEq, true_and, and_true, Int.toNat_natCast, List.getElem?_map, Option.map_some, List.length_map, List.length_take, List.length_drop, List.length_append, Nat.sub_zero, Int.toNat_zero, List.length_replicate, Bool.true_or, Bool.or_true, Bool.false_or, Bool.or_false, false_implies, implies_true] <;> omega)
    rintro _ ⟨g3, c3⟩ ⟨rfl, bC, n1, n2, n3, n4, n5⟩
    dsimp only at n1 n2 n3 n4 n5
    rw [List.length_map] at n4
    have t2 := (n5 2 (by omega) (by omega)).trans s2
    have tS := (n5 bS (by omega) (by omega)).trans sS
    have tl := (n5 bl (by omega) (by omega)).trans m2
    have hSC : bS ≠ bC := by omega
    have hlC : bl ≠ bC := by omega
    have hC4 : 4 ≤ bC := by omega
    (repeat' (first | with_reducible (first | refine agr_d (fun hc => ?_) fun hc => ?_ | refine agr_n (fun hc => ?_) fun hc => ?_ | refine acd_d (fun hc => ?_) fun hc => ?_ | refine acd_n (fun hc => ?_) fun hc => ?_ | refine dgr_d (fun hc => ?_) fun hc => ?_ | refine dgr_n (fun hc => ?_) fun hc => ?_ | refine dl_sound _ _ [] [] [] _ _ (fun _ h => absurd h List.not_mem_nil) ?_) | simp (disch := omega) only [go_sem, devV, devB, doV, hk, t2, tS, tl, n3, n4, hsset, Nat.reduceAdd, Nat.reduceSub, Nat.reduceMul, Nat.reduceLeDiff, Nat.reduceLT, Nat.reduceEqDiff, Int.reduceLT, Int.reduceLE, Int.reduceToNat, Int.reduceAdd, Int.reduceSub, Int.reduceMul, Int.reduceEq, Int.reduceNeg, reduceCtorEq, true_and, and_true, Int.toNat_natCast, List.getElem?_map, Option.map_some, List.length_map, List.length_take, List.length_drop, List.length_append, Nat.sub_zero, Int.toNat_zero, List.length_replicate, Bool.true_or, Bool.or_true, Bool.false_or, Bool.or_false, false_implies, implies_true]))
    refine conEnd_f (.inl rfl) ?_
    simp (disch := omega) only [go_sem, t2, tS, tl, n3, n4, hsset, Nat.reduceAdd, Nat.reduceSub, Nat.reduceMul, Nat.reduceLeDiff, Nat.reduceLT, Nat.reduceEqDiff, Int.reduceLT, Int.reduceLE, Int.reduceToNat, Int.reduceAdd, Int.reduceSub, Int.reduceMul, Int.reduceEq, Int.reduceNeg, reduceCtorEq, true_and, and_true, Int.toNat_natCast, List.getElem?_map, Option.map_some, List.length_map, List.length_take, List.length_drop, List.length_append, Nat.sub_zero, Int.toNat_zero, List.length_replicate, Bool.true_or, Bool.or_true, Bool.false_or, Bool.or_false, false_implies, implies_true]
    refine ⟨mny, _, fz_tup3 (fz_dev (d := { d with s := d.s.set a.s.toNat a.b, cache := d.cache.set node (d.cache[node].eraseIdx q) }) rfl (fz_row (sz := 1) (lk := 0) (es := (d.s.set a.s.toNat a.b).map txV) ?_ (by simp) (by have := hd.s; omega) ((plain_tx _ _).2 trivial)) (fz_cset (lk := 0) (v := .bs bl 0 (d.cache[node].length - 1) d.cache[node].length) hd.c hcn ?_ (fz_part (lk := 0) (l := d.cache[node].eraseIdx q ++ [x]) ?_ ?_ ?_ ?_)) (.plain _ ((plain_in _ _).2 trivial)) (.plain _ ((plain_in _ _).2 trivial))) (.plain _ (.str _)) (.plain _ (.int _ _)), rfl⟩
    · simp (disch := omega) only [go_sem, tS, hsset, Nat.reduceAdd, Nat.reduceSub, Nat.reduceMul, Nat.reduceLeDiff, Nat.reduceLT, Nat.reduceEqDiff, Int.reduceLT, Int.reduceLE, Int.reduceToNat, Int.reduceAdd, Int.reduceSub, Int.reduceMul, Int.reduceEq, Int.reduceNeg, reduceCtorEq, true_and, and_true, Int.toNat_natCast, List.getElem?_map, Option.map_some, List.length_map, List.length_take, List.length_drop, List.length_append, Nat.sub_zero, Int.toNat_zero, List.length_replicate, Bool.true_or, Bool.or_true, Bool.false_or, Bool.or_false, false_implies, implies_true]
    · simp (disch := omega) only [go_sem, n3, Nat.reduceAdd, Nat.reduceSub, Nat.reduceMul, Nat.reduceLeDiff, Nat.reduceLT, Nat.reduceEqDiff, Int.reduceLT, Int.reduceLE, Int.reduceToNat, Int.reduceAdd, Int.reduceSub, Int.reduceMul, Int.reduceEq, Int.reduceNeg, reduceCtorEq, true_and, and_true, Int.toNat_natCast, List.getElem?_map, Option.map_some, List.length_map, List.length_take, List.length_drop, List.length_append, Nat.sub_zero, Int.toNat_zero, List.length_replicate, Bool.true_or, Bool.or_true, Bool.false_or, Bool.or_false, false_implies, implies_true]
    · simp (disch := omega) only [go_sem, tl, Nat.reduceAdd, Nat.reduceSub, Nat.reduceMul, Nat.reduceLeDiff, Nat.reduceLT, Nat.reduceEqDiff, Int.reduceLT, Int.reduceLE, Int.reduceToNat, Int.reduceAdd, Int.reduceSub, Int.reduceMul, Int.reduceEq, Int.reduceNeg, reduceCtorEq, true_and, and_true, Int.toNat_natCast, List.getElem?_map, Option.map_some, List.length_map, List.length_take, List.length_drop, List.length_append, Nat.sub_zero, Int.toNat_zero, List.length_replicate, Bool.true_or, Bool.or_true, Bool.false_or, Bool.or_false, false_implies, implies_true]
    · rw [List.length_append, List.length_eraseIdx_of_lt hq]; simp
    · rw [List.length_append, List.length_eraseIdx_of_lt hq]; simp; omega
    · rw [List.drop_zero, List.take_append_of_le_length (by rw [List.length_eraseIdx_of_lt hq]; exact Nat.le_refl _), List.take_of_length_le (by rw [List.length_eraseIdx_of_lt hq]; exact Nat.le_refl _)]
end Go.Proofs.Ytllijcnbjbfabaa

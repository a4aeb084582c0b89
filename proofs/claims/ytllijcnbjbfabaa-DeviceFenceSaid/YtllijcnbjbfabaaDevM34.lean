/- breakwaterlaw06.DeviceFence, by the calculus. -/
import Derived.Test.YtllijcnbjbfabaaDevM33
import Derived.Test.YtllijcnbjbfabaaDevM30
import Derived.Test.YtllijcnbjbfabaaDevM02
namespace Go.Proofs.Ytllijcnbjbfabaa
open Go.RowKit
set_option linter.unusedSimpArgs false
set_option linter.unusedVariables false

def fixD (node : Nat) (x : Deed) : Deed := { x with node := node, d := if x.d = 0 ∧ x.a.k = 6 then 1 else x.d }
theorem fixD_ok {node : Nat} {x : Deed} (h : DeedOk x) : DeedOk (fixD node x) := ⟨h.a, h.kept⟩
set_option maxRecDepth 100000 in
set_option maxHeartbeats 16000000 in
theorem Fence6_con (ss : List ByteArray) (fl : Bool) (l : List Deed) (fm : Bool) (node : Int) (more : List Deed) (fn : Bool) (hss : ∀ x ∈ ss, x.size ≤ 9223372036854775807) (hsl : ss.length ≤ 9223372036854775807) (hl : l.length ≤ 9223372036854775807) (hx : ∀ x ∈ l, DeedIn x)
    (hml : more.length ≤ 9223372036854775807) (hmx : ∀ x ∈ more, DeedIn x) :
    Con Try.prog 5 [.sl (ss.map txV) fl, .sl (l.map deV) fm, .int .i64 node, .sl (more.map deV) fn] (· = .bool true) := by
  refine con_of_awp Try.func5 rfl mixed (by decide) rfl (by kernel_rfl) rfl ?_
  have hW := wakes6_con
  have hG := great6_p l fm hl
  have hG2 := great6_p more fn hml
  by_cases h40 : 40 < ss.length
  · have h40' : (40 : Int) < (ss.length : Int) := by omega
    (repeat' (first | with_reducible (first | refine agr_d (fun hc => ?_) fun hc => ?_ | refine agr_n (fun hc => ?_) fun hc => ?_ | refine acd_d (fun hc => ?_) fun hc => ?_ | refine acd_n (fun hc => ?_) fun hc => ?_ | refine dgr_d (fun hc => ?_) fun hc => ?_ | refine dgr_n (fun hc => ?_) fun hc => ?_ | refine dl_sound _ _ [] [] [] _ _ (fun _ h => absurd h List.not_mem_nil) ?_ | refine conEnd_p (.inl rfl) ?_ | refine conEnd_p (.inr rfl) ?_ | refine dc1_p hW ?_ | refine ac1_p hW ?_) | simp (disch := omega) only [go_sem, h40', Nat.reduceAdd, Nat.reduceSub, Nat.reduceMul, Nat.reduceLeDiff, Nat.reduceLT, Nat.reduceEqDiff, Int.reduceLT, Int.reduceLE, Int.reduceToNat, Int.reduceAdd, Int.reduceSub, Int.reduceMul, Int.reduceEq, Int.reduceNeg, reduceCtorEq, true_and, and_true, Int.toNat_natCast, List.getElem?_map, Option.map_some, List.length_map, List.length_take, List.length_drop, List.length_append, Nat.sub_zero, Int.toNat_zero, List.length_replicate, Bool.true_or, Bool.or_true, Bool.false_or, Bool.or_false, false_implies, implies_true]))
  have h40' : ¬ (40 : Int) < (ss.length : Int) := by omega
  cases hg : greatD l with
  | true =>
    rw [hg] at hG
    (repeat' (first | with_reducible (first | refine agr_d (fun hc => ?_) fun hc => ?_ | refine agr_n (fun hc => ?_) fun hc => ?_ | refine acd_d (fun hc => ?_) fun hc => ?_ | refine acd_n (fun hc => ?_) fun hc => ?_ | refine dgr_d (fun hc => ?_) fun hc => ?_ | refine dgr_n (fun hc => ?_) fun hc => ?_ | refine dl_sound _ _ [] [] [] _ _ (fun _ h => absurd h List.not_mem_nil) ?_ | refine conEnd_p (.inl rfl) ?_ | refine conEnd_p (.inr rfl) ?_ | refine dc1_p hG ?_ | refine ac1_p hG ?_ | refine dc1_p hW ?_ | refine ac1_p hW ?_) | simp (disch := omega) only [go_sem, h40', Nat.reduceAdd, Nat.reduceSub, Nat.reduceMul, Nat.reduceLeDiff, Nat.reduceLT, Nat.reduceEqDiff, Int.reduceLT, Int.reduceLE, Int.reduceToNat, Int.reduceAdd, Int.reduceSub, Int.reduceMul, Int.reduceEq, Int.reduceNeg, reduceCtorEq, true_and, and_true, Int.toNat_natCast, List.getElem?_map, Option.map_some, List.length_map, List.length_take, List.length_drop, List.length_append, Nat.sub_zero, Int.toNat_zero, List.length_replicate, Bool.true_or, Bool.or_true, Bool.false_or, Bool.or_false, false_implies, implies_true]))
  | false =>
  rw [hg] at hG
  obtain ⟨hl100, hb⟩ := not_great hg
  cases hg2 : greatD more with
  | true =>
    rw [hg2] at hG2
    (repeat' (first | with_reducible (first | refine agr_d (fun hc => ?_) fun hc => ?_ | refine agr_n (fun hc => ?_) fun hc => ?_ | refine acd_d (fun hc => ?_) fun hc => ?_ | refine acd_n (fun hc => ?_) fun hc => ?_ | refine dgr_d (fun hc => ?_) fun hc => ?_ | refine dgr_n (fun hc => ?_) fun hc => ?_ | refine dl_sound _ _ [] [] [] _ _ (fun _ h => absurd h List.not_mem_nil) ?_ | refine conEnd_p (.inl rfl) ?_ | refine conEnd_p (.inr rfl) ?_ | refine dc1_p hG ?_ | refine ac1_p hG ?_ | refine dc1_p hG2 ?_ | refine ac1_p hG2 ?_ | refine dc1_p hW ?_ | refine ac1_p hW ?_) | simp (disch := omega) only [go_sem, h40', Nat.reduceAdd, Nat.reduceSub, Nat.reduceMul, Nat.reduceLeDiff, Nat.reduceLT, Nat.reduceEqDiff, Int.reduceLT, Int.reduceLE, Int.reduceToNat, Int.reduceAdd, Int.reduceSub, Int.reduceMul, Int.reduceEq, Int.reduceNeg, reduceCtorEq, true_and, and_true, Int.toNat_natCast, List.getElem?_map, Option.map_some, List.length_map, List.length_take, List.length_drop, List.length_append, Nat.sub_zero, Int.toNat_zero, List.length_replicate, Bool.true_or, Bool.or_true, Bool.false_or, Bool.or_false, false_implies, implies_true]))
  | false =>
  rw [hg2] at hG2
  obtain ⟨hm100, hmb⟩ := not_great hg2
  by_cases hn0 : node < 0
  · (repeat' (first | with_reducible (first | refine agr_d (fun hc => ?_) fun hc => ?_ | refine agr_n (fun hc => ?_) fun hc => ?_ | refine acd_d (fun hc => ?_) fun hc => ?_ | refine acd_n (fun hc => ?_) fun hc => ?_ | refine dgr_d (fun hc => ?_) fun hc => ?_ | refine dgr_n (fun hc => ?_) fun hc => ?_ | refine dl_sound _ _ [] [] [] _ _ (fun _ h => absurd h List.not_mem_nil) ?_ | refine conEnd_p (.inl rfl) ?_ | refine conEnd_p (.inr rfl) ?_ | refine dc1_p hG ?_ | refine ac1_p hG ?_ | refine dc1_p hG2 ?_ | refine ac1_p hG2 ?_ | refine dc1_p hW ?_ | refine ac1_p hW ?_) | simp (disch := omega) only [go_sem, h40', hn0, Nat.reduceAdd, Nat.reduceSub, Nat.reduceMul, Nat.reduceLeDiff, Nat.reduceLT, Nat.reduceEqDiff, Int.reduceLT, Int.reduceLE, Int.reduceToNat, Int.reduceAdd, Int.reduceSub, Int.reduceMul, Int.reduceEq, Int.reduceNeg, reduceCtorEq, true_and, and_true, Int.toNat_natCast, List.getElem?_map, Option.map_some, List.length_map, List.length_take, List.length_drop, List.length_append, Nat.sub_zero, Int.toNat_zero, List.length_replicate, Bool.true_or, Bool.or_true, Bool.false_or, Bool.or_false, false_implies, implies_true]))
  by_cases hn3 : 3 < node
  · (repeat' (first | with_reducible (first | refine agr_d (fun hc => ?_) fun hc => ?_ | refine agr_n (fun hc => ?_) fun hc => ?_ | refine acd_d (fun hc => ?_) fun hc => ?_ | refine acd_n (fun hc => ?_) fun hc => ?_ | refine dgr_d (fun hc => ?_) fun hc => ?_ | refine dgr_n (fun hc => ?_) fun hc => ?_ | refine dl_sound _ _ [] [] [] _ _ (fun _ h => absurd h List.not_mem_nil) ?_ | refine conEnd_p (.inl rfl) ?_ | refine conEnd_p (.inr rfl) ?_ | refine dc1_p hG ?_ | refine ac1_p hG ?_ | refine dc1_p hG2 ?_ | refine ac1_p hG2 ?_ | refine dc1_p hW ?_ | refine ac1_p hW ?_) | simp (disch := omega) only [go_sem, h40', hn0, hn3, Nat.reduceAdd, Nat.reduceSub, Nat.reduceMul, Nat.reduceLeDiff, Nat.reduceLT, Nat.reduceEqDiff, Int.reduceLT, Int.reduceLE, Int.reduceToNat, Int.reduceAdd, Int.reduceSub, Int.reduceMul, Int.reduceEq, Int.reduceNeg, reduceCtorEq, true_and, and_true, Int.toNat_natCast, List.getElem?_map, Option.map_some, List.length_map, List.length_take, List.length_drop, List.length_append, Nat.sub_zero, Int.toNat_zero, List.length_replicate, Bool.true_or, Bool.or_true, Bool.false_or, Bool.or_false, false_implies, implies_true]))
  obtain ⟨node, rfl⟩ : ∃ n : Nat, node = n := ⟨node.toNat, by omega⟩
  have hss' : ∀ i (h : i < ss.length), ss[i].size ≤ 9223372036854775807 := fun i h => hss _ (List.getElem_mem h)
  have hM := New_con 5 ss fl (by omega) hss'
  rcases newR_cases 5 ss with e | ⟨n, hn5, hn16, e, hmay⟩
  · obtain ⟨nd, hnd, hok⟩ : ∃ nd, noD = nd ∧ DevOk nd := ⟨_, rfl, noD_ok⟩
    rw [e, hnd] at hM
    (repeat' (first | with_reducible (first | refine agr_d (fun hc => ?_) fun hc => ?_ | refine agr_n (fun hc => ?_) fun hc => ?_ | refine acd_d (fun hc => ?_) fun hc => ?_ | refine acd_n (fun hc => ?_) fun hc => ?_ | refine dgr_d (fun hc => ?_) fun hc => ?_ | refine dgr_n (fun hc => ?_) fun hc => ?_ | refine dl_sound _ _ [] [] [] _ _ (fun _ h => absurd h List.not_mem_nil) ?_ | refine dc1_p hG ?_ | refine ac1_p hG ?_ | refine dc1_p hG2 ?_ | refine ac1_p hG2 ?_ | refine dc1_p hM ?_ | refine ac1_p hM ?_) | simp (disch := omega) only [go_sem, h40', hn0, hn3, devV, pairV, Nat.reduceAdd, Nat.reduceSub, Nat.reduceMul, Nat.reduceLeDiff, Nat.reduceLT, Nat.reduceEqDiff, Int.reduceLT, Int.reduceLE, Int.reduceToNat, Int.reduceAdd, Int.reduceSub, Int.reduceMul, Int.reduceEq, Int.reduceNeg, reduceCtorEq, true_and, and_true, Int.toNat_natCast, List.getElem?_map, Option.map_some, List.length_map, List.length_take, List.length_drop, List.length_append, Nat.sub_zero, Int.toNat_zero, List.length_replicate, Bool.true_or, Bool.or_true, Bool.false_or, Bool.or_false, false_implies, implies_true]))
    refine awp_for 0 (fun j fr st => ev fr (.tmp 10) = .int .i64 2 ∧ ev fr (.tmp 1) = .sl (l.map deV) fm ∧ ev fr (.tmp 11) = .int .i64 0) ?_ ?_
    · refine ⟨?_, ?_, ?_⟩ <;> simp (disch := omega) only [go_sem, Nat.reduceAdd, Nat.reduceSub, Nat.reduceMul, Nat.reduceLeDiff, Nat.reduceLT, Nat.reduceEqDiff, Int.reduceLT, Int.reduceLE, Int.reduceToNat, Int.reduceAdd, Int.reduceSub, Int.reduceMul, Int.reduceEq, Int.reduceNeg, reduceCtorEq, true_and, and_true, Int.toNat_natCast, List.getElem?_map, Option.map_some, List.length_map, List.length_take, List.length_drop, List.length_append, Nat.sub_zero, Int.toNat_zero, List.length_replicate, Bool.true_or, Bool.or_true, Bool.false_or, Bool.or_false, false_implies, implies_true] <;> rfl
    rintro j fr st hj ⟨h10, h1, h11⟩
    by_cases hlt : 0 < l.length
    · have hlt' : (0 : Int) < (l.length : Int) := by omega
      (repeat' (first | with_reducible (first | refine agr_d (fun hc => ?_) fun hc => ?_ | refine agr_n (fun hc => ?_) fun hc => ?_ | refine acd_d (fun hc => ?_) fun hc => ?_ | refine acd_n (fun hc => ?_) fun hc => ?_ | refine dgr_d (fun hc => ?_) fun hc => ?_ | refine dgr_n (fun hc => ?_) fun hc => ?_ | refine dl_sound _ _ [] [] [] _ _ (fun _ h => absurd h List.not_mem_nil) ?_ | refine conEnd_p (.inl rfl) ?_ | refine conEnd_p (.inr rfl) ?_ | refine dc1_p hW ?_ | refine ac1_p hW ?_) | simp (disch := omega) only [go_sem, h10, h1, h11, hlt', Nat.reduceAdd, Nat.reduceSub, Nat.reduceMul, Nat.reduceLeDiff, Nat.reduceLT, Nat.reduceEqDiff, Int.reduceLT, Int.reduceLE, Int.reduceToNat, Int.reduceAdd, Int.reduceSub, Int.reduceMul, Int.reduceEq, Int.reduceNeg, reduceCtorEq, true_and, and_true, Int.toNat_natCast, List.getElem?_map, Option.map_some, List.length_map, List.length_take, List.length_drop, List.length_append, Nat.sub_zero, Int.toNat_zero, List.length_replicate, Bool.true_or, Bool.or_true, Bool.false_or, Bool.or_false, false_implies, implies_true]))
    · have hlt' : ¬ (0 : Int) < (l.length : Int) := by omega
      (repeat' (first | with_reducible (first | refine agr_d (fun hc => ?_) fun hc => ?_ | refine agr_n (fun hc => ?_) fun hc => ?_ | refine acd_d (fun hc => ?_) fun hc => ?_ | refine acd_n (fun hc => ?_) fun hc => ?_ | refine dgr_d (fun hc => ?_) fun hc => ?_ | refine dgr_n (fun hc => ?_) fun hc => ?_ | refine dl_sound _ _ [] [] [] _ _ (fun _ h => absurd h List.not_mem_nil) ?_ | refine conEnd_p (.inl rfl) ?_ | refine conEnd_p (.inr rfl) ?_ | refine dc1_p hW ?_ | refine ac1_p hW ?_) | simp (disch := omega) only [go_sem, h10, h1, h11, hlt', Nat.reduceAdd, Nat.reduceSub, Nat.reduceMul, Nat.reduceLeDiff, Nat.reduceLT, Nat.reduceEqDiff, Int.reduceLT, Int.reduceLE, Int.reduceToNat, Int.reduceAdd, Int.reduceSub, Int.reduceMul, Int.reduceEq, Int.reduceNeg, reduceCtorEq, true_and, and_true, Int.toNat_natCast, List.getElem?_map, Option.map_some, List.length_map, List.length_take, List.length_drop, List.length_append, Nat.sub_zero, Int.toNat_zero, List.length_replicate, Bool.true_or, Bool.or_true, Bool.false_or, Bool.or_false, false_implies, implies_true]))
  rw [e] at hM
  obtain rfl : n = 5 := by omega
  have hz0 : Sz (newD 5 ss) 0 := newD_sz (by omega) 0
  have hnx0 : (newD 5 ss).next = 1 := rfl
  have hk0 : (newD 5 ss).keys.length = 5 := rfl
  generalize newD 5 ss = d0 at *
  (repeat' (first | with_reducible (first | refine agr_d (fun hc => ?_) fun hc => ?_ | refine agr_n (fun hc => ?_) fun hc => ?_ | refine acd_d (fun hc => ?_) fun hc => ?_ | refine acd_n (fun hc => ?_) fun hc => ?_ | refine dgr_d (fun hc => ?_) fun hc => ?_ | refine dgr_n (fun hc => ?_) fun hc => ?_ | refine dl_sound _ _ [] [] [] _ _ (fun _ h => absurd h List.not_mem_nil) ?_ | refine dc1_p hG ?_ | refine ac1_p hG ?_ | refine dc1_p hG2 ?_ | refine ac1_p hG2 ?_ | refine dc1_p hM ?_ | refine ac1_p hM ?_) | simp (disch := omega) only [go_sem, h40', hn0, hn3, devV, pairV, Nat.reduceAdd, Nat.reduceSub, Nat.reduceMul, Nat.reduceLeDiff, Nat.reduceLT, Nat.reduceEqDiff, Int.reduceLT, Int.reduceLE, Int.reduceToNat, Int.reduceAdd, Int.reduceSub, Int.reduceMul, Int.reduceEq, Int.reduceNeg, reduceCtorEq, true_and, and_true, Int.toNat_natCast, List.getElem?_map, Option.map_some, List.length_map, List.length_take, List.length_drop, List.length_append, Nat.sub_zero, Int.toNat_zero, List.length_replicate, Bool.true_or, Bool.or_true, Bool.false_or, Bool.or_false, false_implies, implies_true]))
  refine awp_for l.length (fun j fr st => ∃ d, MayD d ∧ Sz d j ∧ d.next ≤ 1 + j ∧ d.keys.length = 5 ∧ ev fr (.tmp 10) = .int .i64 0 ∧ ev fr (.tmp 1) = .sl (l.map deV) fm ∧ ev fr (.tmp 2) = .int .i64 node ∧ ev fr (.tmp 3) = .sl (more.map deV) fn ∧ ev fr (.tmp 11) = .int .i64 j ∧ ev fr (.tmp 9) = .ptr 0 0 0 ∧ st.get 0 = some (devB d) ∧ 0 < st.c) ?_ ?_
  · refine ⟨d0, hmay, hz0, by omega, hk0, ?_, ?_, ?_, ?_, ?_, ?_, ?_, ?_⟩ <;> first | (simp (disch := omega) only [go_sem, Nat.reduceAdd, Nat.reduceSub, Nat.reduceMul, Nat.reduceLeDiff, Nat.reduceLT, Nat.reduceEqDiff, Int.reduceLT, Int.reduceLE, Int.reduceToNat, Int.reduceAdd, Int.reduceSub, Int.reduceMul, Int.reduceEq, Int.reduceNeg, reduceCtorEq, true_and, and_true, Int.toNat_natCast, List.getElem?_map, Option.map_some, List.length_map, List.length_take, List.length_drop, List.length_append, Nat.sub_zero, Int.toNat_zero, List.length_replicate, Bool.true_or, Bool.or_true, Bool.false_or, Bool.or_false, false_implies, implies_true]; done) | (simp (disch := omega) only [go_sem, Nat.reduceAdd, Nat.reduceSub, Nat.reduceMul, Nat.reduceLeDiff, Nat.reduceLT, Nat.reduceEqDiff, Int.reduceLT, Int.reduceLE, Int.reduceToNat, Int.reduceAdd, Int.reduceSub, Int.reduceMul, Int.reduceEq, Int.reduceNeg, reduceCtorEq, true_and, and_true, Int.toNat_natCast, List.getElem?_map, Option.map_some, List.length_map, List.length_take, List.length_drop, List.length_append, Nat.sub_zero, Int.toNat_zero, List.length_replicate, Bool.true_or, Bool.or_true, Bool.false_or, Bool.or_false, false_implies, implies_true] <;> rfl) | (show 0 < _; omega)
  rintro j fr st hj ⟨d, hm, hz, hnx, hk, h10, h1, h2, h3, h11, h9, q0, hc⟩
  by_cases hlt : j < l.length
  · have hgj : l[j]? = some l[j] := List.getElem?_eq_getElem hlt
    have hxj := deed_in (hx l[j] (List.getElem_mem hlt)) (hb l[j] (List.getElem_mem hlt))
    have hd : DevOk d := may_ok hm hz (by omega)
    have hm' : MayD (deedR d l[j]).1 := deed_may hm
    have hz' : Sz (deedR d l[j]).1 (j + 1) := deed_size hz
    have c2 := his_con d hd l[j] hxj
    obtain ⟨hn1, hk1⟩ := deed_next (d := d) (x := l[j])
    simp only [deV] at c2
    generalize deedR d l[j] = o at *
    obtain ⟨d', s', e'⟩ := o
    dsimp only at *
    have hlt' : (j : Int) < (l.length : Int) := by omega
    (repeat' (first | with_reducible (first | refine agr_d (fun hc => ?_) fun hc => ?_ | refine agr_n (fun hc => ?_) fun hc => ?_ | refine acd_d (fun hc => ?_) fun hc => ?_ | refine acd_n (fun hc => ?_) fun hc => ?_ | refine dgr_d (fun hc => ?_) fun hc => ?_ | refine dgr_n (fun hc => ?_) fun hc => ?_ | refine dl_sound _ _ [] [] [] _ _ (fun _ h => absurd h List.not_mem_nil) ?_ | refine conEnd_p (.inl rfl) ?_ | refine conEnd_p (.inr rfl) ?_ | refine dc1_p c2 ?_ | refine ac1_p c2 ?_) | simp (disch := omega) only [go_sem, h10, h1, h2, h3, h11, h9, q0, hgj, devB, devV, deV, doV, hlt', tl_eq, List.size_toArray, List.length_cons, List.length_nil, Nat.reduceAdd, Nat.reduceSub, Nat.reduceMul, Nat.reduceLeDiff, Nat.reduceLT, Nat.reduceEqDiff, Int.reduceLT, Int.reduceLE, Int.reduceToNat, Int.reduceAdd, Int.reduceSub, Int.reduceMul, Int.reduceEq, Int.reduceNeg, reduceCtorEq, true_and, and_true, Int.toNat_natCast, List.getElem?_map, Option.map_some, List.length_map, List.length_take, List.length_drop, List.length_append, Nat.sub_zero, Int.toNat_zero, List.length_replicate, Bool.true_or, Bool.or_true, Bool.false_or, Bool.or_false, false_implies, implies_true]))
    exact ⟨j + 1, by omega, by omega, d', hm', hz', by omega, by omega, rfl, rfl⟩
  have hlt' : ¬ (j : Int) < (l.length : Int) := by omega
  have hnk : node < d.keys.length := by omega
  have hgk : d.keys[node]? = some d.keys[node] := List.getElem?_eq_getElem hnk
  have hgd : d.keys.getD node 0 = d.keys[node] := getD_at hnk
  by_cases hkz : d.keys[node] = 0
  · (repeat' (first | with_reducible (first | refine agr_d (fun hc => ?_) fun hc => ?_ | refine agr_n (fun hc => ?_) fun hc => ?_ | refine acd_d (fun hc => ?_) fun hc => ?_ | refine acd_n (fun hc => ?_) fun hc => ?_ | refine dgr_d (fun hc => ?_) fun hc => ?_ | refine dgr_n (fun hc => ?_) fun hc => ?_ | refine dl_sound _ _ [] [] [] _ _ (fun _ h => absurd h List.not_mem_nil) ?_ | refine conEnd_p (.inl rfl) ?_ | refine conEnd_p (.inr rfl) ?_ | refine dc1_p hW ?_ | refine ac1_p hW ?_) | simp (disch := omega) only [go_sem, h10, h1, h2, h3, h11, h9, q0, hlt', devB, devV, hgk, hkz, Nat.reduceAdd, Nat.reduceSub, Nat.reduceMul, Nat.reduceLeDiff, Nat.reduceLT, Nat.reduceEqDiff, Int.reduceLT, Int.reduceLE, Int.reduceToNat, Int.reduceAdd, Int.reduceSub, Int.reduceMul, Int.reduceEq, Int.reduceNeg, reduceCtorEq, true_and, and_true, Int.toNat_natCast, List.getElem?_map, Option.map_some, List.length_map, List.length_take, List.length_drop, List.length_append, Nat.sub_zero, Int.toNat_zero, List.length_replicate, Bool.true_or, Bool.or_true, Bool.false_or, Bool.or_false, false_implies, implies_true]))
  obtain ⟨d1, d2, F⟩ := fences (node := node) hm hk (by omega) (by rw [hgd]; exact hkz) (by omega)
  have hd : DevOk d := may_ok hm hz (by omega)
  have hmm : MayD d1 := F.m1
  have hz1 : Sz (doR d 4 ⟨6, 0, ⟨#[]⟩, 0⟩).1 (j + 1) := deed_size (x := ⟨0, 4, ⟨6, 0, ⟨#[]⟩, 0⟩, 0⟩) hz
  rw [F.r] at hz1
  have hz2 : Sz (doR d1 4 ⟨5, 0, ⟨#[]⟩, d.keys.getD node 0⟩).1 (j + 1 + 1) := deed_size (x := ⟨0, 4, ⟨5, 0, ⟨#[]⟩, d.keys.getD node 0⟩, 0⟩) hz1
  rw [F.fe] at hz2
  dsimp only at hz1 hz2
  have hd1 : DevOk d1 := may_ok hmm hz1 (by omega)
  have hd2 : DevOk d2 := may_ok F.lock.may hz2 (by omega)
  have hkr : -9223372036854775808 ≤ d.keys[node] ∧ d.keys[node] ≤ 9223372036854775807 := by have := hd.ki node hnk; omega
  have c1 := Do_con d hd 4 ⟨6, 0, ⟨#[]⟩, 0⟩ (acok (by decide) (by decide) (by decide) (by decide))
  rw [F.r] at c1
  have c2 := dDo_con d1 hd1 4 ⟨5, 0, ⟨#[]⟩, d.keys.getD node 0⟩ ⟨by dsimp only; omega, by dsimp only; omega, by show (0 : Nat) ≤ _; omega, by rw [hgd]; exact hkr⟩
  rw [F.fe] at c2
  rw [hgd] at c2
  have hl5 := F.l1
  have hk2 := F.k2
  have hkn := F.k1
  rw [hgd] at hkn
  have hn1 : node < d1.keys.length := by omega
  have hgk1 : d1.keys[node]? = some d.keys[node] := by rw [List.getElem?_eq_getElem hn1, ← getD_at (a := 0) hn1, hkn]
  have hgk2 : d2.keys[node]? = some d.keys[node] := by rw [hk2]; exact hgk1
  have h42 : 4 < d2.keys.length := by rw [hk2]; omega
  have hg42 : d2.keys[4]? = some d2.keys[4] := List.getElem?_eq_getElem h42
  have hg4d : d2.keys.getD 4 0 = d2.keys[4] := getD_at h42
  have hF1 := F.f1
  rw [hgd] at hF1
  have hF2 := F.f2
  rw [hg4d] at hF2
  have e1 := dFenced_con d2 [d.keys[node]] false (by have := hd2.f; omega) (by simp)
  rw [hF1] at e1
  have e2 := dFenced_con d2 [d2.keys[4]] false (by have := hd2.f; omega) (by simp)
  rw [hF2] at e2
  simp only [List.map_cons, List.map_nil, inV] at e1 e2
  have hl52 : d2.keys.length = 5 := by rw [hk2]; exact hl5
  have hs2 := F.s2
  have hlock := F.lock
  have hpD : Plain (devV d2) := (plain_dev _).2 trivial
  have hpk : ∀ k : Int, Plain (.sl [[.int .i64 k]] false) := fun k => (plain_in [k] _).2 trivial
  have hz40 := hz2.s
  have hsb : d2.s.length * 16 ≤ 140737488355328 := by omega
  have hsb2 : d2.s.length ≤ 9223372036854775807 := by omega
  clear F hm hz hmay
  (repeat' (first | (with_reducible refine dc1_sc2 (sz := 1) (lk := 0) hpD ?_ rfl (hpk _) e1 (.bool _) ?_; focus (simp (disch := omega) only [go_sem, Nat.reduceAdd, Nat.reduceSub, Nat.reduceMul, Nat.reduceLeDiff, Nat.reduceLT, Nat.reduceEqDiff, Int.reduceLT, Int.reduceLE, Int.reduceToNat, Int.reduceAdd, Int.reduceSub, Int.reduceMul, Int.reduceEq, Int.reduceNeg, reduceCtorEq, true_and, and_true, Int.toNat_natCast, List.getElem?_map, Option.map_some, List.length_map, List.length_take, List.length_drop, List.length_append, Nat.sub_zero, Int.toNat_zero, List.length_replicate, Bool.true_or, Bool.or_true, Bool.false_or, Bool.or_false, false_implies, implies_true]; done)) | (with_reducible refine dc1_sc2 (sz := 1) (lk := 0) hpD ?_ rfl (hpk _) e2 (.bool _) ?_; focus (simp (disch := omega) only [go_sem, Nat.reduceAdd, Nat.reduceSub, Nat.reduceMul, Nat.reduceLeDiff, Nat.reduceLT, Nat.reduceEqDiff, Int.reduceLT, Int.reduceLE, Int.reduceToNat, Int.reduceAdd, Int.reduceSub, Int.reduceMul, Int.reduceEq, Int.reduceNeg, reduceCtorEq, true_and, and_true, Int.toNat_natCast, List.getElem?_map, Option.map_some, List.length_map, List.length_take, List.length_drop, List.length_append, Nat.sub_zero, Int.toNat_zero, List.length_replicate, Bool.true_or, Bool.or_true, Bool.false_or, Bool.or_false, false_implies, implies_true]; done)) | with_reducible (first | refine agr_d (fun hc => ?_) fun hc => ?_ | refine agr_n (fun hc => ?_) fun hc => ?_ | refine acd_d (fun hc => ?_) fun hc => ?_ | refine acd_n (fun hc => ?_) fun hc => ?_ | refine dgr_d (fun hc => ?_) fun hc => ?_ | refine dgr_n (fun hc => ?_) fun hc => ?_ | refine dl_sound _ _ [] [] [] _ _ (fun _ h => absurd h List.not_mem_nil) ?_ | refine dc1_p c1 ?_ | refine ac1_p c1 ?_ | refine dc1_p c2 ?_ | refine ac1_p c2 ?_) | simp (disch := omega) only [go_sem, hsb, hsb2, decide_true, Bool.and_true, cond_true, List.size_toArray, List.length_cons, List.length_nil, h10, h1, h2, h3, h11, h9, q0, hlt', devB, devV, hgk, hkz, hgk1, hgk2, hl52, hg42, Nat.reduceAdd, Nat.reduceSub, Nat.reduceMul, Nat.reduceLeDiff, Nat.reduceLT, Nat.reduceEqDiff, Int.reduceLT, Int.reduceLE, Int.reduceToNat, Int.reduceAdd, Int.reduceSub, Int.reduceMul, Int.reduceEq, Int.reduceNeg, reduceCtorEq, true_and, and_true, Int.toNat_natCast, List.getElem?_map, Option.map_some, List.length_map, List.length_take, List.length_drop, List.length_append, Nat.sub_zero, Int.toNat_zero, List.length_replicate, Bool.true_or, Bool.or_true, Bool.false_or, Bool.or_false, false_implies, implies_true]))
  obtain ⟨bw, hbw⟩ : ∃ b, b = st.c + 1 + 14 + 28 + 1 := ⟨_, rfl⟩
  refine awp_for more.length (fun i fr st => ∃ d', Locked d' node d2.s (d.next + 1) ∧ Sz d' (j + 2 + i) ∧ ev fr (.tmp 2) = .int .i64 node ∧ ev fr (.tmp 3) = .sl (more.map deV) fn ∧ ev fr (.tmp 13) = .int .i64 i ∧ ev fr (.tmp 9) = .ptr 0 0 0 ∧ ev fr (.tmp 12) = .bs bw 0 d2.s.length d2.s.length ∧ st.get 0 = some (devB d') ∧ st.get bw = some ⟨d2.s.map txV, 1, 0⟩ ∧ 0 < bw ∧ bw < st.c) ?_ ?_
  · refine ⟨d2, hs2 ▸ hlock, hz2, ?_, ?_, ?_, ?_, ?_, ?_, ?_, by omega, ?_⟩ <;> first | (simp (disch := omega) only [go_sem, hbw, h2, h3, h9, devB, Nat.reduceAdd, Nat.reduceSub, Nat.reduceMul, Nat.reduceLeDiff, Nat.reduceLT, Nat.reduceEqDiff, Int.reduceLT, Int.reduceLE, Int.reduceToNat, Int.reduceAdd, Int.reduceSub, Int.reduceMul, Int.reduceEq, Int.reduceNeg, reduceCtorEq, true_and, and_true, Int.toNat_natCast, List.getElem?_map, Option.map_some, List.length_map, List.length_take, List.length_drop, List.length_append, Nat.sub_zero, Int.toNat_zero, List.length_replicate, Bool.true_or, Bool.or_true, Bool.false_or, Bool.or_false, false_implies, implies_true]; done) | (simp (disch := omega) only [go_sem, hbw, h2, h3, h9, devB, Nat.reduceAdd, Nat.reduceSub, Nat.reduceMul, Nat.reduceLeDiff, Nat.reduceLT, Nat.reduceEqDiff, Int.reduceLT, Int.reduceLE, Int.reduceToNat, Int.reduceAdd, Int.reduceSub, Int.reduceMul, Int.reduceEq, Int.reduceNeg, reduceCtorEq, true_and, and_true, Int.toNat_natCast, List.getElem?_map, Option.map_some, List.length_map, List.length_take, List.length_drop, List.length_append, Nat.sub_zero, Int.toNat_zero, List.length_replicate, Bool.true_or, Bool.or_true, Bool.false_or, Bool.or_false, false_implies, implies_true] <;> rfl) | (show _ < _ + _; omega)
  clear h10 h1 h2 h3 h11 h9 q0 hc hl52 hlock
  rintro i fr st' hi ⟨d', hlk, hz', h2, h3, h13, h9, h12, q0, qw, hb0, hbc⟩
  have hdd : DevOk d' := may_ok hlk.may hz' (by omega)
  by_cases hlt2 : i < more.length
  · have hgi : more[i]? = some more[i] := List.getElem?_eq_getElem hlt2
    have hlt2' : (i : Int) < (more.length : Int) := by omega
    have hxi := deed_in (hmx more[i] (List.getElem_mem hlt2)) (hmb more[i] (List.getElem_mem hlt2))
    have c3 := does_con d' hdd (fixD node more[i]) (fixD_ok hxi)
    have hlk2 := locked_deed hlk (x := fixD node more[i]) rfl (fun q => by
      have q1 := q.1
      have q2 := q.2
      unfold fixD at q1 q2
      dsimp only at q1 q2
      split at q1
      · cases q1
      · rename_i h; exact h ⟨q1, q2⟩)
    have hz2' : Sz (deedR d' (fixD node more[i])).1 (j + 2 + i + 1) := deed_size hz'
    have c4 := SameS_con (deedR d' (fixD node more[i])).1.s d2.s false false (by rw [hlk2.1.s]; omega) (by omega)
    rw [decide_eq_true hlk2.1.s] at c4
    replace c4 := c4.1
    have hfd : (fixD node more[i]).d = if more[i].d = 0 ∧ more[i].a.k = 6 then 1 else more[i].d := rfl
    have hl2 := hlk2.1
    have hl3 := hlk2.2
    rw [hfd] at hl3
    simp only [deV, fixD] at c3
    have e9 : deedR d' { d := if more[i].d = 0 ∧ more[i].a.k = 6 then 1 else more[i].d, node := (node : Int), a := more[i].a, kept := more[i].kept } = deedR d' (fixD node more[i]) := rfl
    rw [e9] at c3
    clear hlk2 hlk hdd hxi e9 hfd
    generalize deedR d' (fixD node more[i]) = o at *
    obtain ⟨d'', s'', e''⟩ := o
    dsimp only at *
    have hpS : Plain (.sl (d''.s.map txV) false) := (plain_tx _ _).2 trivial
    have hpS2 : Plain (.sl (d2.s.map txV) false) := (plain_tx _ _).2 trivial
    by_cases e0 : more[i].d = 0
    · by_cases e6 : more[i].a.k = 6
      · rw [if_pos ⟨e0, e6⟩, e6] at c3
        (repeat' (first | with_reducible (first | refine agr_d (fun hc => ?_) fun hc => ?_ | refine agr_n (fun hc => ?_) fun hc => ?_ | refine acd_d (fun hc => ?_) fun hc => ?_ | refine acd_n (fun hc => ?_) fun hc => ?_ | refine dgr_d (fun hc => ?_) fun hc => ?_ | refine dgr_n (fun hc => ?_) fun hc => ?_ | refine dl_sound _ _ [] [] [] _ _ (fun _ h => absurd h List.not_mem_nil) ?_ | refine conEnd_p (.inl rfl) ?_ | refine conEnd_p (.inr rfl) ?_ | refine dc1_p c3 ?_ | refine ac1_p c3 ?_ | refine ac1_sc mny (fzs_two (.plain _ hpS) (fz_row (sz := 1) (lk := 0) ?_ ?_ ?_ hpS2)) c4 (.bool _) ?_) | simp (disch := omega) only [go_sem, h2, h3, h13, h9, h12, q0, qw, hgi, hlt2', devB, devV, deV, doV, tl_eq, List.size_toArray, List.length_cons, List.length_nil, e0, e6, Nat.reduceAdd, Nat.reduceSub, Nat.reduceMul, Nat.reduceLeDiff, Nat.reduceLT, Nat.reduceEqDiff, Int.reduceLT, Int.reduceLE, Int.reduceToNat, Int.reduceAdd, Int.reduceSub, Int.reduceMul, Int.reduceEq, Int.reduceNeg, reduceCtorEq, true_and, and_true, Int.toNat_natCast, List.getElem?_map, Option.map_some, List.length_map, List.length_take, List.length_drop, List.length_append, Nat.sub_zero, Int.toNat_zero, List.length_replicate, Bool.true_or, Bool.or_true, Bool.false_or, Bool.or_false, false_implies, implies_true]))
        · omega
        · exact ⟨i + 1, by omega, by omega, d'', hl2, hz2', rfl, rfl, hb0⟩
      · rw [if_neg (fun q => e6 q.2)] at c3 hl3
        obtain ⟨r1, rfl⟩ := hl3 e0
        rw [e0] at c3
        rcases r1 with rfl | rfl
        · (repeat' (first | with_reducible (first | refine agr_d (fun hc => ?_) fun hc => ?_ | refine agr_n (fun hc => ?_) fun hc => ?_ | refine acd_d (fun hc => ?_) fun hc => ?_ | refine acd_n (fun hc => ?_) fun hc => ?_ | refine dgr_d (fun hc => ?_) fun hc => ?_ | refine dgr_n (fun hc => ?_) fun hc => ?_ | refine dl_sound _ _ [] [] [] _ _ (fun _ h => absurd h List.not_mem_nil) ?_ | refine conEnd_p (.inl rfl) ?_ | refine conEnd_p (.inr rfl) ?_ | refine dc1_p c3 ?_ | refine ac1_p c3 ?_ | refine ac1_sc mny (fzs_two (.plain _ hpS) (fz_row (sz := 1) (lk := 0) ?_ ?_ ?_ hpS2)) c4 (.bool _) ?_) | simp (disch := omega) only [go_sem, h2, h3, h13, h9, h12, q0, qw, hgi, hlt2', devB, devV, deV, doV, tl_eq, List.size_toArray, List.length_cons, List.length_nil, e0, e6, Nat.reduceAdd, Nat.reduceSub, Nat.reduceMul, Nat.reduceLeDiff, Nat.reduceLT, Nat.reduceEqDiff, Int.reduceLT, Int.reduceLE, Int.reduceToNat, Int.reduceAdd, Int.reduceSub, Int.reduceMul, Int.reduceEq, Int.reduceNeg, reduceCtorEq, true_and, and_true, Int.toNat_natCast, List.getElem?_map, Option.map_some, List.length_map, List.length_take, List.length_drop, List.length_append, Nat.sub_zero, Int.toNat_zero, List.length_replicate, Bool.true_or, Bool.or_true, Bool.false_or, Bool.or_false, false_implies, implies_true]))
          · omega
          · exact ⟨i + 1, by omega, by omega, d'', hl2, hz2', rfl, rfl, hb0⟩
        · (repeat' (first | with_reducible (first | refine agr_d (fun hc => ?_) fun hc => ?_ | refine agr_n (fun hc => ?_) fun hc => ?_ | refine acd_d (fun hc => ?_) fun hc => ?_ | refine acd_n (fun hc => ?_) fun hc => ?_ | refine dgr_d (fun hc => ?_) fun hc => ?_ | refine dgr_n (fun hc => ?_) fun hc => ?_ | refine dl_sound _ _ [] [] [] _ _ (fun _ h => absurd h List.not_mem_nil) ?_ | refine conEnd_p (.inl rfl) ?_ | refine conEnd_p (.inr rfl) ?_ | refine dc1_p c3 ?_ | refine ac1_p c3 ?_ | refine ac1_sc mny (fzs_two (.plain _ hpS) (fz_row (sz := 1) (lk := 0) ?_ ?_ ?_ hpS2)) c4 (.bool _) ?_) | simp (disch := omega) only [go_sem, h2, h3, h13, h9, h12, q0, qw, hgi, hlt2', devB, devV, deV, doV, tl_eq, List.size_toArray, List.length_cons, List.length_nil, e0, e6, Nat.reduceAdd, Nat.reduceSub, Nat.reduceMul, Nat.reduceLeDiff, Nat.reduceLT, Nat.reduceEqDiff, Int.reduceLT, Int.reduceLE, Int.reduceToNat, Int.reduceAdd, Int.reduceSub, Int.reduceMul, Int.reduceEq, Int.reduceNeg, reduceCtorEq, true_and, and_true, Int.toNat_natCast, List.getElem?_map, Option.map_some, List.length_map, List.length_take, List.length_drop, List.length_append, Nat.sub_zero, Int.toNat_zero, List.length_replicate, Bool.true_or, Bool.or_true, Bool.false_or, Bool.or_false, false_implies, implies_true]))
          · omega
          · exact ⟨i + 1, by omega, by omega, d'', hl2, hz2', rfl, rfl, hb0⟩
    · rw [if_neg (fun q => e0 q.1)] at c3
      (repeat' (first | with_reducible (first | refine agr_d (fun hc => ?_) fun hc => ?_ | refine agr_n (fun hc => ?_) fun hc => ?_ | refine acd_d (fun hc => ?_) fun hc => ?_ | refine acd_n (fun hc => ?_) fun hc => ?_ | refine dgr_d (fun hc => ?_) fun hc => ?_ | refine dgr_n (fun hc => ?_) fun hc => ?_ | refine dl_sound _ _ [] [] [] _ _ (fun _ h => absurd h List.not_mem_nil) ?_ | refine conEnd_p (.inl rfl) ?_ | refine conEnd_p (.inr rfl) ?_ | refine dc1_p c3 ?_ | refine ac1_p c3 ?_ | refine ac1_sc mny (fzs_two (.plain _ hpS) (fz_row (sz := 1) (lk := 0) ?_ ?_ ?_ hpS2)) c4 (.bool _) ?_) | simp (disch := omega) only [go_sem, h2, h3, h13, h9, h12, q0, qw, hgi, hlt2', devB, devV, deV, doV, tl_eq, List.size_toArray, List.length_cons, List.length_nil, e0, Nat.reduceAdd, Nat.reduceSub, Nat.reduceMul, Nat.reduceLeDiff, Nat.reduceLT, Nat.reduceEqDiff, Int.reduceLT, Int.reduceLE, Int.reduceToNat, Int.reduceAdd, Int.reduceSub, Int.reduceMul, Int.reduceEq, Int.reduceNeg, reduceCtorEq, true_and, and_true, Int.toNat_natCast, List.getElem?_map, Option.map_some, List.length_map, List.length_take, List.length_drop, List.length_append, Nat.sub_zero, Int.toNat_zero, List.length_replicate, Bool.true_or, Bool.or_true, Bool.false_or, Bool.or_false, false_implies, implies_true]))
      · omega
      · exact ⟨i + 1, by omega, by omega, d'', hl2, hz2', rfl, rfl, hb0⟩
  · have hlt2' : ¬ (i : Int) < (more.length : Int) := by omega
    have hr := reg_ok (d := d') (node := node) hlk.may (by have := hlk.k; omega) (by have := hlk.n; omega)
    have c5 := dDo_con d' hdd node ⟨6, 0, ⟨#[]⟩, 0⟩ (acok (by decide) (by decide) (by decide) (by decide))
    rw [hr] at c5
    have hk6 := key6_size (16 * d'.next + node)
    generalize key6 (16 * d'.next + node) = ky at *
    (repeat' (first | with_reducible (first | refine agr_d (fun hc => ?_) fun hc => ?_ | refine agr_n (fun hc => ?_) fun hc => ?_ | refine acd_d (fun hc => ?_) fun hc => ?_ | refine acd_n (fun hc => ?_) fun hc => ?_ | refine dgr_d (fun hc => ?_) fun hc => ?_ | refine dgr_n (fun hc => ?_) fun hc => ?_ | refine dl_sound _ _ [] [] [] _ _ (fun _ h => absurd h List.not_mem_nil) ?_ | refine conEnd_p (.inl rfl) ?_ | refine conEnd_p (.inr rfl) ?_ | refine dc1_p c5 ?_ | refine ac1_p c5 ?_ | refine dc1_p hW ?_ | refine ac1_p hW ?_) | simp (disch := omega) only [go_sem, h2, h3, h13, h9, h12, q0, qw, hlt2', devB, devV, hk6, Nat.reduceAdd, Nat.reduceSub, Nat.reduceMul, Nat.reduceLeDiff, Nat.reduceLT, Nat.reduceEqDiff, Int.reduceLT, Int.reduceLE, Int.reduceToNat, Int.reduceAdd, Int.reduceSub, Int.reduceMul, Int.reduceEq, Int.reduceNeg, reduceCtorEq, true_and, and_true, Int.toNat_natCast, List.getElem?_map, Option.map_some, List.length_map, List.length_take, List.length_drop, List.length_append, Nat.sub_zero, Int.toNat_zero, List.length_replicate, Bool.true_or, Bool.or_true, Bool.false_or, Bool.or_false, false_implies, implies_true]))
end Go.Proofs.Ytllijcnbjbfabaa

namespace Go.Proofs.Ytllijcnbjbfabaa
open Go.RowKit
set_option linter.unusedSimpArgs false
set_option linter.unusedVariables false

def allS (w : World) : Stab := fun g _ => g < w.heap.size
theorem reads_vr {w : World} {sz c : Nat} {A : Option Addr} {xs : List Value} {es : List (List V)} (h : Reads w w.heap.size sz A es.length xs) (hrow : ∀ r ∈ es, r.length = sz) (h0 : 0 < sz)
    (hx : ∀ i (hi : i < es.length) j (hj : j < es[i].length), ∃ u, xs[i * sz + j]? = some u ∧ u.oneCell' = true ∧ VR noMu (allS w) w es[i][j] u) (hc : es.length ≤ c) : VR noMu (allS w) w (.sl es false) (.slice A es.length c) := by
  rcases Nat.eq_zero_or_pos es.length with hn | hn
  · have : es = [] := List.length_eq_zero_iff.1 hn
    subst this
    exact .sl0 false _ _ (by simp)
  · obtain ⟨ad, rfl, hb, hcell⟩ := h.2 hn
    have hsp : ad = ⟨ad.block, ad.off, none⟩ := by
      obtain ⟨u, h1, _⟩ := hx 0 hn 0 (by rw [hrow _ (List.getElem_mem hn)]; exact h0)
      have h2 := hcell _ _ h1
      simp only [Nat.zero_mul, Nat.add_zero] at h2
      have h3 : ad.add 0 = ad := rfl
      rw [h3] at h2
      unfold World.cell? at h2
      cases hs : ad.spot with
      | none => rw [← hs]
      | some z =>
        rw [hs] at h2
        split at h2
        · simp at h2
        · cases h2
    rw [hsp]
    refine .sl1 es false ad.block ad.off c sz (fun i j => (xs[i * sz + j]?).getD Go.undef) hn hc (by simp) (fun i hi => hrow _ (List.getElem_mem hi)) (fun i j _ _ => hb) (fun i j hi hj => ?_) (fun i j hi hj => ?_) (fun i hi j hj => ?_)
    · obtain ⟨u, h1, h2, h3⟩ := hx i hi j (by rw [hrow _ (List.getElem_mem hi)]; exact hj)
      have := hcell _ _ h1
      rw [hsp, add_none] at this
      rw [h1, Nat.add_assoc]
      exact this
    · obtain ⟨u, h1, h2, h3⟩ := hx i hi j (by rw [hrow _ (List.getElem_mem hi)]; exact hj)
      rw [h1]; exact h2
    · obtain ⟨u, h1, h2, h3⟩ := hx i hi j hj
      rw [h1]; exact h3
/-- a contract that says true, as a walk -/
theorem walk_of_con {g : FuncId} {args : List V} {vs : List Value} {w : World} (h : Con Try.prog g args (· = .bool true)) (hv : VRs noMu (allS w) w args vs) :
    Calls Try.prog g vs.toArray w fun e w' => e = .returned (.bool true) ∧ Below w.heap.size w w' := by
  refine (h.2 w (allS w) vs (fun _ _ h => h) hv).mono ?_
  rintro e w' ⟨v, r, S', rfl, rfl, _, hr, _, _, _, hB⟩
  rw [VR.bool_inv hr]
  exact ⟨rfl, hB⟩
end Go.Proofs.Ytllijcnbjbfabaa

namespace Go.Proofs.Ytllijcnbjbfabaa
open Go.ChangeShapes Go.WideShapes Go.ChangeAt Go.RowKit Go.Joins Go.Deep
set_option linter.unusedSimpArgs false
set_option linter.unusedVariables false

theorem flat_len {α β : Type} (f : α → List β) (sz : Nat) (hf : ∀ x, (f x).length = sz) (l : List α) : (l.flatMap f).length = l.length * sz := by
  induction l with
  | nil => simp
  | cons x l ih => rw [List.flatMap_cons, List.length_append, hf, ih, List.length_cons, Nat.succ_mul]; omega
theorem flat_get {α β : Type} (f : α → List β) (sz : Nat) (hf : ∀ x, (f x).length = sz) (l : List α) (i j : Nat) (hi : i < l.length) (hj : j < sz) : (l.flatMap f)[i * sz + j]? = (f l[i])[j]? := by
  induction l generalizing i with
  | nil => simp at hi
  | cons x l ih =>
    rw [List.flatMap_cons]
    cases i with
    | zero =>
      rw [Nat.zero_mul, Nat.zero_add, List.getElem?_append_left (by rw [hf]; exact hj)]
      rfl
    | succ i =>
      rw [List.getElem?_append_right (by rw [hf, Nat.succ_mul]; omega), hf, show (i + 1) * sz + j - sz = i * sz + j by rw [Nat.succ_mul]; omega]
      exact ih i (by simpa using hi)
theorem flat_map {α β : Type} (f : α → β) (l : List α) : (l.flatMap fun s => [f s]) = l.map f := by
  induction l with
  | nil => rfl
  | cons x l ih => rw [List.flatMap_cons, ih]; rfl
/-- a slice of rows, read cell by cell -/
theorem rows_vr {α : Type} {w : World} {c sz : Nat} {A : Option Addr} (l : List α) (f : α → List Value) (g : α → List V) (hf : ∀ x, (f x).length = sz) (hg : ∀ x, (g x).length = sz) (h0 : 0 < sz) (hone : ∀ x, ∀ u ∈ f x, u.oneCell' = true)
    (hv : ∀ x j (h1 : j < (g x).length) (h2 : j < (f x).length), VR noMu (allS w) w (g x)[j] (f x)[j]) (h : Reads w w.heap.size sz A l.length (l.flatMap f)) (hc : l.length ≤ c) : VR noMu (allS w) w (.sl (l.map g) false) (.slice A l.length c) := by
  have := reads_vr (es := l.map g) (sz := sz) (c := c) (A := A) (xs := l.flatMap f) (w := w) (by rw [List.length_map]; exact h) (fun r hr => by obtain ⟨p, _, rfl⟩ := List.mem_map.1 hr; exact hg p) h0 (fun i hi j hj => ?_) (by rw [List.length_map]; exact hc)
  · rw [List.length_map] at this
    exact this
  · rw [List.length_map] at hi
    simp only [List.getElem_map] at hj ⊢
    have hj' : j < (f l[i]).length := by rw [hf, ← hg l[i]]; exact hj
    exact ⟨(f l[i])[j], by rw [flat_get f sz hf l i j hi (by rw [← hg l[i]]; exact hj), List.getElem?_eq_getElem hj'], hone _ _ (List.getElem_mem hj'), hv _ _ hj hj'⟩
def deRow (x : Deed) : List Value := [.int .i64 x.d, .int .i64 x.node, .int .i8 x.a.k, .int .i64 x.a.s, .string x.a.b, .int .i64 x.a.key, .int .u64 x.kept]
def IsDeeds (W : World) (A : Option Addr) (zs : List Deed) (c : Nat) : Prop :=
  Reads W W.heap.size 7 A zs.length (zs.flatMap deRow) ∧ (∀ x ∈ zs, DeedIn x) ∧ zs.length ≤ c ∧ c ≤ maxLen
theorem wf_i8d {n : Int} (h : (Lit.int .i8 n).wf = true) : -128 ≤ n ∧ n ≤ 127 := by
  have h1 : IntKind.i8.min = -128 := rfl
  have h2 : IntKind.i8.max = 127 := rfl
  simp only [Lit.wf, Bool.and_eq_true, decide_eq_true_eq] at h
  omega
theorem wf_u64 {n : Int} (h : (Lit.int .u64 n).wf = true) : 0 ≤ n ∧ n < 18446744073709551616 := by
  have h1 : IntKind.u64.min = 0 := rfl
  have h2 : IntKind.u64.max = 18446744073709551615 := rfl
  simp only [Lit.wf, Bool.and_eq_true, decide_eq_true_eq] at h
  omega
theorem len4 {α : Type} {l : List α} (h : l.length = 4) : ∃ a b c d, l = [a, b, c, d] := by
  match l, h with
  | [a, b, c, d], _ => exact ⟨a, b, c, d, rfl⟩
theorem len7 {α : Type} {l : List α} (h : l.length = 7) : ∃ a b c d e f g, l = [a, b, c, d, e, f, g] := by
  match l, h with
  | [a, b, c, d, e, f, g], _ => exact ⟨a, b, c, d, e, f, g, rfl⟩
set_option maxRecDepth 100000 in
theorem deed_of_cells {H : Type} {enc : TypeId × Value → H} {w : World} {base n : Nat} {spare : Nat → Bool} {held : Bool} {cs : List Value} {y : DataW H × List MemPlace}
    (h : DataW.trod enc Try.prog w base spare held n 66 cs = some y) : ∃ x : Deed, cs = deRow x ∧ DeedIn x := by
  have k0 : Try.prog.cellsOf 3 = 1 := by kernel_rfl
  have k1 : Try.prog.cellsOf 43 = 4 := by kernel_rfl
  have k2 : Try.prog.cellsOf 25 = 1 := by kernel_rfl
  have k3 : Try.prog.cellsOf 66 = 7 := by kernel_rfl
  have k4 : Try.prog.cellsOf 9 = 1 := by kernel_rfl
  obtain ⟨xs, n1, _, _, hl, hxl, hf⟩ := DataW.trod_struct Try.underlying66 h
  rw [k3] at hl
  obtain ⟨c0, c1, c2, c3, c4, c5, c6, rfl⟩ := len7 hl
  obtain ⟨x0, x1, x2, x3, rfl⟩ := len4 (show xs.length = 4 from hxl)
  have f0 : DataW.trod enc Try.prog w base spare held n1 3 (List.take (Try.prog.cellsOf 3) [c0, c1, c2, c3, c4, c5, c6]) = some x0 := hf 0 _ rfl
  have f1 : DataW.trod enc Try.prog w base spare held n1 3 (List.take (Try.prog.cellsOf 3) [c1, c2, c3, c4, c5, c6]) = some x1 := hf 1 _ rfl
  have f2 : DataW.trod enc Try.prog w base spare held n1 43 (List.take (Try.prog.cellsOf 43) [c2, c3, c4, c5, c6]) = some x2 := hf 2 _ rfl
  have f3 : DataW.trod enc Try.prog w base spare held n1 25 (List.take (Try.prog.cellsOf 25) [c6]) = some x3 := hf 3 _ rfl
  rw [k0] at f0 f1
  rw [k1] at f2
  rw [k2] at f3
  obtain ⟨n0, e0, _, w0⟩ := DataW.trod_int Try.underlying3 f0
  obtain ⟨m0, e1, _, w1⟩ := DataW.trod_int Try.underlying3 f1
  obtain ⟨u0, e3, _, w3⟩ := DataW.trod_int Try.underlying25 f3
  obtain ⟨ys, n2, _, _, hl2, hyl, hg⟩ := DataW.trod_struct Try.underlying43 f2
  obtain ⟨y0, y1, y2, y3, rfl⟩ := len4 (show ys.length = 4 from hyl)
  have g0 : DataW.trod enc Try.prog w base spare held n2 41 (List.take (Try.prog.cellsOf 41) [c2, c3, c4, c5]) = some y0 := hg 0 _ rfl
  have g1 : DataW.trod enc Try.prog w base spare held n2 3 (List.take (Try.prog.cellsOf 3) [c3, c4, c5]) = some y1 := hg 1 _ rfl
  have g2 : DataW.trod enc Try.prog w base spare held n2 9 (List.take (Try.prog.cellsOf 9) [c4, c5]) = some y2 := hg 2 _ rfl
  have g3 : DataW.trod enc Try.prog w base spare held n2 3 (List.take (Try.prog.cellsOf 3) [c5]) = some y3 := hg 3 _ rfl
  rw [k0] at g1 g3
  rw [k4] at g2
  have k5 : Try.prog.cellsOf 41 = 1 := by kernel_rfl
  rw [k5] at g0
  obtain ⟨a0, r0, _, v0⟩ := DataW.trod_int Try.underlying41 g0
  obtain ⟨a1, r1, _, v1⟩ := DataW.trod_int Try.underlying3 g1
  obtain ⟨a2, r2, _, v2⟩ := DataW.trod_string Try.underlying9 g2
  obtain ⟨a3, r3, _, v3⟩ := DataW.trod_int Try.underlying3 g3
  injection e0 with e0
  injection e1 with e1
  injection e3 with e3
  injection r0 with r0
  injection r1 with r1
  injection r2 with r2
  injection r3 with r3
  subst e0 e1 e3 r0 r1 r2 r3
  exact ⟨⟨n0, m0, ⟨a0, a1, a2, a3⟩, u0⟩, rfl, wf_i8d v0, wf_i64 v1, wf_i64 v3, wf_u64 w3⟩
set_option maxRecDepth 100000 in
theorem open_deeds_arg {H : Type} {enc : TypeId × Value → H} {w : World} {base : Nat} {held : Bool} {r : Reach} {b0 : Nat} {v : Value} {d : DataW H} {p : List MemPlace}
    (hv : Value.okWide Try.prog w r b0 62 v) (h : DataW.Trod enc Try.prog w base (fun _ => true) held 62 v d p) :
    ∃ (A : Option Addr) (zs : List Deed) (c : Nat), v = .slice A zs.length c ∧ IsDeeds w A zs c := by
  obtain ⟨a, len, cap, rfl⟩ := okWide_slice Try.underlying62 hv
  obtain ⟨fuel, hf⟩ := h
  have k3 : Try.prog.cellsOf 66 = 7 := by kernel_rfl
  rcases open_slice Try.underlying62 hf with ⟨hcs, _⟩ | ⟨x, l, c, m, n, D, Pl, hcs, _, hl, hm, hmm, _, hi⟩
  · simp [Value.cells] at hcs
    obtain ⟨rfl, rfl, rfl⟩ := hcs
    exact ⟨none, [], 0, rfl, Reads.none_, by simp, by simp, by unfold maxLen; omega⟩
  · simp [Value.cells] at hcs
    obtain ⟨rfl, rfl, rfl⟩ := hcs
    simp only [if_true] at hmm
    have key : ∀ i, i < len → ∃ q : Deed, DeedIn q ∧ ∀ j, j < 7 → w.cell? (x.add (i * 7 + j)) = (deRow q)[j]? := by
      intro i hil
      obtain ⟨cs, h1, h2⟩ := hi i (by omega)
      rw [k3] at h1
      obtain ⟨q, rfl, hq⟩ := deed_of_cells h2
      obtain ⟨_, _, hat⟩ := World.cells?_some h1
      refine ⟨q, hq, fun j hj => ?_⟩
      rw [← Go.Deep.add_add]
      exact hat j hj
    obtain ⟨zs, hzl, hz⟩ := exists_list len _ key
    refine ⟨some x, zs, cap, by rw [hzl], ⟨by rw [flat_len deRow 7 (fun _ => rfl)], fun hn => ⟨x, rfl, ?_, fun j u hu => ?_⟩⟩, ?_, by omega, hm⟩
    · obtain ⟨q, _, hq⟩ := key 0 (by omega)
      have := World.block_lt_of_cell? _ _ ((hq 0 (by omega)).trans rfl)
      rwa [block_of_add] at this
    · have hj : j < zs.length * 7 := by
        rcases Nat.lt_or_ge j (zs.length * 7) with h1 | h1
        · exact h1
        · rw [List.getElem?_eq_none (by rw [flat_len deRow 7 (fun _ => rfl)]; exact h1)] at hu; cases hu
      have hi2 : j / 7 < zs.length := by omega
      have hzz := (hz (j / 7) zs[j / 7] (List.getElem?_eq_getElem hi2)).2 (j % 7) (by omega)
      have e : j = j / 7 * 7 + j % 7 := by omega
      rw [e, flat_get deRow 7 (fun _ => rfl) zs _ _ hi2 (by omega)] at hu
      rw [e, hzz, hu]
    · intro q hq
      obtain ⟨i, hil, rfl⟩ := List.getElem_of_mem hq
      exact (hz i _ (List.getElem?_eq_getElem hil)).1
def IsBools (W : World) (A : Option Addr) (zs : List Bool) (c : Nat) : Prop :=
  Reads W W.heap.size 1 A zs.length (zs.flatMap fun b => [Value.bool b]) ∧ zs.length ≤ c ∧ c ≤ maxLen
set_option maxRecDepth 100000 in
theorem open_bools_arg {H : Type} {enc : TypeId × Value → H} {w : World} {base : Nat} {held : Bool} {r : Reach} {b0 : Nat} {v : Value} {d : DataW H} {p : List MemPlace}
    (hv : Value.okWide Try.prog w r b0 57 v) (h : DataW.Trod enc Try.prog w base (fun _ => true) held 57 v d p) :
    ∃ (A : Option Addr) (zs : List Bool) (c : Nat), v = .slice A zs.length c ∧ IsBools w A zs c := by
  obtain ⟨a, len, cap, rfl⟩ := okWide_slice Try.underlying57 hv
  obtain ⟨fuel, hf⟩ := h
  have k3 : Try.prog.cellsOf 4 = 1 := by kernel_rfl
  rcases open_slice Try.underlying57 hf with ⟨hcs, _⟩ | ⟨x, l, c, m, n, D, Pl, hcs, _, hl, hm, hmm, _, hi⟩
  · simp [Value.cells] at hcs
    obtain ⟨rfl, rfl, rfl⟩ := hcs
    exact ⟨none, [], 0, rfl, Reads.none_, by simp, by unfold maxLen; omega⟩
  · simp [Value.cells] at hcs
    obtain ⟨rfl, rfl, rfl⟩ := hcs
    simp only [if_true] at hmm
    have key : ∀ i, i < len → ∃ q : Bool, w.cell? (x.add i) = some (.bool q) := by
      intro i hil
      obtain ⟨cs, h1, h2⟩ := hi i (by omega)
      rw [k3, Nat.mul_one] at h1
      obtain ⟨q, rfl, _⟩ := DataW.trod_bool Try.underlying4 h2
      obtain ⟨_, _, hat⟩ := World.cells?_some h1
      exact ⟨q, hat 0 (by omega)⟩
    obtain ⟨zs, hzl, hz⟩ := exists_list len _ key
    refine ⟨some x, zs, cap, by rw [hzl], ⟨by rw [flat_len (fun b : Bool => [Value.bool b]) 1 (fun _ => rfl)], fun hn => ⟨x, rfl, ?_, fun j u hu => ?_⟩⟩, by omega, hm⟩
    · obtain ⟨q, hq⟩ := key 0 (by omega)
      have := World.block_lt_of_cell? _ _ hq
      rwa [block_of_add] at this
    · have hj : j < zs.length := by
        rcases Nat.lt_or_ge j zs.length with h1 | h1
        · exact h1
        · rw [List.getElem?_eq_none (by rw [flat_len (fun b : Bool => [Value.bool b]) 1 (fun _ => rfl)]; omega)] at hu; cases hu
      have hzz := hz j zs[j] (List.getElem?_eq_getElem hj)
      have := flat_get (fun b : Bool => [Value.bool b]) 1 (fun _ => rfl) zs j 0 hj (by omega)
      rw [Nat.mul_one, Nat.add_zero] at this
      rw [this] at hu
      rw [hzz, ← hu]
      rfl
def boV (b : Bool) : List V := [.bool b]
theorem deeds_vr {w : World} {c : Nat} {A : Option Addr} {l : List Deed} (h : IsDeeds w A l c) : VR noMu (allS w) w (.sl (l.map deV) false) (.slice A l.length c) :=
  rows_vr l deRow deV (sz := 7) (fun _ => rfl) (fun _ => rfl) (by decide) (fun x u hu => by
    simp only [deRow, List.mem_cons, List.not_mem_nil, or_false] at hu
    rcases hu with rfl | rfl | rfl | rfl | rfl | rfl | rfl <;> rfl) (fun x j h1 h2 => by
    match j, h1 with
    | 0, _ => exact .int _ _
    | 1, _ => exact .int _ _
    | 2, _ => exact .int _ _
    | 3, _ => exact .int _ _
    | 4, _ => exact .str _
    | 5, _ => exact .int _ _
    | 6, _ => exact .int _ _) h.1 h.2.2.1
theorem bools_vr {w : World} {c : Nat} {A : Option Addr} {l : List Bool} (h : IsBools w A l c) : VR noMu (allS w) w (.sl (l.map boV) false) (.slice A l.length c) :=
  rows_vr l (fun b => [Value.bool b]) boV (sz := 1) (fun _ => rfl) (fun _ => rfl) (by decide) (fun x u hu => by
    obtain rfl : u = _ := by simpa using hu
    rfl) (fun x j h1 h2 => by
    match j, h1 with
    | 0, _ => exact .bool _) h.1 h.2.1
theorem strs_vr {w : World} {c : Nat} {A : Option Addr} {l : List ByteArray} (h : IsStrs w A l c) : VR noMu (allS w) w (.sl (l.map txV) false) (.slice A l.length c) := by
  refine rows_vr l (fun s => [Value.string s]) txV (sz := 1) (fun _ => rfl) (fun _ => rfl) (by decide) (fun x u hu => ?_) (fun x j h1 h2 => ?_) ?_ h.2.2.1
  · obtain rfl : u = _ := by simpa using hu
    rfl
  · match j, h1 with
    | 0, _ => exact .str _
  · rw [show (l.flatMap fun s => [Value.string s]) = scells l from flat_map _ l]
    exact h.1
theorem ints_vr {w : World} {c : Nat} {A : Option Addr} {l : List Int} (h : IsInts w A l c) : VR noMu (allS w) w (.sl (l.map inV) false) (.slice A l.length c) := by
  refine rows_vr l (fun s => [Value.int .i64 s]) inV (sz := 1) (fun _ => rfl) (fun _ => rfl) (by decide) (fun x u hu => ?_) (fun x j h1 h2 => ?_) ?_ h.2.2.1
  · obtain rfl : u = _ := by simpa using hu
    rfl
  · match j, h1 with
    | 0, _ => exact .int _ _
  · rw [show (l.flatMap fun s => [Value.int .i64 s]) = icells l from flat_map _ l]
    exact h.1
end Go.Proofs.Ytllijcnbjbfabaa

namespace Go.Proofs.Ytllijcnbjbfabaa
open Go.RowKit
set_option linter.unusedSimpArgs false
set_option linter.unusedVariables false

def findT : List Pr → Int → Option ByteArray
  | [], _ => none
  | x :: l, s => if x.n = s then some x.t else findT l s
def putC (c : List Pr) (k : Int) (b : ByteArray) : List Pr := match placeN c k with | some q => c.set q ⟨k, b⟩ | none => c ++ [⟨k, b⟩]
def dropC (c : List Pr) (k : Int) : List Pr := match placeN c k with | some q => c.eraseIdx q | none => c
theorem placeN_cons (x : Pr) (l : List Pr) (k : Int) : placeN (x :: l) k = if x.n = k then some 0 else (placeN l k).map (· + 1) := rfl
theorem look_find (c : List Pr) (k : Int) (y : ByteArray) : (match placeN c k with | some q => (c.getD q ⟨0, ⟨#[]⟩⟩).t | none => y) = (findT c k).getD y := by
  induction c with
  | nil => rfl
  | cons x l ih =>
    rw [placeN_cons]
    unfold findT
    by_cases h : x.n = k
    · rw [if_pos h, if_pos h]; rfl
    · rw [if_neg h, if_neg h, ← ih]
      cases placeN l k with
      | none => rfl
      | some q => rfl
theorem putC_cons (x : Pr) (l : List Pr) (k : Int) (b : ByteArray) : putC (x :: l) k b = if x.n = k then ⟨k, b⟩ :: l else x :: putC l k b := by
  unfold putC
  rw [placeN_cons]
  by_cases h : x.n = k
  · rw [if_pos h, if_pos h]; rfl
  · rw [if_neg h, if_neg h]
    cases placeN l k with
    | none => rfl
    | some q => rfl
theorem dropC_cons (x : Pr) (l : List Pr) (k : Int) : dropC (x :: l) k = if x.n = k then l else x :: dropC l k := by
  unfold dropC
  rw [placeN_cons]
  by_cases h : x.n = k
  · rw [if_pos h, if_pos h]; rfl
  · rw [if_neg h, if_neg h]
    cases placeN l k with
    | none => rfl
    | some q => rfl
theorem find_put (c : List Pr) (k : Int) (b : ByteArray) (j : Int) : findT (putC c k b) j = if j = k then some b else findT c j := by
  induction c with
  | nil =>
    show (if k = j then some b else none) = _
    by_cases h : j = k
    · rw [if_pos h, if_pos h.symm]
    · rw [if_neg h, if_neg (fun q => h q.symm)]; rfl
  | cons x l ih =>
    rw [putC_cons]
    by_cases h : x.n = k
    · rw [if_pos h]
      show (if k = j then some b else findT l j) = if j = k then some b else if x.n = j then some x.t else findT l j
      by_cases hj : j = k
      · rw [if_pos hj, if_pos hj.symm]
      · rw [if_neg hj, if_neg (fun q => hj q.symm), if_neg (by omega)]
    · rw [if_neg h]
      show (if x.n = j then some x.t else findT (putC l k b) j) = if j = k then some b else if x.n = j then some x.t else findT l j
      rw [ih]
      by_cases hj : j = k
      · rw [if_pos hj, if_neg (by omega), if_pos hj]
      · rw [if_neg hj, if_neg hj]
theorem find_no {l : List Pr} {k : Int} (h : ∀ y ∈ l, k ≠ y.n) : findT l k = none := by
  induction l with
  | nil => rfl
  | cons x l ih =>
    show (if x.n = k then _ else _) = _
    rw [if_neg (fun q => h x (by simp) q.symm)]
    exact ih fun y hy => h y (by simp [hy])
theorem find_drop (c : List Pr) (hc : c.Pairwise fun x y => x.n ≠ y.n) (k j : Int) : findT (dropC c k) j = if j = k then none else findT c j := by
  induction c with
  | nil => show none = _; split <;> rfl
  | cons x l ih =>
    rw [List.pairwise_cons] at hc
    rw [dropC_cons]
    by_cases h : x.n = k
    · rw [if_pos h]
      show _ = if j = k then none else if x.n = j then some x.t else findT l j
      by_cases hj : j = k
      · rw [if_pos hj, hj]
        exact find_no fun y hy => h ▸ hc.1 y hy
      · rw [if_neg hj, if_neg (by omega)]
    · rw [if_neg h]
      show (if x.n = j then some x.t else findT (dropC l k) j) = if j = k then none else if x.n = j then some x.t else findT l j
      rw [ih hc.2]
      by_cases hj : j = k
      · rw [if_pos hj, if_neg (by omega), if_pos hj]
      · rw [if_neg hj, if_neg hj]
/-- the device of two nodes that have registered -/
def rD (c : List Pr) (s : List ByteArray) : Dev := ⟨s, [c, []], [16, 33], 3, []⟩
def mineL (c : List Pr) (s : List ByteArray) : List ByteArray := (List.range s.length).map fun (j : Nat) => (findT c (j : Int)).getD (s.getD j ⟨#[]⟩)
theorem mineL_len (c : List Pr) (s : List ByteArray) : (mineL c s).length = s.length := by simp [mineL]
theorem mineL_get {c : List Pr} {s : List ByteArray} {j : Nat} (h : j < (mineL c s).length) : (mineL c s)[j] = (findT c (j : Int)).getD (s.getD j ⟨#[]⟩) := by simp [mineL]
theorem mineL_nil (s : List ByteArray) : mineL [] s = s := by
  refine List.ext_getElem (mineL_len _ _) fun j h1 h2 => ?_
  rw [mineL_get]
  show s.getD j ⟨#[]⟩ = _
  rw [List.getD_eq_getElem?_getD, List.getElem?_eq_getElem h2]
  rfl
theorem getD_setS {s : List ByteArray} {k j : Nat} {b : ByteArray} (hk : k < s.length) : (s.set k b).getD j ⟨#[]⟩ = if j = k then b else s.getD j ⟨#[]⟩ := by
  rw [List.getD_eq_getElem?_getD, List.getD_eq_getElem?_getD, List.getElem?_set]
  by_cases h : j = k
  · subst h
    rw [if_pos rfl, if_pos hk, if_pos rfl]; rfl
  · rw [if_neg (fun q => h q.symm), if_neg h]
theorem mine_put (c : List Pr) (s : List ByteArray) (k : Nat) (b : ByteArray) (hk : k < s.length) : mineL (putC c k b) s = (mineL c s).set k b := by
  refine List.ext_getElem (by simp [mineL]) fun j h1 h2 => ?_
  rw [mineL_get, find_put, List.getElem_set, mineL_get]
  by_cases h : j = k
  · rw [if_pos (by omega), if_pos h.symm]; rfl
  · rw [if_neg (by omega), if_neg (by omega)]
theorem mine_force (c : List Pr) (hc : c.Pairwise fun x y => x.n ≠ y.n) (s : List ByteArray) (k : Nat) (b : ByteArray) (hk : k < s.length) : mineL (dropC c k) (s.set k b) = (mineL c s).set k b := by
  refine List.ext_getElem (by simp [mineL]) fun j h1 h2 => ?_
  rw [mineL_get, find_drop c hc, List.getElem_set, mineL_get, getD_setS hk]
  by_cases h : j = k
  · rw [if_pos (by omega), if_pos h.symm, if_pos h]; rfl
  · rw [if_neg (by omega), if_neg h, if_neg (fun q => h q.symm)]
theorem mine_flush (x : Pr) (r : List Pr) (hc : ∀ y ∈ r, x.n ≠ y.n) (s : List ByteArray) (h0 : 0 ≤ x.n) (h1 : x.n < s.length) : mineL r (s.set x.n.toNat x.t) = mineL (x :: r) s := by
  refine List.ext_getElem (by simp [mineL]) fun j g1 g2 => ?_
  rw [mineL_get, mineL_get, getD_setS (by omega)]
  show _ = (if x.n = (j : Int) then some x.t else findT r j).getD _
  by_cases h : j = x.n.toNat
  · rw [if_pos h, if_pos (by omega), find_no (fun y hy => by have := hc y hy; omega)]; rfl
  · rw [if_neg h, if_neg (by omega)]
/-- such a device, all that is put being known -/
structure ReadSt (c : List Pr) (s : List ByteArray) (n : Nat) : Prop where
  may : MayD (rD c s)
  len : s.length = n
  n0 : 0 < n
  n40 : n ≤ 40
theorem rs_cache {c : List Pr} {s : List ByteArray} {n : Nat} (h : ReadSt c s n) : (∀ x ∈ c, cellOk s.length x) ∧ c.Pairwise fun x y => x.n ≠ y.n := (cached_pw _ _).1 (h.may.ca 0 (Nat.zero_lt_succ 1))
theorem rs_zero {c : List Pr} {s : List ByteArray} {n : Nat} (h : ReadSt c s n) {node : Nat} (hn : node < 2) {a : Ac} (h1 : 1 ≤ a.k) (h4 : a.k ≤ 4) (hb : a.b.size ≤ 512) (h0 : 0 ≤ a.s) (hs : a.s < n) : refuseR (rD c s) node a = 0 := by
  refine zero_of (notA4 h.may (show node < 2 from hn) h1 (by omega)) (fun q => ?_) (fun q => ?_) (fun q => ?_)
  · rcases q with ⟨_, q⟩ | ⟨q, _⟩ | ⟨q, _⟩ <;> omega
  · have := q.2
    rw [Int.toNat_natCast] at this
    match node, hn with
    | 0, _ => cases this
    | 1, _ => cases this
  · have := q.2
    have hl : (rD c s).s.length = n := h.len
    rw [hl] at this
    omega
theorem rd_put {c : List Pr} {s : List ByteArray} {n : Nat} (h : ReadSt c s n) {k : Nat} (hk : k < n) {b : ByteArray} (hb : b.size ≤ 512) : doR (rD c s) 0 ⟨3, k, b, 0⟩ = (rD (putC c k b) s, ⟨#[]⟩, 0) := by
  rw [show (0 : Int) = ((0 : Nat) : Int) from rfl, doR_ok (rs_zero h (by decide) (show (1 : Int) ≤ 3 by decide) (show (3 : Int) ≤ 4 by decide) hb (show (0 : Int) ≤ k by omega) (show (k : Int) < n by omega))]
  rfl
theorem rd_force {c : List Pr} {s : List ByteArray} {n : Nat} (h : ReadSt c s n) {k : Nat} (hk : k < n) {b : ByteArray} (hb : b.size ≤ 512) : doR (rD c s) 0 ⟨2, k, b, 0⟩ = (rD (dropC c k) (s.set k b), ⟨#[]⟩, 0) := by
  rw [show (0 : Int) = ((0 : Nat) : Int) from rfl, doR_ok (rs_zero h (by decide) (show (1 : Int) ≤ 2 by decide) (show (2 : Int) ≤ 4 by decide) hb (show (0 : Int) ≤ k by omega) (show (k : Int) < n by omega))]
  unfold actD dropC
  simp only [show ¬ (2 : Int) = 1 by decide, if_false, if_true]
  show ((⟨s.set k b, (match placeN c k with | some q => [c.eraseIdx q, []] | none => [c, []]), [16, 33], 3, []⟩ : Dev), _, _) = _
  cases placeN c k <;> rfl
theorem rd_read {c : List Pr} {s : List ByteArray} {n : Nat} (h : ReadSt c s n) {k : Nat} (hk : k < n) : doR (rD c s) 0 ⟨1, k, ⟨#[]⟩, 0⟩ = (rD c s, (mineL c s).getD k ⟨#[]⟩, 0) := by
  rw [show (0 : Int) = ((0 : Nat) : Int) from rfl, doR_ok (rs_zero h (by decide) (show (1 : Int) ≤ 1 by decide) (show (1 : Int) ≤ 4 by decide) (Nat.zero_le _) (show (0 : Int) ≤ k by omega) (show (k : Int) < n by omega))]
  have hkm : k < (mineL c s).length := by rw [mineL_len, h.len]; exact hk
  rw [getD_at hkm, mineL_get]
  show (rD c s, (match placeN c (k : Int) with | some q => (c.getD q ⟨0, ⟨#[]⟩⟩).t | none => s.getD (k : Int).toNat ⟨#[]⟩), _) = _
  rw [look_find, Int.toNat_natCast]
  rfl
theorem rd_read1 {c : List Pr} {s : List ByteArray} {n : Nat} (h : ReadSt c s n) {k : Nat} (hk : k < n) : doR (rD c s) 1 ⟨1, k, ⟨#[]⟩, 0⟩ = (rD c s, s.getD k ⟨#[]⟩, 0) := by
  rw [show (1 : Int) = ((1 : Nat) : Int) from rfl, doR_ok (rs_zero h (by decide) (show (1 : Int) ≤ 1 by decide) (show (1 : Int) ≤ 4 by decide) (Nat.zero_le _) (show (0 : Int) ≤ k by omega) (show (k : Int) < n by omega))]
  rfl
theorem rd_flush {x : Pr} {r : List Pr} {s : List ByteArray} {n : Nat} (h : ReadSt (x :: r) s n) : doR (rD (x :: r) s) 0 ⟨4, 0, ⟨#[]⟩, 0⟩ = (rD r (s.set x.n.toNat x.t), ⟨#[]⟩, 0) := by
  rw [show (0 : Int) = ((0 : Nat) : Int) from rfl, doR_ok (rs_zero h (by decide) (show (1 : Int) ≤ 4 by decide) (show (4 : Int) ≤ 4 by decide) (Nat.zero_le _) (show (0 : Int) ≤ 0 by decide) (show (0 : Int) < n by have := h.n0; omega))]
  rfl
theorem rs_put {c : List Pr} {s : List ByteArray} {n : Nat} (h : ReadSt c s n) {k : Nat} (hk : k < n) {b : ByteArray} (hb : b.size ≤ 512) : ReadSt (putC c k b) s n :=
  ⟨by have := do_may (node := 0) (a := ⟨3, k, b, 0⟩) h.may; rw [rd_put h hk hb] at this; exact this, h.len, h.n0, h.n40⟩
theorem rs_force {c : List Pr} {s : List ByteArray} {n : Nat} (h : ReadSt c s n) {k : Nat} (hk : k < n) {b : ByteArray} (hb : b.size ≤ 512) : ReadSt (dropC c k) (s.set k b) n :=
  ⟨by have := do_may (node := 0) (a := ⟨2, k, b, 0⟩) h.may; rw [rd_force h hk hb] at this; exact this, by simpa using h.len, h.n0, h.n40⟩
theorem rs_flush {x : Pr} {r : List Pr} {s : List ByteArray} {n : Nat} (h : ReadSt (x :: r) s n) : ReadSt r (s.set x.n.toNat x.t) n :=
  ⟨by have := do_may (node := 0) (a := ⟨4, 0, ⟨#[]⟩, 0⟩) h.may; rw [rd_flush h] at this; exact this, by simpa using h.len, h.n0, h.n40⟩
theorem putC_len (c : List Pr) (k : Int) (b : ByteArray) : (putC c k b).length ≤ c.length + 1 := by
  unfold putC
  split <;> simp
theorem dropC_len (c : List Pr) (k : Int) : (dropC c k).length ≤ c.length := by
  unfold dropC
  split
  · exact List.length_eraseIdx_le _ _
  · exact Nat.le_refl _
theorem rs_ok {c : List Pr} {s : List ByteArray} {n : Nat} (h : ReadSt c s n) (hc : c.length ≤ 100) : DevOk (rD c s) :=
  may_ok h.may (j := 100) ⟨by have := h.n40; show s.length ≤ 40; rw [h.len]; exact this, by show ([] : List Int).length ≤ 100; simp, fun x hx => by
    rcases List.mem_cons.1 hx with rfl | hx
    · exact hc
    · obtain rfl : x = [] := by simpa using hx
      simp⟩ (by omega)
/-- at first -/
theorem rs_new {ss : List ByteArray} (h : MayD (newD 2 ss)) (h0 : 0 < ss.length) (h40 : ss.length ≤ 40) :
    doR (newD 2 ss) 0 ⟨6, 0, ⟨#[]⟩, 0⟩ = (⟨ss, [[], []], [16, 0], 2, []⟩, key6 16, 0) ∧ MayD ⟨ss, [[], []], [16, 0], 2, []⟩ ∧
    doR ⟨ss, [[], []], [16, 0], 2, []⟩ 1 ⟨6, 0, ⟨#[]⟩, 0⟩ = (rD [] ss, key6 33, 0) ∧ ReadSt [] ss ss.length := by
  have h1 : doR (newD 2 ss) 0 ⟨6, 0, ⟨#[]⟩, 0⟩ = (⟨ss, [[], []], [16, 0], 2, []⟩, key6 16, 0) := reg_ok (node := 0) h (by show 0 < 2; omega) (by show (1 : Int) < _; omega)
  have m1 : MayD ⟨ss, [[], []], [16, 0], 2, []⟩ := by
    have := do_may (node := 0) (a := ⟨6, 0, ⟨#[]⟩, 0⟩) h
    rw [h1] at this
    exact this
  have h2 : doR ⟨ss, [[], []], [16, 0], 2, []⟩ 1 ⟨6, 0, ⟨#[]⟩, 0⟩ = (rD [] ss, key6 33, 0) := reg_ok (node := 1) m1 (by show 1 < 2; omega) (by show (2 : Int) < _; omega)
  refine ⟨h1, m1, h2, ?_, rfl, h0, h40⟩
  have := do_may (node := 1) (a := ⟨6, 0, ⟨#[]⟩, 0⟩) m1
  rw [h2] at this
  exact this
end Go.Proofs.Ytllijcnbjbfabaa

namespace Go.Proofs.Ytllijcnbjbfabaa
open Go.RowKit
set_option linter.unusedSimpArgs false
set_option linter.unusedVariables false

theorem cachedN_rD (c : List Pr) (s : List ByteArray) : cachedN (rD c s) 0 = (c.length : Int) := rfl
set_option maxRecDepth 100000 in
set_option maxHeartbeats 16000000 in
theorem Reads6_con (ss : List ByteArray) (fl : Bool) (at' : List Int) (fa : Bool) (fo : List Bool) (ff : Bool) (hss : ∀ x ∈ ss, x.size ≤ 9223372036854775807) (hsl : ss.length ≤ 9223372036854775807) (hal : at'.length ≤ 9223372036854775807) (hai : ∀ x ∈ at', -9223372036854775808 ≤ x ∧ x ≤ 9223372036854775807) (hfol : fo.length ≤ 9223372036854775807) :
    Con Try.prog 4 [.sl (ss.map txV) fl, .sl (at'.map inV) fa, .sl (fo.map boV) ff] (· = .bool true) := by
  refine con_of_awp Try.func4 rfl mixed (by decide) rfl (by kernel_rfl) rfl ?_
  have hW := wakes6_con
  by_cases h40 : 40 < ss.length
  · have h40' : (40 : Int) < (ss.length : Int) := by omega
    (repeat' (first | with_reducible (first | refine agr_d (fun hc => ?_) fun hc => ?_ | refine agr_n (fun hc => ?_) fun hc => ?_ | refine acd_d (fun hc => ?_) fun hc => ?_ | refine acd_n (fun hc => ?_) fun hc => ?_ | refine dgr_d (fun hc => ?_) fun hc => ?_ | refine dgr_n (fun hc => ?_) fun hc => ?_ | refine dl_sound _ _ [] [] [] _ _ (fun _ h => absurd h List.not_mem_nil) ?_ | refine conEnd_p (.inl rfl) ?_ | refine conEnd_p (.inr rfl) ?_ | refine dc1_p hW ?_ | refine ac1_p hW ?_) | simp (disch := omega) only [go_sem, h40', Nat.reduceAdd, Nat.reduceSub, Nat.reduceMul, Nat.reduceLeDiff, Nat.reduceLT, Nat.reduceEqDiff, Int.reduceLT, Int.reduceLE, Int.reduceToNat, Int.reduceAdd, Int.reduceSub, Int.reduceMul, Int.reduceEq, Int.reduceNeg, reduceCtorEq, true_and, and_true, Int.toNat_natCast, List.getElem?_map, Option.map_some, List.length_map, List.length_take, List.length_drop, List.length_append, Nat.sub_zero, Int.toNat_zero, List.length_replicate, Bool.true_or, Bool.or_true, Bool.false_or, Bool.or_false, false_implies, implies_true]))
  have h40' : ¬ (40 : Int) < (ss.length : Int) := by omega
  by_cases h0 : ss.length = 0
  · have h0' : (ss.length : Int) = 0 := by omega
    (repeat' (first | with_reducible (first | refine agr_d (fun hc => ?_) fun hc => ?_ | refine agr_n (fun hc => ?_) fun hc => ?_ | refine acd_d (fun hc => ?_) fun hc => ?_ | refine acd_n (fun hc => ?_) fun hc => ?_ | refine dgr_d (fun hc => ?_) fun hc => ?_ | refine dgr_n (fun hc => ?_) fun hc => ?_ | refine dl_sound _ _ [] [] [] _ _ (fun _ h => absurd h List.not_mem_nil) ?_ | refine conEnd_p (.inl rfl) ?_ | refine conEnd_p (.inr rfl) ?_ | refine dc1_p hW ?_ | refine ac1_p hW ?_) | simp (disch := omega) only [go_sem, h40', h0', Nat.reduceAdd, Nat.reduceSub, Nat.reduceMul, Nat.reduceLeDiff, Nat.reduceLT, Nat.reduceEqDiff, Int.reduceLT, Int.reduceLE, Int.reduceToNat, Int.reduceAdd, Int.reduceSub, Int.reduceMul, Int.reduceEq, Int.reduceNeg, reduceCtorEq, true_and, and_true, Int.toNat_natCast, List.getElem?_map, Option.map_some, List.length_map, List.length_take, List.length_drop, List.length_append, Nat.sub_zero, Int.toNat_zero, List.length_replicate, Bool.true_or, Bool.or_true, Bool.false_or, Bool.or_false, false_implies, implies_true]))
  have h0' : ¬ (ss.length : Int) = 0 := by omega
  by_cases h60 : 60 < at'.length
  · have h60' : (60 : Int) < (at'.length : Int) := by omega
    (repeat' (first | with_reducible (first | refine agr_d (fun hc => ?_) fun hc => ?_ | refine agr_n (fun hc => ?_) fun hc => ?_ | refine acd_d (fun hc => ?_) fun hc => ?_ | refine acd_n (fun hc => ?_) fun hc => ?_ | refine dgr_d (fun hc => ?_) fun hc => ?_ | refine dgr_n (fun hc => ?_) fun hc => ?_ | refine dl_sound _ _ [] [] [] _ _ (fun _ h => absurd h List.not_mem_nil) ?_ | refine conEnd_p (.inl rfl) ?_ | refine conEnd_p (.inr rfl) ?_ | refine dc1_p hW ?_ | refine ac1_p hW ?_) | simp (disch := omega) only [go_sem, h40', h0', h60', Nat.reduceAdd, Nat.reduceSub, Nat.reduceMul, Nat.reduceLeDiff, Nat.reduceLT, Nat.reduceEqDiff, Int.reduceLT, Int.reduceLE, Int.reduceToNat, Int.reduceAdd, Int.reduceSub, Int.reduceMul, Int.reduceEq, Int.reduceNeg, reduceCtorEq, true_and, and_true, Int.toNat_natCast, List.getElem?_map, Option.map_some, List.length_map, List.length_take, List.length_drop, List.length_append, Nat.sub_zero, Int.toNat_zero, List.length_replicate, Bool.true_or, Bool.or_true, Bool.false_or, Bool.or_false, false_implies, implies_true]))
  have h60' : ¬ (60 : Int) < (at'.length : Int) := by omega
  have hss' : ∀ i (h : i < ss.length), ss[i].size ≤ 9223372036854775807 := fun i h => hss _ (List.getElem_mem h)
  have hN := dNew_con 2 ss fl (by omega) hss'
  rcases newR_cases 2 ss with e | ⟨n, hn2, hn16, e, hmay⟩
  · obtain ⟨nd, hnd, hok⟩ : ∃ nd, noD = nd ∧ DevOk nd := ⟨_, rfl, noD_ok⟩
    rw [e, hnd] at hN
    (repeat' (first | with_reducible (first | refine agr_d (fun hc => ?_) fun hc => ?_ | refine agr_n (fun hc => ?_) fun hc => ?_ | refine acd_d (fun hc => ?_) fun hc => ?_ | refine acd_n (fun hc => ?_) fun hc => ?_ | refine dgr_d (fun hc => ?_) fun hc => ?_ | refine dgr_n (fun hc => ?_) fun hc => ?_ | refine dl_sound _ _ [] [] [] _ _ (fun _ h => absurd h List.not_mem_nil) ?_ | refine conEnd_p (.inl rfl) ?_ | refine conEnd_p (.inr rfl) ?_ | refine dc1_p hN ?_ | refine ac1_p hN ?_ | refine dc1_p hW ?_ | refine ac1_p hW ?_) | simp (disch := omega) only [go_sem, h40', h0', h60', devV, pairV, Nat.reduceAdd, Nat.reduceSub, Nat.reduceMul, Nat.reduceLeDiff, Nat.reduceLT, Nat.reduceEqDiff, Int.reduceLT, Int.reduceLE, Int.reduceToNat, Int.reduceAdd, Int.reduceSub, Int.reduceMul, Int.reduceEq, Int.reduceNeg, reduceCtorEq, true_and, and_true, Int.toNat_natCast, List.getElem?_map, Option.map_some, List.length_map, List.length_take, List.length_drop, List.length_append, Nat.sub_zero, Int.toNat_zero, List.length_replicate, Bool.true_or, Bool.or_true, Bool.false_or, Bool.or_false, false_implies, implies_true]))
  obtain rfl : n = 2 := by omega
  rw [e] at hN
  obtain ⟨q1, m1, q2, R0⟩ := rs_new hmay (by omega) (by omega)
  have hd0 : DevOk (newD 2 ss) := may_ok hmay (newD_sz (by omega) 0) (by omega)
  have hd1 : DevOk ⟨ss, [[], []], [16, 0], 2, []⟩ := may_ok m1 (j := 0) ⟨by show ss.length ≤ 40; omega, by simp, fun x hx => by
    simp only [List.mem_cons, List.not_mem_nil, or_false, or_self] at hx
    subst hx
    simp⟩ (by omega)
  have c1 := dDo_con _ hd0 0 ⟨6, 0, ⟨#[]⟩, 0⟩ (acok (by decide) (by decide) (by decide) (by decide))
  rw [q1] at c1
  have c2 := dDo_con _ hd1 1 ⟨6, 0, ⟨#[]⟩, 0⟩ (acok (by decide) (by decide) (by decide) (by decide))
  rw [q2] at c2
  generalize key6 16 = k1 at *
  generalize key6 33 = k2 at *
  generalize hD0 : newD 2 ss = d0 at *
  generalize hD1 : (⟨ss, [[], []], [16, 0], 2, []⟩ : Dev) = d1 at *
  generalize hD2 : rD [] ss = d2 at *
  have hsb : ss.length * 16 ≤ 140737488355328 := by omega
  have hsb2 : ss.length ≤ 9223372036854775807 := by omega
  (repeat' (first | with_reducible (first | refine agr_d (fun hc => ?_) fun hc => ?_ | refine agr_n (fun hc => ?_) fun hc => ?_ | refine acd_d (fun hc => ?_) fun hc => ?_ | refine acd_n (fun hc => ?_) fun hc => ?_ | refine dgr_d (fun hc => ?_) fun hc => ?_ | refine dgr_n (fun hc => ?_) fun hc => ?_ | refine dl_sound _ _ [] [] [] _ _ (fun _ h => absurd h List.not_mem_nil) ?_ | refine dc1_p hN ?_ | refine ac1_p hN ?_ | refine dc1_p c1 ?_ | refine ac1_p c1 ?_ | refine dc1_p c2 ?_ | refine ac1_p c2 ?_) | simp (disch := omega) only [go_sem, h40', h0', h60', devV, pairV, devB, hsb, hsb2, decide_true, Bool.and_true, cond_true, List.size_toArray, List.length_cons, List.length_nil, Nat.reduceAdd, Nat.reduceSub, Nat.reduceMul, Nat.reduceLeDiff, Nat.reduceLT, Nat.reduceEqDiff, Int.reduceLT, Int.reduceLE, Int.reduceToNat, Int.reduceAdd, Int.reduceSub, Int.reduceMul, Int.reduceEq, Int.reduceNeg, reduceCtorEq, true_and, and_true, Int.toNat_natCast, List.getElem?_map, Option.map_some, List.length_map, List.length_take, List.length_drop, List.length_append, Nat.sub_zero, Int.toNat_zero, List.length_replicate, Bool.true_or, Bool.or_true, Bool.false_or, Bool.or_false, false_implies, implies_true]))
  refine awp_for at'.length (fun j fr st => ∃ c s d, rD c s = d ∧ ReadSt c s ss.length ∧ c.length ≤ j ∧ ev fr (.tmp 0) = .sl (ss.map txV) fl ∧ ev fr (.tmp 1) = .sl (at'.map inV) fa ∧ ev fr (.tmp 2) = .sl (fo.map boV) ff ∧ ev fr (.tmp 7) = .ptr 0 0 0 ∧ ev fr (.tmp 11) = .bs 5 0 ss.length ss.length ∧ ev fr (.tmp 12) = .bs 7 0 ss.length ss.length ∧ ev fr (.tmp 13) = .int .i64 j ∧ st.get 0 = some (devB d) ∧ st.get 5 = some ⟨(mineL c s).map txV, 1, 0⟩ ∧ st.get 7 = some ⟨s.map txV, 1, 0⟩ ∧ 7 < st.c) ?_ ?_
  · refine ⟨[], ss, d2, hD2, R0, Nat.le_refl _, ?_, ?_, ?_, ?_, ?_, ?_, ?_, ?_, ?_, ?_, ?_⟩ <;> first | (simp (disch := omega) only [go_sem, mineL_nil, devB, Nat.reduceAdd, Nat.reduceSub, Nat.reduceMul, Nat.reduceLeDiff, Nat.reduceLT, Nat.reduceEqDiff, Int.reduceLT, Int.reduceLE, Int.reduceToNat, Int.reduceAdd, Int.reduceSub, Int.reduceMul, Int.reduceEq, Int.reduceNeg, reduceCtorEq, true_and, and_true, Int.toNat_natCast, List.getElem?_map, Option.map_some, List.length_map, List.length_take, List.length_drop, List.length_append, Nat.sub_zero, Int.toNat_zero, List.length_replicate, Bool.true_or, Bool.or_true, Bool.false_or, Bool.or_false, false_implies, implies_true]; done) | (simp (disch := omega) only [go_sem, mineL_nil, devB, Nat.reduceAdd, Nat.reduceSub, Nat.reduceMul, Nat.reduceLeDiff, Nat.reduceLT, Nat.reduceEqDiff, Int.reduceLT, Int.reduceLE, Int.reduceToNat, Int.reduceAdd, Int.reduceSub, Int.reduceMul, Int.reduceEq, Int.reduceNeg, reduceCtorEq, true_and, and_true, Int.toNat_natCast, List.getElem?_map, Option.map_some, List.length_map, List.length_take, List.length_drop, List.length_append, Nat.sub_zero, Int.toNat_zero, List.length_replicate, Bool.true_or, Bool.or_true, Bool.false_or, Bool.or_false, false_implies, implies_true] <;> rfl) | (show 7 < _; omega)
  clear hD0 hD1 hD2 c1 c2 hN m1 q1 q2 hd0 hd1 hmay e
  rintro j fr st hj ⟨c, s, d, hdR, R, hcj, t0, t1, t2, t7, t11, t12, t13, g0, g5, g7, hc⟩
  have hsl2 : s.length = ss.length := R.len
  have hml : (mineL c s).length = ss.length := by rw [mineL_len, hsl2]
  have hdk : DevOk (rD c s) := rs_ok R (by omega)
  rw [hdR] at hdk
  by_cases hlt : j < at'.length
  · have hlt' : (j : Int) < (at'.length : Int) := by omega
    have hga : at'[j]? = some at'[j] := List.getElem?_eq_getElem hlt
    have hra := hai _ (List.getElem_mem hlt)
    have hss0 : (0 : Int) < (ss.length : Int) := by omega
    have hm1 : (ss.length : Int).natAbs = ss.length := by omega
    have ht1 := Int.tmod_lt_of_pos at'[j] hss0
    have ht2 : -(ss.length : Int) < Int.tmod at'[j] ss.length := by
      have := Int.lt_tmod_of_pos at'[j] hss0
      omega
    obtain ⟨k, hkk⟩ : ∃ k : Nat, (at'[j].tmod ↑ss.length + ↑ss.length) % ↑ss.length = (k : Int) := ⟨((at'[j].tmod ↑ss.length + ↑ss.length) % ↑ss.length).toNat, by
      have := Int.emod_nonneg (at'[j].tmod ↑ss.length + ↑ss.length) (show (ss.length : Int) ≠ 0 by omega)
      omega⟩
    have hkn : k < ss.length := by
      have := Int.emod_lt_of_pos (at'[j].tmod ↑ss.length + ↑ss.length) hss0
      omega
    have hk0 : ¬ (k : Int) < 0 := by omega
    generalize hM : mineL c s = m at *
    have hgm : m[k]? = some m[k] := List.getElem?_eq_getElem (by omega)
    have hgs : s[k]? = some s[k] := List.getElem?_eq_getElem (by omega)
    obtain ⟨b, hB⟩ : ∃ b : ByteArray, (⟨#[UInt8.ofNat (IntKind.u8.wrap (97 + (j : Int) % 26)).toNat, UInt8.ofNat (IntKind.u8.wrap (j : Int)).toNat]⟩ : ByteArray) = b := ⟨_, rfl⟩
    have hbs : b.size ≤ 512 := by rw [← hB]; show 2 ≤ 512; omega
    have hst1 : (List.map txV m).set k [.str b] = List.map txV (m.set k b) := by rw [List.map_set]; rfl
    have hst2 : (List.map txV s).set k [.str b] = List.map txV (s.set k b) := by rw [List.map_set]; rfl
    have hgm2 : (m.set k b)[k]? = some b := List.getElem?_set_self (by omega)
    have hgd : (m.set k b).getD k ⟨#[]⟩ = b := by rw [List.getD_eq_getElem?_getD, hgm2]; rfl
    have hac : ∀ (q : Int) (x : ByteArray), 0 ≤ q ∧ q ≤ 6 → x.size ≤ 512 → AcOk ⟨q, k, x, 0⟩ := fun q x h1 h2 => ⟨by dsimp only; omega, by dsimp only; omega, by dsimp only; omega, by dsimp only; omega⟩
    by_cases hf : j < fo.length
    · have hf' : (j : Int) < (fo.length : Int) := by omega
      cases hfb : fo[j] with
      | true =>
      have hgf : fo[j]? = some true := by rw [List.getElem?_eq_getElem hf, hfb]
      have R' : ReadSt (dropC c k) (s.set k b) ss.length := rs_force R hkn hbs
      have hM' : mineL (dropC c k) (s.set k b) = m.set k b := by rw [mine_force c (rs_cache R).2 s k b (by omega), hM]
      have hlc : (dropC c k).length ≤ j + 1 := Nat.le_trans (dropC_len c k) (by omega)
      have c3 := dDo_con d hdk 0 ⟨2, k, b, 0⟩ (hac 2 b (by omega) (by omega))
      rw [← hdR, rd_force R hkn hbs] at c3
      have hgs2 : (s.set k b)[k]? = some b := List.getElem?_set_self (by omega)
      have c4 := dDo_con _ (rs_ok R' (by omega)) 0 ⟨1, k, ⟨#[]⟩, 0⟩ (hac 1 ⟨#[]⟩ (by omega) (Nat.zero_le _))
      rw [rd_read R' hkn, hM', hgd] at c4
      have c5 := dDo_con _ (rs_ok R' (by omega)) 1 ⟨1, k, ⟨#[]⟩, 0⟩ (hac 1 ⟨#[]⟩ (by omega) (Nat.zero_le _))
      rw [rd_read1 R' hkn, show (s.set k b).getD k ⟨#[]⟩ = b by rw [List.getD_eq_getElem?_getD, hgs2]; rfl] at c5
      rw [hdR] at c3
      generalize hD' : rD (dropC c k) (s.set k b) = d' at *
      (repeat' (first | with_reducible (first | refine agr_d (fun hc => ?_) fun hc => ?_ | refine agr_n (fun hc => ?_) fun hc => ?_ | refine acd_d (fun hc => ?_) fun hc => ?_ | refine acd_n (fun hc => ?_) fun hc => ?_ | refine dgr_d (fun hc => ?_) fun hc => ?_ | refine dgr_n (fun hc => ?_) fun hc => ?_ | refine dl_sound _ _ [] [] [] _ _ (fun _ h => absurd h List.not_mem_nil) ?_ | refine dc1_p c3 ?_ | refine ac1_p c3 ?_ | refine dc1_p c4 ?_ | refine ac1_p c4 ?_ | refine dc1_p c5 ?_ | refine ac1_p c5 ?_) | simp (disch := omega) only [go_sem, hf', hgf, hB, hgm, hgs, hgm2, hgs2, hst1, hst2, hml, hsl2, List.length_set, List.drop_nil, hkk, hkn, hk0, decide_true, decide_false, cond_true, cond_false, t0, t1, t2, t7, t11, t12, t13, g0, g5, g7, hlt', hga, h0', boV, devB, devV, doV, tl_eq, List.size_toArray, List.length_cons, List.length_nil, Nat.reduceAdd, Nat.reduceSub, Nat.reduceMul, Nat.reduceLeDiff, Nat.reduceLT, Nat.reduceEqDiff, Int.reduceLT, Int.reduceLE, Int.reduceToNat, Int.reduceAdd, Int.reduceSub, Int.reduceMul, Int.reduceEq, Int.reduceNeg, reduceCtorEq, true_and, and_true, Int.toNat_natCast, List.getElem?_map, Option.map_some, List.length_map, List.length_take, List.length_drop, List.length_append, Nat.sub_zero, Int.toNat_zero, List.length_replicate, Bool.true_or, Bool.or_true, Bool.false_or, Bool.or_false, false_implies, implies_true]))
      exact ⟨j + 1, by omega, by omega, _, _, d', hD', R', hlc, rfl, rfl, by rw [hM'], rfl⟩
      | false =>
      have hgf : fo[j]? = some false := by rw [List.getElem?_eq_getElem hf, hfb]
      have R' : ReadSt (putC c k b) s ss.length := rs_put R hkn hbs
      have hM' : mineL (putC c k b) s = m.set k b := by rw [mine_put c s k b (by omega), hM]
      have hlc : (putC c k b).length ≤ j + 1 := Nat.le_trans (putC_len c k b) (by omega)
      have c3 := dDo_con d hdk 0 ⟨3, k, b, 0⟩ (hac 3 b (by omega) (by omega))
      rw [← hdR, rd_put R hkn hbs] at c3
      have hgs2 : s[k]? = some s[k] := hgs
      have c4 := dDo_con _ (rs_ok R' (by omega)) 0 ⟨1, k, ⟨#[]⟩, 0⟩ (hac 1 ⟨#[]⟩ (by omega) (Nat.zero_le _))
      rw [rd_read R' hkn, hM', hgd] at c4
      have c5 := dDo_con _ (rs_ok R' (by omega)) 1 ⟨1, k, ⟨#[]⟩, 0⟩ (hac 1 ⟨#[]⟩ (by omega) (Nat.zero_le _))
      rw [rd_read1 R' hkn, getD_at (by omega : k < s.length)] at c5
      rw [hdR] at c3
      generalize hD' : rD (putC c k b) s = d' at *
      (repeat' (first | with_reducible (first | refine agr_d (fun hc => ?_) fun hc => ?_ | refine agr_n (fun hc => ?_) fun hc => ?_ | refine acd_d (fun hc => ?_) fun hc => ?_ | refine acd_n (fun hc => ?_) fun hc => ?_ | refine dgr_d (fun hc => ?_) fun hc => ?_ | refine dgr_n (fun hc => ?_) fun hc => ?_ | refine dl_sound _ _ [] [] [] _ _ (fun _ h => absurd h List.not_mem_nil) ?_ | refine dc1_p c3 ?_ | refine ac1_p c3 ?_ | refine dc1_p c4 ?_ | refine ac1_p c4 ?_ | refine dc1_p c5 ?_ | refine ac1_p c5 ?_) | simp (disch := omega) only [go_sem, hf', hgf, hB, hgm, hgs, hgm2, hgs2, hst1, hst2, hml, hsl2, List.length_set, List.drop_nil, hkk, hkn, hk0, decide_true, decide_false, cond_true, cond_false, t0, t1, t2, t7, t11, t12, t13, g0, g5, g7, hlt', hga, h0', boV, devB, devV, doV, tl_eq, List.size_toArray, List.length_cons, List.length_nil, Nat.reduceAdd, Nat.reduceSub, Nat.reduceMul, Nat.reduceLeDiff, Nat.reduceLT, Nat.reduceEqDiff, Int.reduceLT, Int.reduceLE, Int.reduceToNat, Int.reduceAdd, Int.reduceSub, Int.reduceMul, Int.reduceEq, Int.reduceNeg, reduceCtorEq, true_and, and_true, Int.toNat_natCast, List.getElem?_map, Option.map_some, List.length_map, List.length_take, List.length_drop, List.length_append, Nat.sub_zero, Int.toNat_zero, List.length_replicate, Bool.true_or, Bool.or_true, Bool.false_or, Bool.or_false, false_implies, implies_true]))
      exact ⟨j + 1, by omega, by omega, _, _, d', hD', R', hlc, rfl, rfl, by rw [hM'], rfl⟩
    · have hf' : ¬ (j : Int) < (fo.length : Int) := by omega
      have R' : ReadSt (putC c k b) s ss.length := rs_put R hkn hbs
      have hM' : mineL (putC c k b) s = m.set k b := by rw [mine_put c s k b (by omega), hM]
      have hlc : (putC c k b).length ≤ j + 1 := Nat.le_trans (putC_len c k b) (by omega)
      have c3 := dDo_con d hdk 0 ⟨3, k, b, 0⟩ (hac 3 b (by omega) (by omega))
      rw [← hdR, rd_put R hkn hbs] at c3
      have hgs2 : s[k]? = some s[k] := hgs
      have c4 := dDo_con _ (rs_ok R' (by omega)) 0 ⟨1, k, ⟨#[]⟩, 0⟩ (hac 1 ⟨#[]⟩ (by omega) (Nat.zero_le _))
      rw [rd_read R' hkn, hM', hgd] at c4
      have c5 := dDo_con _ (rs_ok R' (by omega)) 1 ⟨1, k, ⟨#[]⟩, 0⟩ (hac 1 ⟨#[]⟩ (by omega) (Nat.zero_le _))
      rw [rd_read1 R' hkn, getD_at (by omega : k < s.length)] at c5
      rw [hdR] at c3
      generalize hD' : rD (putC c k b) s = d' at *
      (repeat' (first | with_reducible (first | refine agr_d (fun hc => ?_) fun hc => ?_ | refine agr_n (fun hc => ?_) fun hc => ?_ | refine acd_d (fun hc => ?_) fun hc => ?_ | refine acd_n (fun hc => ?_) fun hc => ?_ | refine dgr_d (fun hc => ?_) fun hc => ?_ | refine dgr_n (fun hc => ?_) fun hc => ?_ | refine dl_sound _ _ [] [] [] _ _ (fun _ h => absurd h List.not_mem_nil) ?_ | refine dc1_p c3 ?_ | refine ac1_p c3 ?_ | refine dc1_p c4 ?_ | refine ac1_p c4 ?_ | refine dc1_p c5 ?_ | refine ac1_p c5 ?_) | simp (disch := omega) only [go_sem, hf', hB, hgm, hgs, hgm2, hgs2, hst1, hst2, hml, hsl2, List.length_set, List.drop_nil, hkk, hkn, hk0, decide_true, decide_false, cond_true, cond_false, t0, t1, t2, t7, t11, t12, t13, g0, g5, g7, hlt', hga, h0', boV, devB, devV, doV, tl_eq, List.size_toArray, List.length_cons, List.length_nil, Nat.reduceAdd, Nat.reduceSub, Nat.reduceMul, Nat.reduceLeDiff, Nat.reduceLT, Nat.reduceEqDiff, Int.reduceLT, Int.reduceLE, Int.reduceToNat, Int.reduceAdd, Int.reduceSub, Int.reduceMul, Int.reduceEq, Int.reduceNeg, reduceCtorEq, true_and, and_true, Int.toNat_natCast, List.getElem?_map, Option.map_some, List.length_map, List.length_take, List.length_drop, List.length_append, Nat.sub_zero, Int.toNat_zero, List.length_replicate, Bool.true_or, Bool.or_true, Bool.false_or, Bool.or_false, false_implies, implies_true]))
      exact ⟨j + 1, by omega, by omega, _, _, d', hD', R', hlc, rfl, rfl, by rw [hM'], rfl⟩
  have hlt' : ¬ (j : Int) < (at'.length : Int) := by omega
  have hC : PCon Try.prog 21 [devV d, .int .i64 0] (.int .i64 c.length) := by
    have := dCached_con d 0 (by omega)
    rw [← hdR, cachedN_rD, hdR] at this
    exact this
  have hc60 : c.length ≤ 60 := by omega
  (repeat' (first | with_reducible (first | refine agr_d (fun hc => ?_) fun hc => ?_ | refine agr_n (fun hc => ?_) fun hc => ?_ | refine acd_d (fun hc => ?_) fun hc => ?_ | refine acd_n (fun hc => ?_) fun hc => ?_ | refine dgr_d (fun hc => ?_) fun hc => ?_ | refine dgr_n (fun hc => ?_) fun hc => ?_ | refine dl_sound _ _ [] [] [] _ _ (fun _ h => absurd h List.not_mem_nil) ?_ | refine dc1_p hC ?_ | refine ac1_p hC ?_) | simp (disch := omega) only [go_sem, t0, t1, t2, t7, t11, t12, t13, g0, hlt', devV, devB, Nat.reduceAdd, Nat.reduceSub, Nat.reduceMul, Nat.reduceLeDiff, Nat.reduceLT, Nat.reduceEqDiff, Int.reduceLT, Int.reduceLE, Int.reduceToNat, Int.reduceAdd, Int.reduceSub, Int.reduceMul, Int.reduceEq, Int.reduceNeg, reduceCtorEq, true_and, and_true, Int.toNat_natCast, List.getElem?_map, Option.map_some, List.length_map, List.length_take, List.length_drop, List.length_append, Nat.sub_zero, Int.toNat_zero, List.length_replicate, Bool.true_or, Bool.or_true, Bool.false_or, Bool.or_false, false_implies, implies_true]))
  generalize hM : mineL c s = m at *
  refine awp_for c.length (fun i fr st => ∃ c2 s2 d2, rD c2 s2 = d2 ∧ ReadSt c2 s2 ss.length ∧ mineL c2 s2 = m ∧ c2.length + i = c.length ∧ ev fr (.tmp 7) = .ptr 0 0 0 ∧ ev fr (.tmp 11) = .bs 5 0 ss.length ss.length ∧ ev fr (.tmp 22) = .int .i64 c.length ∧ ev fr (.tmp 23) = .int .i64 i ∧ st.get 0 = some (devB d2) ∧ st.get 5 = some ⟨m.map txV, 1, 0⟩ ∧ 7 < st.c) ?_ ?_
  · refine ⟨c, s, d, hdR, R, hM, Nat.add_zero _, ?_, ?_, ?_, ?_, ?_, ?_, ?_⟩ <;> first | (simp (disch := omega) only [go_sem, t7, t11, g0, g5, devB, Nat.reduceAdd, Nat.reduceSub, Nat.reduceMul, Nat.reduceLeDiff, Nat.reduceLT, Nat.reduceEqDiff, Int.reduceLT, Int.reduceLE, Int.reduceToNat, Int.reduceAdd, Int.reduceSub, Int.reduceMul, Int.reduceEq, Int.reduceNeg, reduceCtorEq, true_and, and_true, Int.toNat_natCast, List.getElem?_map, Option.map_some, List.length_map, List.length_take, List.length_drop, List.length_append, Nat.sub_zero, Int.toNat_zero, List.length_replicate, Bool.true_or, Bool.or_true, Bool.false_or, Bool.or_false, false_implies, implies_true]; done) | (simp (disch := omega) only [go_sem, t7, t11, g0, g5, devB, Nat.reduceAdd, Nat.reduceSub, Nat.reduceMul, Nat.reduceLeDiff, Nat.reduceLT, Nat.reduceEqDiff, Int.reduceLT, Int.reduceLE, Int.reduceToNat, Int.reduceAdd, Int.reduceSub, Int.reduceMul, Int.reduceEq, Int.reduceNeg, reduceCtorEq, true_and, and_true, Int.toNat_natCast, List.getElem?_map, Option.map_some, List.length_map, List.length_take, List.length_drop, List.length_append, Nat.sub_zero, Int.toNat_zero, List.length_replicate, Bool.true_or, Bool.or_true, Bool.false_or, Bool.or_false, false_implies, implies_true] <;> rfl) | (show 7 < _; omega)
  clear t0 t1 t2 t7 t11 t12 t13 g0 g5 g7 hc hC hdk hlt' R hdR hM hsl2
  rintro i fr st hi ⟨c2, s2, d2, hD2, R2, hM2, hci, t7, t11, t22, t23, g0, g5, hc⟩
  have hsl3 : s2.length = ss.length := R2.len
  by_cases hlt2 : i < c.length
  · have hlt2' : (i : Int) < (c.length : Int) := by omega
    have hi60 : (i : Int) ≤ 60 := by omega
    obtain ⟨x, r, rfl⟩ : ∃ x r, c2 = x :: r := by
      cases c2 with
      | nil => simp at hci; omega
      | cons x r => exact ⟨x, r, rfl⟩
    simp only [List.length_cons] at hci
    have hdk := rs_ok R2 (by simp only [List.length_cons]; omega)
    have c6 := dDo_con _ hdk 0 ⟨4, 0, ⟨#[]⟩, 0⟩ (acok (by decide) (by decide) (by decide) (by decide))
    rw [rd_flush R2, hD2] at c6
    have R3 := rs_flush R2
    have hM3 : mineL r (s2.set x.n.toNat x.t) = m := by
      have h1 := rs_cache R2
      have h2 := h1.1 x (by simp)
      rw [mine_flush x r (fun y hy => List.rel_of_pairwise_cons h1.2 hy) s2 h2.1 h2.2.1, hM2]
    have hC3 := dCached_con (rD r (s2.set x.n.toNat x.t)) 0 (by omega)
    rw [cachedN_rD] at hC3
    generalize hD3 : rD r (s2.set x.n.toNat x.t) = d3 at *
    have hrl : ((r.length : Int) = (c.length : Int) - 1 - (i : Int)) := by omega
    (repeat' (first | with_reducible (first | refine agr_d (fun hc => ?_) fun hc => ?_ | refine agr_n (fun hc => ?_) fun hc => ?_ | refine acd_d (fun hc => ?_) fun hc => ?_ | refine acd_n (fun hc => ?_) fun hc => ?_ | refine dgr_d (fun hc => ?_) fun hc => ?_ | refine dgr_n (fun hc => ?_) fun hc => ?_ | refine dl_sound _ _ [] [] [] _ _ (fun _ h => absurd h List.not_mem_nil) ?_ | refine conEnd_p (.inl rfl) ?_ | refine conEnd_p (.inr rfl) ?_ | refine dc1_p c6 ?_ | refine ac1_p c6 ?_ | refine dc1_p hC3 ?_ | refine ac1_p hC3 ?_) | simp (disch := omega) only [go_sem, t7, t11, t22, t23, g0, g5, hlt2', hi60, hrl, devV, devB, doV, List.size_toArray, List.length_cons, List.length_nil, Nat.reduceAdd, Nat.reduceSub, Nat.reduceMul, Nat.reduceLeDiff, Nat.reduceLT, Nat.reduceEqDiff, Int.reduceLT, Int.reduceLE, Int.reduceToNat, Int.reduceAdd, Int.reduceSub, Int.reduceMul, Int.reduceEq, Int.reduceNeg, reduceCtorEq, true_and, and_true, Int.toNat_natCast, List.getElem?_map, Option.map_some, List.length_map, List.length_take, List.length_drop, List.length_append, Nat.sub_zero, Int.toNat_zero, List.length_replicate, Bool.true_or, Bool.or_true, Bool.false_or, Bool.or_false, false_implies, implies_true]))
    exact ⟨i + 1, by omega, by omega, r, _, d3, hD3, R3, hM3, by omega, rfl, rfl⟩
  · have hlt2' : ¬ (i : Int) < (c.length : Int) := by omega
    obtain rfl : c2 = [] := List.length_eq_zero_iff.1 (by omega)
    have hC3 := dCached_con (rD [] s2) 0 (by omega)
    rw [cachedN_rD] at hC3
    rw [mineL_nil] at hM2
    have hds : d2.s = s2 := by rw [← hD2]; rfl
    have c7 := SameS_con d2.s m false false (by rw [hds]; omega) (by rw [← hM2]; omega)
    rw [decide_eq_true (hds.trans hM2)] at c7
    replace c7 := c7.1
    rw [hD2] at hC3
    have hml2 : m.length = ss.length := by rw [← hM2]; exact hsl3
    have hpS : Plain (.sl (d2.s.map txV) false) := (plain_tx _ _).2 trivial
    have hpS2 : Plain (.sl (m.map txV) false) := (plain_tx _ _).2 trivial
    (repeat' (first | with_reducible (first | refine agr_d (fun hc => ?_) fun hc => ?_ | refine agr_n (fun hc => ?_) fun hc => ?_ | refine acd_d (fun hc => ?_) fun hc => ?_ | refine acd_n (fun hc => ?_) fun hc => ?_ | refine dgr_d (fun hc => ?_) fun hc => ?_ | refine dgr_n (fun hc => ?_) fun hc => ?_ | refine dl_sound _ _ [] [] [] _ _ (fun _ h => absurd h List.not_mem_nil) ?_ | refine conEnd_p (.inl rfl) ?_ | refine conEnd_p (.inr rfl) ?_ | refine dc1_p hC3 ?_ | refine ac1_p hC3 ?_ | refine dc1_p hW ?_ | refine ac1_p hW ?_ | refine ac1_sc mny (fzs_two (.plain _ hpS) (fz_row (sz := 1) (lk := 0) ?_ ?_ ?_ hpS2)) c7 (.bool _) ?_) | simp (disch := omega) only [go_sem, t7, t11, t22, t23, g0, g5, hlt2', hml2, devV, devB, List.size_toArray, List.length_cons, List.length_nil, Nat.reduceAdd, Nat.reduceSub, Nat.reduceMul, Nat.reduceLeDiff, Nat.reduceLT, Nat.reduceEqDiff, Int.reduceLT, Int.reduceLE, Int.reduceToNat, Int.reduceAdd, Int.reduceSub, Int.reduceMul, Int.reduceEq, Int.reduceNeg, reduceCtorEq, true_and, and_true, Int.toNat_natCast, List.getElem?_map, Option.map_some, List.length_map, List.length_take, List.length_drop, List.length_append, Nat.sub_zero, Int.toNat_zero, List.length_replicate, Bool.true_or, Bool.or_true, Bool.false_or, Bool.or_false, false_implies, implies_true]))
    all_goals first | omega | skip
end Go.Proofs.Ytllijcnbjbfabaa

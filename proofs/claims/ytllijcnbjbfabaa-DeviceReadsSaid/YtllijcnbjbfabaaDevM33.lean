/- breakwaterref06: Do, by the calculus: kind 5. -/
import Derived.Test.YtllijcnbjbfabaaDevM31
import Derived.Test.YtllijcnbjbfabaaDevM32
namespace Go.Proofs.Ytllijcnbjbfabaa
open Go.RowKit
set_option linter.unusedSimpArgs false
set_option linter.unusedVariables false

set_option maxRecDepth 100000 in
set_option maxHeartbeats 32000000 in
theorem Do_5 (d : Dev) (hd : DevOk d) (hm : MayD d) (node : Nat) (hn : node < d.keys.length) (a : Ac) (ha : AcOk a) (hk : a.k = 5) : Con Try.prog 12 [devV d, .int .i64 node, acV a] (· = doV (doR d node a)) := by
  have hA := notA hm hn (by omega) (by omega : a.k ≤ 6)
  have hs1 := ha.s
  have hkr := ha.key
  have hcn : node < d.cache.length := by rw [hm.c]; exact hn
  have hkg : d.keys[node]? = some d.keys[node] := List.getElem?_eq_getElem hn
  have hkd : d.keys.getD node 0 = d.keys[node] := by rw [List.getD_eq_getElem?_getD, hkg]; rfl
  have hcd : d.cache.getD node [] = d.cache[node] := by rw [List.getD_eq_getElem?_getD, List.getElem?_eq_getElem hcn]; rfl
  have hc : PCon Try.prog 36 [devV d] (.int .i64 0) := ⟨by have := Check_con d hd; rw [show chk d = 0 by unfold chk; rw [(checkB_iff d).2 hm]; rfl] at this; exact this, by (simp only [List.nil_append, List.cons_append, List.append_nil, List.forall_mem_cons, List.not_mem_nil, false_implies, implies_true, and_true, true_and, plain_agg, plain_tup, plain_int, plain_bool, plain_str, plain_nilp, plain_nilfn, plain_undef, plain_dev, plain_pr, plain_tx, plain_in, plain_cc])⟩
  have hF : Con Try.prog 38 [devV d, .sl [[.int .i64 d.keys[node]]] false] (· = .bool (fencedB d [d.keys[node]])) := Fenced_con _ _ _ _ d false false [d.keys[node]] (by have := hd.f; omega) (by simp)
  have hpd : Plain (devV d) := (plain_dev d).2 trivial
  have hpk : Plain (.sl [[.int .i64 d.keys[node]]] false) := (plain_in [d.keys[node]] false).2 trivial
  have hcl := hd.ci node hcn
  have hgc := given_c d a.key (by omega)
  refine con_of_awp Try.func12 rfl mixed (by decide) rfl (by kernel_rfl) rfl ?_
  cases hgb : givenB d a.key with
  | false =>
    rw [hgb] at hgc
    rw [refuse_b hA (.inr (.inl ⟨hk, hgb⟩))]
    (repeat' (first | with_reducible (first | refine agr_d (fun hc => ?_) fun hc => ?_ | refine agr_n (fun hc => ?_) fun hc => ?_ | refine acd_d (fun hc => ?_) fun hc => ?_ | refine acd_n (fun hc => ?_) fun hc => ?_ | refine dgr_d (fun hc => ?_) fun hc => ?_ | refine dgr_n (fun hc => ?_) fun hc => ?_ | refine dl_sound _ _ [] [] [] _ _ (fun _ h => absurd h List.not_mem_nil) ?_ | refine conEnd_p (.inl rfl) ?_ | refine conEnd_p (.inr rfl) ?_ | refine dc1_p hc ?_ | refine ac1_p hc ?_ | refine dc1_p hgc ?_ | refine ac1_p hgc ?_ | refine dc1_sc2 (sz := 1) (lk := 0) hpd ?_ ?_ hpk hF (.bool _) ?_) | simp (disch := omega) only [go_sem, devV, doV, hk, hkg, Nat.reduceAdd, Nat.reduceSub, Nat.reduceMul, Nat.reduceLeDiff, Nat.reduceLT, Nat.reduceEqDiff, Int.reduceLT, Int.reduceLE, Int.reduceToNat, Int.reduceAdd, Int.reduceSub, Int.reduceMul, Int.reduceEq, Int.reduceNeg, reduceCtorEq, true_and, and_true, Int.toNat_natCast, List.getElem?_map, Option.map_some, List.length_map, List.length_take, List.length_drop, List.length_append, Nat.sub_zero, Int.toNat_zero, List.length_replicate, Bool.true_or, Bool.or_true, Bool.false_or, Bool.or_false, false_implies, implies_true]))
  | true =>
  rw [hgb] at hgc
  have hB : ¬ refB d a := by
    rintro (⟨h, _⟩ | ⟨_, h⟩ | ⟨h, _⟩)
    · omega
    · rw [hgb] at h; cases h
    · omega
  have hCd : refC d node a ↔ fencedB d [d.keys[node]] = true := by
    unfold refC
    rw [Int.toNat_natCast, hkd]
    exact ⟨fun h => h.2, fun h => ⟨by omega, h⟩⟩
  cases hfb : fencedB d [d.keys[node]] with
  | true =>
    rw [hfb] at hF
    rw [refuse_c hA hB (hCd.2 hfb)]
    (repeat' (first | with_reducible (first | refine agr_d (fun hc => ?_) fun hc => ?_ | refine agr_n (fun hc => ?_) fun hc => ?_ | refine acd_d (fun hc => ?_) fun hc => ?_ | refine acd_n (fun hc => ?_) fun hc => ?_ | refine dgr_d (fun hc => ?_) fun hc => ?_ | refine dgr_n (fun hc => ?_) fun hc => ?_ | refine dl_sound _ _ [] [] [] _ _ (fun _ h => absurd h List.not_mem_nil) ?_ | refine conEnd_p (.inl rfl) ?_ | refine conEnd_p (.inr rfl) ?_ | refine dc1_p hc ?_ | refine ac1_p hc ?_ | refine dc1_p hgc ?_ | refine ac1_p hgc ?_ | refine dc1_sc2 (sz := 1) (lk := 0) hpd ?_ ?_ hpk hF (.bool _) ?_) | simp (disch := omega) only [go_sem, devV, doV, hk, hkg, Nat.reduceAdd, Nat.reduceSub, Nat.reduceMul, Nat.reduceLeDiff, Nat.reduceLT, Nat.reduceEqDiff, Int.reduceLT, Int.reduceLE, Int.reduceToNat, Int.reduceAdd, Int.reduceSub, Int.reduceMul, Int.reduceEq, Int.reduceNeg, reduceCtorEq, true_and, and_true, Int.toNat_natCast, List.getElem?_map, Option.map_some, List.length_map, List.length_take, List.length_drop, List.length_append, Nat.sub_zero, Int.toNat_zero, List.length_replicate, Bool.true_or, Bool.or_true, Bool.false_or, Bool.or_false, false_implies, implies_true]))
  | false =>
  rw [hfb] at hF
  have hC : ¬ refC d node a := by rw [hCd, hfb]; simp
  have hD : ¬ refD d a := by rintro ⟨h, _⟩; omega
  have hsg : True := trivial
  rw [do_ok hA hB hC hD]
  (repeat' (first | with_reducible (first | refine agr_d (fun hc => ?_) fun hc => ?_ | refine agr_n (fun hc => ?_) fun hc => ?_ | refine acd_d (fun hc => ?_) fun hc => ?_ | refine acd_n (fun hc => ?_) fun hc => ?_ | refine dgr_d (fun hc => ?_) fun hc => ?_ | refine dgr_n (fun hc => ?_) fun hc => ?_ | refine dl_sound _ _ [] [] [] _ _ (fun _ h => absurd h List.not_mem_nil) ?_ | refine dc1_p hc ?_ | refine ac1_p hc ?_ | refine dc1_p hgc ?_ | refine ac1_p hgc ?_ | refine dc1_sc2 (sz := 1) (lk := 0) hpd ?_ ?_ hpk hF (.bool _) ?_) | simp (disch := omega) only [go_sem, devV, doV, hk, hkg, Nat.reduceAdd, Nat.reduceSub, Nat.reduceMul, Nat.reduceLeDiff, Nat.reduceLT, Nat.reduceEqDiff, Int.reduceLT, Int.reduceLE, Int.reduceToNat, Int.reduceAdd, Int.reduceSub, Int.reduceMul, Int.reduceEq, Int.reduceNeg, reduceCtorEq, true_and, and_true, Int.toNat_natCast, List.getElem?_map, Option.map_some, List.length_map, List.length_take, List.length_drop, List.length_append, Nat.sub_zero, Int.toNat_zero, List.length_replicate, Bool.true_or, Bool.or_true, Bool.false_or, Bool.or_false, false_implies, implies_true]))
  refine ac1_i (copied_con d hd (by omega) _) ?_
  rintro _ ⟨g, c⟩ ⟨bS, bK, bF, bC, bc, rfl, HF, hold⟩
  obtain ⟨o1, o2, o3, o4, o5, o6, o7, hS, hK, hFn, hC1, hci⟩ := HF
  have o4n := o4 node hcn
  have hcin := hci node hcn
  have hcr := cRows_at (bc := bc) hcn
  dsimp only at o1 o7 hS hK hFn hC1 hci hold hcin
  have o1' : 3 ≤ bS := Nat.le_trans (by simp) o1
  have q0 : g 0 = some (devB d) := (hold 0 (by simp)).trans (by simp (disch := omega) only [go_sem, Nat.reduceAdd, Nat.reduceSub, Nat.reduceMul, Nat.reduceLeDiff, Nat.reduceLT, Nat.reduceEqDiff, Int.reduceLT, Int.reduceLE, Int.reduceToNat, Int.reduceAdd, Int.reduceSub, Int.reduceMul, Int.reduceEq, Int.reduceNeg, reduceCtorEq, true_and, and_true, Int.toNat_natCast, List.getElem?_map, Option.map_some, List.length_map, List.length_take, List.length_drop, List.length_append, Nat.sub_zero, Int.toNat_zero, List.length_replicate, Bool.true_or, Bool.or_true, Bool.false_or, Bool.or_false, false_implies, implies_true] <;> rfl)
  have q1 : g 1 = some ⟨[[.int .i8 5, .int .i64 a.s, .str a.b, .int .i64 a.key]], 4, 0⟩ := (hold 1 (by simp)).trans (by simp (disch := omega) only [go_sem, hk, Nat.reduceAdd, Nat.reduceSub, Nat.reduceMul, Nat.reduceLeDiff, Nat.reduceLT, Nat.reduceEqDiff, Int.reduceLT, Int.reduceLE, Int.reduceToNat, Int.reduceAdd, Int.reduceSub, Int.reduceMul, Int.reduceEq, Int.reduceNeg, reduceCtorEq, true_and, and_true, Int.toNat_natCast, List.getElem?_map, Option.map_some, List.length_map, List.length_take, List.length_drop, List.length_append, Nat.sub_zero, Int.toNat_zero, List.length_replicate, Bool.true_or, Bool.or_true, Bool.false_or, Bool.or_false, false_implies, implies_true] <;> rfl)
  have q2 : g 2 = some ⟨[[.sl [] true, .sl [] true, .sl [] true, .int .i64 0, .sl [] true]], 5, 0⟩ := (hold 2 (by simp)).trans (by simp (disch := omega) only [go_sem, Nat.reduceAdd, Nat.reduceSub, Nat.reduceMul, Nat.reduceLeDiff, Nat.reduceLT, Nat.reduceEqDiff, Int.reduceLT, Int.reduceLE, Int.reduceToNat, Int.reduceAdd, Int.reduceSub, Int.reduceMul, Int.reduceEq, Int.reduceNeg, reduceCtorEq, true_and, and_true, Int.toNat_natCast, List.getElem?_map, Option.map_some, List.length_map, List.length_take, List.length_drop, List.length_append, Nat.sub_zero, Int.toNat_zero, List.length_replicate, Bool.true_or, Bool.or_true, Bool.false_or, Bool.or_false, false_implies, implies_true] <;> rfl)
  clear hold o1
  have hP := place_con d.cache[node] false a.s (by omega)
  have hpl : Plain (.sl (d.cache[node].map prV) false) := (plain_pr _ _).2 trivial
  have hfl := hd.f
  have hW := fence_fc d.fen false a.key (by omega)
  have hpf : Plain (.sl (d.fen.map inV) false) := (plain_in _ _).2 trivial
  have hflen : (fenceR d.fen a.key).length ≤ 2000003 := by have := fenceR_len d.fen a.key; omega
  (repeat' (first | with_reducible (first | refine agr_d (fun hc => ?_) fun hc => ?_ | refine agr_n (fun hc => ?_) fun hc => ?_ | refine acd_d (fun hc => ?_) fun hc => ?_ | refine acd_n (fun hc => ?_) fun hc => ?_ | refine dgr_d (fun hc => ?_) fun hc => ?_ | refine dgr_n (fun hc => ?_) fun hc => ?_ | refine dl_sound _ _ [] [] [] _ _ (fun _ h => absurd h List.not_mem_nil) ?_ | refine ac1_sc1 (sz := 2) (lk := 0) (.int _ _) ?_ ?_ hpl hP (.int _ _) ?_ | refine ac1_fr1 (sz := 1) (lk := 0) (.int _ _) ?_ ?_ hpf hW ?_) | simp (disch := omega) only [go_sem, freshV, hk, hsg, q0, q1, q2, hS, hK, hFn, hC1, hcin, hcr, Nat.reduceAdd, Nat.reduceSub, Nat.reduceMul, Nat.reduceLeDiff, Nat.reduceLT, Nat.reduceEqDiff, Int.reduceLT, Int.reduceLE, Int.reduceToNat, Int.reduceAdd, Int.reduceSub, Int.reduceMul, Int.reduceEq, Int.reduceNeg, reduceCtorEq, true_and, and_true, Int.toNat_natCast, List.getElem?_map, Option.map_some, List.length_map, List.length_take, List.length_drop, List.length_append, Nat.sub_zero, Int.toNat_zero, List.length_replicate, Bool.true_or, Bool.or_true, Bool.false_or, Bool.or_false, false_implies, implies_true]))
  refine conEnd_f (.inl rfl) ?_
  simp (disch := omega) only [go_sem, hS, hK, hFn, hC1, hcin, Nat.reduceAdd, Nat.reduceSub, Nat.reduceMul, Nat.reduceLeDiff, Nat.reduceLT, Nat.reduceEqDiff, Int.reduceLT, Int.reduceLE, Int.reduceToNat, Int.reduceAdd, Int.reduceSub, Int.reduceMul, Int.reduceEq, Int.reduceNeg, reduceCtorEq, true_and, and_true, Int.toNat_natCast, List.getElem?_map, Option.map_some, List.length_map, List.length_take, List.length_drop, List.length_append, Nat.sub_zero, Int.toNat_zero, List.length_replicate, Bool.true_or, Bool.or_true, Bool.false_or, Bool.or_false, false_implies, implies_true]
  have hact : actD d node a = ({ d with fen := fenceR d.fen a.key }, ⟨#[]⟩) := by
    unfold actD
    dsimp only
    rw [if_neg (by omega), if_neg (by omega), if_neg (by omega), if_neg (by omega), if_pos hk]
  rw [hact]
  refine ⟨mny, _, fz_tup3 (fz_dev (d := { d with fen := fenceR d.fen a.key }) rfl (fz_row (sz := 1) (lk := 0) (es := d.s.map txV) ?_ (by simp) (by have := hd.s; omega) ((plain_tx _ _).2 trivial)) (fz_caches (lk := 0) (bc := bc) hd ?_ (fun i h => ?_)) (fz_row (sz := 1) (lk := 0) (es := d.keys.map inV) ?_ (by simp) (by have := hd.k; omega) ((plain_in _ _).2 trivial)) (.plain _ ((plain_in _ _).2 trivial))) (.plain _ (.str _)) (.plain _ (.int _ _)), rfl⟩
  all_goals first | (simp (disch := omega) only [go_sem, hS, hK, hFn, hC1, hcin, Nat.reduceAdd, Nat.reduceSub, Nat.reduceMul, Nat.reduceLeDiff, Nat.reduceLT, Nat.reduceEqDiff, Int.reduceLT, Int.reduceLE, Int.reduceToNat, Int.reduceAdd, Int.reduceSub, Int.reduceMul, Int.reduceEq, Int.reduceNeg, reduceCtorEq, true_and, and_true, Int.toNat_natCast, List.getElem?_map, Option.map_some, List.length_map, List.length_take, List.length_drop, List.length_append, Nat.sub_zero, Int.toNat_zero, List.length_replicate, Bool.true_or, Bool.or_true, Bool.false_or, Bool.or_false, false_implies, implies_true]; done) | (have := o4 i h; have := hci i h; simp (disch := omega) only [go_sem, this, Nat.reduceAdd, Nat.reduceSub, Nat.reduceMul, Nat.reduceLeDiff, Nat.reduceLT, Nat.reduceEqDiff, Int.reduceLT, Int.reduceLE, Int.reduceToNat, Int.reduceAdd, Int.reduceSub, Int.reduceMul, Int.reduceEq, Int.reduceNeg, reduceCtorEq, true_and, and_true, Int.toNat_natCast, List.getElem?_map, Option.map_some, List.length_map, List.length_take, List.length_drop, List.length_append, Nat.sub_zero, Int.toNat_zero, List.length_replicate, Bool.true_or, Bool.or_true, Bool.false_or, Bool.or_false, false_implies, implies_true]; done) | (have := o4 i h; have := hci i h; have : bc i ≠ bc node := (by rcases Nat.lt_or_gt_of_ne hne with h1 | h1 <;> first | exact Nat.ne_of_lt (o5 _ _ h1 hcn) | exact Nat.ne_of_gt (o5 _ _ h1 h)); simp (disch := omega) only [go_sem, hci i h, Nat.reduceAdd, Nat.reduceSub, Nat.reduceMul, Nat.reduceLeDiff, Nat.reduceLT, Nat.reduceEqDiff, Int.reduceLT, Int.reduceLE, Int.reduceToNat, Int.reduceAdd, Int.reduceSub, Int.reduceMul, Int.reduceEq, Int.reduceNeg, reduceCtorEq, true_and, and_true, Int.toNat_natCast, List.getElem?_map, Option.map_some, List.length_map, List.length_take, List.length_drop, List.length_append, Nat.sub_zero, Int.toNat_zero, List.length_replicate, Bool.true_or, Bool.or_true, Bool.false_or, Bool.or_false, false_implies, implies_true]; done) | skip
end Go.Proofs.Ytllijcnbjbfabaa

namespace Go.Proofs.Ytllijcnbjbfabaa
open Go.RowKit
set_option linter.unusedSimpArgs false
set_option linter.unusedVariables false

set_option maxRecDepth 100000 in
set_option maxHeartbeats 32000000 in
theorem Do_6 (d : Dev) (hd : DevOk d) (hm : MayD d) (node : Nat) (hn : node < d.keys.length) (a : Ac) (ha : AcOk a) (hk : a.k = 6) : Con Try.prog 12 [devV d, .int .i64 node, acV a] (· = doV (doR d node a)) := by
  have hA := notA hm hn (by omega) (by omega : a.k ≤ 6)
  have hs1 := ha.s
  have hkr := ha.key
  have hcn : node < d.cache.length := by rw [hm.c]; exact hn
  have hkg : d.keys[node]? = some d.keys[node] := List.getElem?_eq_getElem hn
  have hkd : d.keys.getD node 0 = d.keys[node] := by rw [List.getD_eq_getElem?_getD, hkg]; rfl
  have hcd : d.cache.getD node [] = d.cache[node] := by rw [List.getD_eq_getElem?_getD, List.getElem?_eq_getElem hcn]; rfl
  have hc : PCon Try.prog 36 [devV d] (.int .i64 0) := ⟨by have := Check_con d hd; rw [show chk d = 0 by unfold chk; rw [(checkB_iff d).2 hm]; rfl] at this; exact this, by (simp only [List.nil_append, List.cons_append, List.append_nil, List.forall_mem_cons, List.not_mem_nil, false_implies, implies_true, and_true, true_and, plain_agg, plain_tup, plain_int, plain_bool, plain_str, plain_nilp, plain_nilfn, plain_undef, plain_dev, plain_pr, plain_tx, plain_in, plain_cc])⟩
  have hF : Con Try.prog 38 [devV d, .sl [[.int .i64 d.keys[node]]] false] (· = .bool (fencedB d [d.keys[node]])) := Fenced_con _ _ _ _ d false false [d.keys[node]] (by have := hd.f; omega) (by simp)
  have hpd : Plain (devV d) := (plain_dev d).2 trivial
  have hpk : Plain (.sl [[.int .i64 d.keys[node]]] false) := (plain_in [d.keys[node]] false).2 trivial
  have hcl := hd.ci node hcn
  have hgc := given_c d a.key (by omega)
  refine con_of_awp Try.func12 rfl mixed (by decide) rfl (by kernel_rfl) rfl ?_
  by_cases gb : 68719476736 ≤ d.next
  · rw [refuse_b hA (.inr (.inr ⟨hk, gb⟩))]
    (repeat' (first | with_reducible (first | refine agr_d (fun hc => ?_) fun hc => ?_ | refine agr_n (fun hc => ?_) fun hc => ?_ | refine acd_d (fun hc => ?_) fun hc => ?_ | refine acd_n (fun hc => ?_) fun hc => ?_ | refine dgr_d (fun hc => ?_) fun hc => ?_ | refine dgr_n (fun hc => ?_) fun hc => ?_ | refine dl_sound _ _ [] [] [] _ _ (fun _ h => absurd h List.not_mem_nil) ?_ | refine conEnd_p (.inl rfl) ?_ | refine conEnd_p (.inr rfl) ?_ | refine dc1_p hc ?_ | refine ac1_p hc ?_ | refine dc1_p hgc ?_ | refine ac1_p hgc ?_ | refine dc1_sc2 (sz := 1) (lk := 0) hpd ?_ ?_ hpk hF (.bool _) ?_) | simp (disch := omega) only [go_sem, devV, doV, hk, hkg, Nat.reduceAdd, Nat.reduceSub, Nat.reduceMul, Nat.reduceLeDiff, Nat.reduceLT, Nat.reduceEqDiff, Int.reduceLT, Int.reduceLE, Int.reduceToNat, Int.reduceAdd, Int.reduceSub, Int.reduceMul, Int.reduceEq, Int.reduceNeg, reduceCtorEq, true_and, and_true, Int.toNat_natCast, List.getElem?_map, Option.map_some, List.length_map, List.length_take, List.length_drop, List.length_append, Nat.sub_zero, Int.toNat_zero, List.length_replicate, Bool.true_or, Bool.or_true, Bool.false_or, Bool.or_false, false_implies, implies_true]))
  have hB : ¬ refB d a := by rintro (⟨h, _⟩ | ⟨h, _⟩ | ⟨_, h⟩) <;> omega
  have hC : ¬ refC d node a := fun h => h.1 hk
  have hD : ¬ refD d a := by rintro ⟨h, _⟩; omega
  have hsg : True := trivial
  rw [do_ok hA hB hC hD]
  (repeat' (first | with_reducible (first | refine agr_d (fun hc => ?_) fun hc => ?_ | refine agr_n (fun hc => ?_) fun hc => ?_ | refine acd_d (fun hc => ?_) fun hc => ?_ | refine acd_n (fun hc => ?_) fun hc => ?_ | refine dgr_d (fun hc => ?_) fun hc => ?_ | refine dgr_n (fun hc => ?_) fun hc => ?_ | refine dl_sound _ _ [] [] [] _ _ (fun _ h => absurd h List.not_mem_nil) ?_ | refine dc1_p hc ?_ | refine ac1_p hc ?_ | refine dc1_p hgc ?_ | refine ac1_p hgc ?_ | refine dc1_sc2 (sz := 1) (lk := 0) hpd ?_ ?_ hpk hF (.bool _) ?_) | simp (disch := omega) only [go_sem, devV, doV, hk, hkg, Nat.reduceAdd, Nat.reduceSub, Nat.reduceMul, Nat.reduceLeDiff, Nat.reduceLT, Nat.reduceEqDiff, Int.reduceLT, Int.reduceLE, Int.reduceToNat, Int.reduceAdd, Int.reduceSub, Int.reduceMul, Int.reduceEq, Int.reduceNeg, reduceCtorEq, true_and, and_true, Int.toNat_natCast, List.getElem?_map, Option.map_some, List.length_map, List.length_take, List.length_drop, List.length_append, Nat.sub_zero, Int.toNat_zero, List.length_replicate, Bool.true_or, Bool.or_true, Bool.false_or, Bool.or_false, false_implies, implies_true]))
  refine ac1_i (copied_con d hd (by omega) _) ?_
  rintro _ ⟨g, c⟩ ⟨bS, bK, bF, bC, bc, rfl, HF, hold⟩
  obtain ⟨o1, o2, o3, o4, o5, o6, o7, hS, hK, hFn, hC1, hci⟩ := HF
  have o4n := o4 node hcn
  have hcin := hci node hcn
  have hcr := cRows_at (bc := bc) hcn
  dsimp only at o1 o7 hS hK hFn hC1 hci hold hcin
  have o1' : 3 ≤ bS := Nat.le_trans (by simp) o1
  have q0 : g 0 = some (devB d) := (hold 0 (by simp)).trans (by simp (disch := omega) only [go_sem, Nat.reduceAdd, Nat.reduceSub, Nat.reduceMul, Nat.reduceLeDiff, Nat.reduceLT, Nat.reduceEqDiff, Int.reduceLT, Int.reduceLE, Int.reduceToNat, Int.reduceAdd, Int.reduceSub, Int.reduceMul, Int.reduceEq, Int.reduceNeg, reduceCtorEq, true_and, and_true, Int.toNat_natCast, List.getElem?_map, Option.map_some, List.length_map, List.length_take, List.length_drop, List.length_append, Nat.sub_zero, Int.toNat_zero, List.length_replicate, Bool.true_or, Bool.or_true, Bool.false_or, Bool.or_false, false_implies, implies_true] <;> rfl)
  have q1 : g 1 = some ⟨[[.int .i8 6, .int .i64 a.s, .str a.b, .int .i64 a.key]], 4, 0⟩ := (hold 1 (by simp)).trans (by simp (disch := omega) only [go_sem, hk, Nat.reduceAdd, Nat.reduceSub, Nat.reduceMul, Nat.reduceLeDiff, Nat.reduceLT, Nat.reduceEqDiff, Int.reduceLT, Int.reduceLE, Int.reduceToNat, Int.reduceAdd, Int.reduceSub, Int.reduceMul, Int.reduceEq, Int.reduceNeg, reduceCtorEq, true_and, and_true, Int.toNat_natCast, List.getElem?_map, Option.map_some, List.length_map, List.length_take, List.length_drop, List.length_append, Nat.sub_zero, Int.toNat_zero, List.length_replicate, Bool.true_or, Bool.or_true, Bool.false_or, Bool.or_false, false_implies, implies_true] <;> rfl)
  have q2 : g 2 = some ⟨[[.sl [] true, .sl [] true, .sl [] true, .int .i64 0, .sl [] true]], 5, 0⟩ := (hold 2 (by simp)).trans (by simp (disch := omega) only [go_sem, Nat.reduceAdd, Nat.reduceSub, Nat.reduceMul, Nat.reduceLeDiff, Nat.reduceLT, Nat.reduceEqDiff, Int.reduceLT, Int.reduceLE, Int.reduceToNat, Int.reduceAdd, Int.reduceSub, Int.reduceMul, Int.reduceEq, Int.reduceNeg, reduceCtorEq, true_and, and_true, Int.toNat_natCast, List.getElem?_map, Option.map_some, List.length_map, List.length_take, List.length_drop, List.length_append, Nat.sub_zero, Int.toNat_zero, List.length_replicate, Bool.true_or, Bool.or_true, Bool.false_or, Bool.or_false, false_implies, implies_true] <;> rfl)
  clear hold o1
  have hP := place_con d.cache[node] false a.s (by omega)
  have hpl : Plain (.sl (d.cache[node].map prV) false) := (plain_pr _ _).2 trivial
  have hn0 := hm.n0
  have hk1 := hm.k1
  have hW := put6_fc (16 * d.next + node) (by omega) (by omega)
  have hkset : (d.keys.map inV).set node [V.int .i64 (16 * d.next + node)] = (d.keys.set node (16 * d.next + node)).map inV := by rw [List.map_set]; rfl
  have hkg2 : (d.keys.set node (16 * d.next + (node : Int)))[node]? = some (16 * d.next + (node : Int)) := by rw [List.getElem?_set_self hn]
  have hpq : Plain (.sl [[.int .i64 (16 * d.next + (node : Int))]] false) := (plain_in [16 * d.next + (node : Int)] false).2 trivial
  (repeat' (first | with_reducible (first | refine agr_d (fun hc => ?_) fun hc => ?_ | refine agr_n (fun hc => ?_) fun hc => ?_ | refine acd_d (fun hc => ?_) fun hc => ?_ | refine acd_n (fun hc => ?_) fun hc => ?_ | refine dgr_d (fun hc => ?_) fun hc => ?_ | refine dgr_n (fun hc => ?_) fun hc => ?_ | refine dl_sound _ _ [] [] [] _ _ (fun _ h => absurd h List.not_mem_nil) ?_ | refine ac1_sc1 (sz := 2) (lk := 0) (.int _ _) ?_ ?_ hpl hP (.int _ _) ?_ | refine ac1_fr3 (sz := 1) (lk := 0) (.sl [] true (by simp)) (.int _ _) ?_ ?_ hpq hW ?_) | simp (disch := omega) only [go_sem, freshV, hk, hsg, q0, q1, q2, hS, hK, hFn, hC1, hcin, hcr, hkg, hkset, hkg2, cRows_len, six, bytesOf, Nat.reduceAdd, Nat.reduceSub, Nat.reduceMul, Nat.reduceLeDiff, Nat.reduceLT, Nat.reduceEqDiff, Int.reduceLT, Int.reduceLE, Int.reduceToNat, Int.reduceAdd, Int.reduceSub, Int.reduceMul, Int.reduceEq, Int.reduceNeg, reduceCtorEq, true_and, and_true, Int.toNat_natCast, List.getElem?_map, Option.map_some, List.length_map, List.length_take, List.length_drop, List.length_append, Nat.sub_zero, Int.toNat_zero, List.length_replicate, Bool.true_or, Bool.or_true, Bool.false_or, Bool.or_false, false_implies, implies_true]))
  refine conEnd_f (.inl rfl) ?_
  simp (disch := omega) only [go_sem, hS, hK, hFn, hC1, hcin, hkset, Nat.reduceAdd, Nat.reduceSub, Nat.reduceMul, Nat.reduceLeDiff, Nat.reduceLT, Nat.reduceEqDiff, Int.reduceLT, Int.reduceLE, Int.reduceToNat, Int.reduceAdd, Int.reduceSub, Int.reduceMul, Int.reduceEq, Int.reduceNeg, reduceCtorEq, true_and, and_true, Int.toNat_natCast, List.getElem?_map, Option.map_some, List.length_map, List.length_take, List.length_drop, List.length_append, Nat.sub_zero, Int.toNat_zero, List.length_replicate, Bool.true_or, Bool.or_true, Bool.false_or, Bool.or_false, false_implies, implies_true]
  have hact : actD d node a = ({ d with keys := d.keys.set node (16 * d.next + node), next := d.next + 1, cache := d.cache.set node [] }, key6 (16 * d.next + node)) := by
    unfold actD
    dsimp only
    rw [if_neg (by omega), if_neg (by omega), if_neg (by omega), if_neg (by omega), if_neg (by omega)]
  rw [hact]
  refine ⟨mny, _, fz_tup3 (fz_dev (d := { d with keys := d.keys.set node (16 * d.next + node), next := d.next + 1, cache := d.cache.set node [] }) rfl (fz_row (sz := 1) (lk := 0) (es := d.s.map txV) ?_ (by simp) (by have := hd.s; omega) ((plain_tx _ _).2 trivial)) (fz_caches1 (lk := 0) (bc := bc) hd hcn ?_ (fun i h hne => ?_) (.weak [] true (.sl _ _ (by simp)))) (fz_row (sz := 1) (lk := 0) (es := (d.keys.set node (16 * d.next + node)).map inV) ?_ (by simp) (by have := hd.k; omega) ((plain_in _ _).2 trivial)) (fz_row (sz := 1) (lk := 0) (es := d.fen.map inV) ?_ (by simp) (by have := hd.f; omega) ((plain_in _ _).2 trivial))) (.plain _ (.str _)) (.plain _ (.int _ _)), rfl⟩
  all_goals first | (simp (disch := omega) only [go_sem, hS, hK, hFn, hC1, hcin, hkset, Nat.reduceAdd, Nat.reduceSub, Nat.reduceMul, Nat.reduceLeDiff, Nat.reduceLT, Nat.reduceEqDiff, Int.reduceLT, Int.reduceLE, Int.reduceToNat, Int.reduceAdd, Int.reduceSub, Int.reduceMul, Int.reduceEq, Int.reduceNeg, reduceCtorEq, true_and, and_true, Int.toNat_natCast, List.getElem?_map, Option.map_some, List.length_map, List.length_take, List.length_drop, List.length_append, Nat.sub_zero, Int.toNat_zero, List.length_replicate, Bool.true_or, Bool.or_true, Bool.false_or, Bool.or_false, false_implies, implies_true]; done) | (have := o4 i h; have := hci i h; simp (disch := omega) only [go_sem, this, Nat.reduceAdd, Nat.reduceSub, Nat.reduceMul, Nat.reduceLeDiff, Nat.reduceLT, Nat.reduceEqDiff, Int.reduceLT, Int.reduceLE, Int.reduceToNat, Int.reduceAdd, Int.reduceSub, Int.reduceMul, Int.reduceEq, Int.reduceNeg, reduceCtorEq, true_and, and_true, Int.toNat_natCast, List.getElem?_map, Option.map_some, List.length_map, List.length_take, List.length_drop, List.length_append, Nat.sub_zero, Int.toNat_zero, List.length_replicate, Bool.true_or, Bool.or_true, Bool.false_or, Bool.or_false, false_implies, implies_true]; done) | (have := o4 i h; have := hci i h; have : bc i ≠ bc node := (by rcases Nat.lt_or_gt_of_ne hne with h1 | h1 <;> first | exact Nat.ne_of_lt (o5 _ _ h1 hcn) | exact Nat.ne_of_gt (o5 _ _ h1 h)); simp (disch := omega) only [go_sem, hci i h, Nat.reduceAdd, Nat.reduceSub, Nat.reduceMul, Nat.reduceLeDiff, Nat.reduceLT, Nat.reduceEqDiff, Int.reduceLT, Int.reduceLE, Int.reduceToNat, Int.reduceAdd, Int.reduceSub, Int.reduceMul, Int.reduceEq, Int.reduceNeg, reduceCtorEq, true_and, and_true, Int.toNat_natCast, List.getElem?_map, Option.map_some, List.length_map, List.length_take, List.length_drop, List.length_append, Nat.sub_zero, Int.toNat_zero, List.length_replicate, Bool.true_or, Bool.or_true, Bool.false_or, Bool.or_false, false_implies, implies_true]; done) | skip
end Go.Proofs.Ytllijcnbjbfabaa

namespace Go.Proofs.Ytllijcnbjbfabaa
open Go.RowKit
set_option linter.unusedSimpArgs false
set_option linter.unusedVariables false

theorem Do_con (d : Dev) (hd : DevOk d) (node : Int) (a : Ac) (ha : AcOk a) : PCon Try.prog 12 [devV d, .int .i64 node, acV a] (doV (doR d node a)) := by
  refine ⟨?_, by (simp only [List.nil_append, List.cons_append, List.append_nil, List.forall_mem_cons, List.not_mem_nil, false_implies, implies_true, and_true, true_and, plain_agg, plain_tup, plain_int, plain_bool, plain_str, plain_nilp, plain_nilfn, plain_undef, plain_dev, plain_pr, plain_tx, plain_in, plain_cc])⟩
  by_cases hA : refA d node a
  · exact Do_a d hd node a ha hA
  have hm : MayD d := by
    refine (checkB_iff d).1 ?_
    cases hb : checkB d with
    | true => rfl
    | false => exact absurd (.inl hb) hA
  have h1 : ¬ node < 0 := fun h => hA (.inr (.inl h))
  have h2 : ¬ (d.keys.length : Int) ≤ node := fun h => hA (.inr (.inr (.inl h)))
  have h3 : ¬ a.k < 1 := fun h => hA (.inr (.inr (.inr (.inl h))))
  have h4 : ¬ 6 < a.k := fun h => hA (.inr (.inr (.inr (.inr h))))
  obtain ⟨n, rfl⟩ : ∃ n : Nat, node = n := ⟨node.toNat, by omega⟩
  have hn : n < d.keys.length := by omega
  have h5 : a.k = 1 ∨ a.k = 2 ∨ a.k = 3 ∨ a.k = 4 ∨ a.k = 5 ∨ a.k = 6 := by omega
  rcases h5 with h | h | h | h | h | h
  · exact Do_1 d hd hm n hn a ha h
  · exact Do_2 d hd hm n hn a ha h
  · exact Do_3 d hd hm n hn a ha h
  · exact Do_4 d hd hm n hn a ha h
  · exact Do_5 d hd hm n hn a ha h
  · exact Do_6 d hd hm n hn a ha h
end Go.Proofs.Ytllijcnbjbfabaa

namespace Go.Proofs.Ytllijcnbjbfabaa
open Go.RowKit
set_option linter.unusedSimpArgs false
set_option linter.unusedVariables false

theorem bytes_toList (a : ByteArray) : a.toList = a.data.toList := by
  rw [Lib.toList_data]
theorem tl_eq (a b : ByteArray) : (a.toList == b.toList) = decide (a = b) := by
  by_cases h : a = b
  · subst h; simp
  · have h2 : ¬ a.toList = b.toList := fun e => h (by
      rw [bytes_toList, bytes_toList] at e
      exact ByteArray.ext (Array.toList_inj.1 e))
    rw [decide_eq_false h]
    simpa using h2
set_option maxRecDepth 100000 in
set_option maxHeartbeats 16000000 in
theorem SameS_con (l m : List ByteArray) (fl fm : Bool) (hl : l.length ≤ 1000000000) (hm : m.length ≤ 1000000000) : PCon Try.prog 22 [.sl (l.map txV) fl, .sl (m.map txV) fm] (.bool (decide (l = m))) := by
  refine ⟨?_, by (simp only [List.nil_append, List.cons_append, List.append_nil, List.forall_mem_cons, List.not_mem_nil, false_implies, implies_true, and_true, true_and, plain_agg, plain_tup, plain_int, plain_bool, plain_str, plain_nilp, plain_nilfn, plain_undef, plain_dev, plain_pr, plain_tx, plain_in, plain_cc])⟩
  refine con_of_awp Try.func22 rfl mixed (by decide) rfl (by kernel_rfl) rfl ?_
  by_cases hlen : l.length = m.length
  · (repeat' (first | with_reducible (first | refine agr_d (fun hc => ?_) fun hc => ?_ | refine agr_n (fun hc => ?_) fun hc => ?_ | refine acd_d (fun hc => ?_) fun hc => ?_ | refine acd_n (fun hc => ?_) fun hc => ?_ | refine dgr_d (fun hc => ?_) fun hc => ?_ | refine dgr_n (fun hc => ?_) fun hc => ?_ | refine dl_sound _ _ [] [] [] _ _ (fun _ h => absurd h List.not_mem_nil) ?_) | simp (disch := omega) only [go_sem, tl_eq, Nat.reduceAdd, Nat.reduceSub, Nat.reduceMul, Nat.reduceLeDiff, Nat.reduceLT, Nat.reduceEqDiff, Int.reduceLT, Int.reduceLE, Int.reduceToNat, Int.reduceAdd, Int.reduceSub, Int.reduceMul, Int.reduceEq, Int.reduceNeg, reduceCtorEq, true_and, and_true, Int.toNat_natCast, List.getElem?_map, Option.map_some, List.length_map, List.length_take, List.length_drop, List.length_append, Nat.sub_zero, Int.toNat_zero, List.length_replicate, Bool.true_or, Bool.or_true, Bool.false_or, Bool.or_false, false_implies, implies_true]))
    refine awp_for l.length (fun j fr st => ev fr (.tmp 0) = .sl (l.map txV) fl ∧ ev fr (.tmp 1) = .sl (m.map txV) fm ∧ ev fr (.tmp 5) = .int .i64 j ∧ st = ⟨fun _ => none, st.c⟩ ∧ ∀ t (h : t < l.length) (h' : t < m.length), t < j → l[t] = m[t]) ?_ ?_
    · refine ⟨?_, ?_, ?_, rfl, fun t _ _ h => absurd h (by omega)⟩ <;> simp (disch := omega) only [go_sem, Nat.reduceAdd, Nat.reduceSub, Nat.reduceMul, Nat.reduceLeDiff, Nat.reduceLT, Nat.reduceEqDiff, Int.reduceLT, Int.reduceLE, Int.reduceToNat, Int.reduceAdd, Int.reduceSub, Int.reduceMul, Int.reduceEq, Int.reduceNeg, reduceCtorEq, true_and, and_true, Int.toNat_natCast, List.getElem?_map, Option.map_some, List.length_map, List.length_take, List.length_drop, List.length_append, Nat.sub_zero, Int.toNat_zero, List.length_replicate, Bool.true_or, Bool.or_true, Bool.false_or, Bool.or_false, false_implies, implies_true] <;> rfl
    rintro j fr ⟨g, c⟩ hj ⟨h0, h1, h5, hs, hn⟩
    obtain rfl : g = fun _ => none := by injection hs
    clear hs
    by_cases hlt : j < l.length
    · have hg : l[j]? = some l[j] := List.getElem?_eq_getElem hlt
      have hlt' : j < m.length := by omega
      have hg' : m[j]? = some m[j] := List.getElem?_eq_getElem hlt'
      (repeat' (first | with_reducible (first | refine agr_d (fun hc => ?_) fun hc => ?_ | refine agr_n (fun hc => ?_) fun hc => ?_ | refine acd_d (fun hc => ?_) fun hc => ?_ | refine acd_n (fun hc => ?_) fun hc => ?_ | refine dgr_d (fun hc => ?_) fun hc => ?_ | refine dgr_n (fun hc => ?_) fun hc => ?_ | refine dl_sound _ _ [] [] [] _ _ (fun _ h => absurd h List.not_mem_nil) ?_ | refine conEnd_p (.inl rfl) ?_ | refine conEnd_p (.inr rfl) ?_) | simp (disch := omega) only [go_sem, h0, h1, h5, hg, hg', tl_eq, Nat.reduceAdd, Nat.reduceSub, Nat.reduceMul, Nat.reduceLeDiff, Nat.reduceLT, Nat.reduceEqDiff, Int.reduceLT, Int.reduceLE, Int.reduceToNat, Int.reduceAdd, Int.reduceSub, Int.reduceMul, Int.reduceEq, Int.reduceNeg, reduceCtorEq, true_and, and_true, Int.toNat_natCast, List.getElem?_map, Option.map_some, List.length_map, List.length_take, List.length_drop, List.length_append, Nat.sub_zero, Int.toNat_zero, List.length_replicate, Bool.true_or, Bool.or_true, Bool.false_or, Bool.or_false, false_implies, implies_true]))
      · rw [decide_eq_false (fun e => hc (by subst e; rfl))]
      · refine ⟨j + 1, by omega, by omega, rfl, fun t ht ht' htj => ?_⟩
        rcases Nat.lt_or_ge t j with h4 | h4
        · exact hn t ht ht' h4
        · obtain rfl : t = j := by omega
          exact hc
    · (repeat' (first | with_reducible (first | refine agr_d (fun hc => ?_) fun hc => ?_ | refine agr_n (fun hc => ?_) fun hc => ?_ | refine acd_d (fun hc => ?_) fun hc => ?_ | refine acd_n (fun hc => ?_) fun hc => ?_ | refine dgr_d (fun hc => ?_) fun hc => ?_ | refine dgr_n (fun hc => ?_) fun hc => ?_ | refine dl_sound _ _ [] [] [] _ _ (fun _ h => absurd h List.not_mem_nil) ?_ | refine conEnd_p (.inl rfl) ?_ | refine conEnd_p (.inr rfl) ?_) | simp (disch := omega) only [go_sem, h0, h1, h5, Nat.reduceAdd, Nat.reduceSub, Nat.reduceMul, Nat.reduceLeDiff, Nat.reduceLT, Nat.reduceEqDiff, Int.reduceLT, Int.reduceLE, Int.reduceToNat, Int.reduceAdd, Int.reduceSub, Int.reduceMul, Int.reduceEq, Int.reduceNeg, reduceCtorEq, true_and, and_true, Int.toNat_natCast, List.getElem?_map, Option.map_some, List.length_map, List.length_take, List.length_drop, List.length_append, Nat.sub_zero, Int.toNat_zero, List.length_replicate, Bool.true_or, Bool.or_true, Bool.false_or, Bool.or_false, false_implies, implies_true]))
      rw [decide_eq_true (List.ext_getElem hlen fun t ht ht' => hn t ht ht' (by omega))]
  · (repeat' (first | with_reducible (first | refine agr_d (fun hc => ?_) fun hc => ?_ | refine agr_n (fun hc => ?_) fun hc => ?_ | refine acd_d (fun hc => ?_) fun hc => ?_ | refine acd_n (fun hc => ?_) fun hc => ?_ | refine dgr_d (fun hc => ?_) fun hc => ?_ | refine dgr_n (fun hc => ?_) fun hc => ?_ | refine dl_sound _ _ [] [] [] _ _ (fun _ h => absurd h List.not_mem_nil) ?_ | refine conEnd_p (.inl rfl) ?_ | refine conEnd_p (.inr rfl) ?_) | simp (disch := omega) only [go_sem, tl_eq, Nat.reduceAdd, Nat.reduceSub, Nat.reduceMul, Nat.reduceLeDiff, Nat.reduceLT, Nat.reduceEqDiff, Int.reduceLT, Int.reduceLE, Int.reduceToNat, Int.reduceAdd, Int.reduceSub, Int.reduceMul, Int.reduceEq, Int.reduceNeg, reduceCtorEq, true_and, and_true, Int.toNat_natCast, List.getElem?_map, Option.map_some, List.length_map, List.length_take, List.length_drop, List.length_append, Nat.sub_zero, Int.toNat_zero, List.length_replicate, Bool.true_or, Bool.or_true, Bool.false_or, Bool.or_false, false_implies, implies_true]))
    rw [decide_eq_false (fun e => hlen (by rw [e]))]
end Go.Proofs.Ytllijcnbjbfabaa

namespace Go.Proofs.Ytllijcnbjbfabaa
open Go.RowKit
set_option linter.unusedSimpArgs false
set_option linter.unusedVariables false

/-- a deed -/
structure Deed where
  d : Int
  node : Int
  a : Ac
  kept : Int
def deV (x : Deed) : List V := [.int .i64 x.d, .int .i64 x.node, .int .i8 x.a.k, .int .i64 x.a.s, .str x.a.b, .int .i64 x.a.key, .int .u64 x.kept]
structure DeedOk (x : Deed) : Prop where
  a : AcOk x.a
  kept : 0 ≤ x.kept ∧ x.kept < 18446744073709551616
def deedR (d : Dev) (x : Deed) : Dev × ByteArray × Int :=
  if x.d = 0 then doR d x.node x.a else if x.d = 1 then ((crashR' d x.node x.kept).1, ⟨#[]⟩, (crashR' d x.node x.kept).2) else if x.d = 2 then ((startR d x.node).1, ⟨#[]⟩, (startR d x.node).2) else (d, ⟨#[]⟩, 0)
set_option maxRecDepth 100000 in
set_option maxHeartbeats 16000000 in
theorem does_con (d : Dev) (hd : DevOk d) (x : Deed) (hx : DeedOk x) : PCon Try.prog 26 [devV d, .agg (deV x)] (doV (deedR d x)) := by
  refine ⟨?_, by simp only [deV]; (simp only [List.nil_append, List.cons_append, List.append_nil, List.forall_mem_cons, List.not_mem_nil, false_implies, implies_true, and_true, true_and, plain_agg, plain_tp, plain_fn, plain_tup, plain_int, plain_bool, plain_str, plain_nilp, plain_nilfn, plain_undef, plain_dev, plain_pr, plain_tx, plain_in, plain_cc])⟩
  refine con_of_awp Try.func26 rfl mixed (by decide) rfl (by kernel_rfl) rfl ?_
  have h1 := dDo_con d hd x.node x.a hx.a
  have h2 := dCrash_con d hd x.node x.kept hx.kept.1 hx.kept.2
  have h3 := dStart_con d hd x.node
  by_cases e0 : x.d = 0
  · rw [show deedR d x = doR d x.node x.a from if_pos e0]
    (repeat' (first | with_reducible (first | refine agr_d (fun hc => ?_) fun hc => ?_ | refine agr_n (fun hc => ?_) fun hc => ?_ | refine acd_d (fun hc => ?_) fun hc => ?_ | refine acd_n (fun hc => ?_) fun hc => ?_ | refine dgr_d (fun hc => ?_) fun hc => ?_ | refine dgr_n (fun hc => ?_) fun hc => ?_ | refine dl_sound _ _ [] [] [] _ _ (fun _ h => absurd h List.not_mem_nil) ?_ | refine conEnd_p (.inl rfl) ?_ | refine conEnd_p (.inr rfl) ?_ | refine dc1_p h1 ?_ | refine ac1_p h1 ?_) | simp (disch := omega) only [go_sem, devV, deV, doV, e0, Nat.reduceAdd, Nat.reduceSub, Nat.reduceMul, Nat.reduceLeDiff, Nat.reduceLT, Nat.reduceEqDiff, Int.reduceLT, Int.reduceLE, Int.reduceToNat, Int.reduceAdd, Int.reduceSub, Int.reduceMul, Int.reduceEq, Int.reduceNeg, reduceCtorEq, true_and, and_true, Int.toNat_natCast, List.getElem?_map, Option.map_some, List.length_map, List.length_take, List.length_drop, List.length_append, Nat.sub_zero, Int.toNat_zero, List.length_replicate, Bool.true_or, Bool.or_true, Bool.false_or, Bool.or_false, false_implies, implies_true]))
  by_cases e1 : x.d = 1
  · rw [show deedR d x = _ from (if_neg e0).trans (if_pos e1)]
    (repeat' (first | with_reducible (first | refine agr_d (fun hc => ?_) fun hc => ?_ | refine agr_n (fun hc => ?_) fun hc => ?_ | refine acd_d (fun hc => ?_) fun hc => ?_ | refine acd_n (fun hc => ?_) fun hc => ?_ | refine dgr_d (fun hc => ?_) fun hc => ?_ | refine dgr_n (fun hc => ?_) fun hc => ?_ | refine dl_sound _ _ [] [] [] _ _ (fun _ h => absurd h List.not_mem_nil) ?_ | refine conEnd_p (.inl rfl) ?_ | refine conEnd_p (.inr rfl) ?_ | refine dc1_p h2 ?_ | refine ac1_p h2 ?_) | simp (disch := omega) only [go_sem, devV, deV, doV, pairV, e1, Nat.reduceAdd, Nat.reduceSub, Nat.reduceMul, Nat.reduceLeDiff, Nat.reduceLT, Nat.reduceEqDiff, Int.reduceLT, Int.reduceLE, Int.reduceToNat, Int.reduceAdd, Int.reduceSub, Int.reduceMul, Int.reduceEq, Int.reduceNeg, reduceCtorEq, true_and, and_true, Int.toNat_natCast, List.getElem?_map, Option.map_some, List.length_map, List.length_take, List.length_drop, List.length_append, Nat.sub_zero, Int.toNat_zero, List.length_replicate, Bool.true_or, Bool.or_true, Bool.false_or, Bool.or_false, false_implies, implies_true]))
  by_cases e2 : x.d = 2
  · rw [show deedR d x = _ from (if_neg e0).trans ((if_neg e1).trans (if_pos e2))]
    (repeat' (first | with_reducible (first | refine agr_d (fun hc => ?_) fun hc => ?_ | refine agr_n (fun hc => ?_) fun hc => ?_ | refine acd_d (fun hc => ?_) fun hc => ?_ | refine acd_n (fun hc => ?_) fun hc => ?_ | refine dgr_d (fun hc => ?_) fun hc => ?_ | refine dgr_n (fun hc => ?_) fun hc => ?_ | refine dl_sound _ _ [] [] [] _ _ (fun _ h => absurd h List.not_mem_nil) ?_ | refine conEnd_p (.inl rfl) ?_ | refine conEnd_p (.inr rfl) ?_ | refine dc1_p h3 ?_ | refine ac1_p h3 ?_) | simp (disch := omega) only [go_sem, devV, deV, doV, pairV, e2, Nat.reduceAdd, Nat.reduceSub, Nat.reduceMul, Nat.reduceLeDiff, Nat.reduceLT, Nat.reduceEqDiff, Int.reduceLT, Int.reduceLE, Int.reduceToNat, Int.reduceAdd, Int.reduceSub, Int.reduceMul, Int.reduceEq, Int.reduceNeg, reduceCtorEq, true_and, and_true, Int.toNat_natCast, List.getElem?_map, Option.map_some, List.length_map, List.length_take, List.length_drop, List.length_append, Nat.sub_zero, Int.toNat_zero, List.length_replicate, Bool.true_or, Bool.or_true, Bool.false_or, Bool.or_false, false_implies, implies_true]))
  · rw [show deedR d x = _ from (if_neg e0).trans ((if_neg e1).trans (if_neg e2))]
    (repeat' (first | with_reducible (first | refine agr_d (fun hc => ?_) fun hc => ?_ | refine agr_n (fun hc => ?_) fun hc => ?_ | refine acd_d (fun hc => ?_) fun hc => ?_ | refine acd_n (fun hc => ?_) fun hc => ?_ | refine dgr_d (fun hc => ?_) fun hc => ?_ | refine dgr_n (fun hc => ?_) fun hc => ?_ | refine dl_sound _ _ [] [] [] _ _ (fun _ h => absurd h List.not_mem_nil) ?_ | refine conEnd_p (.inl rfl) ?_ | refine conEnd_p (.inr rfl) ?_) | simp (disch := omega) only [go_sem, devV, deV, doV, pairV, e0, e1, e2, Nat.reduceAdd, Nat.reduceSub, Nat.reduceMul, Nat.reduceLeDiff, Nat.reduceLT, Nat.reduceEqDiff, Int.reduceLT, Int.reduceLE, Int.reduceToNat, Int.reduceAdd, Int.reduceSub, Int.reduceMul, Int.reduceEq, Int.reduceNeg, reduceCtorEq, true_and, and_true, Int.toNat_natCast, List.getElem?_map, Option.map_some, List.length_map, List.length_take, List.length_drop, List.length_append, Nat.sub_zero, Int.toNat_zero, List.length_replicate, Bool.true_or, Bool.or_true, Bool.false_or, Bool.or_false, false_implies, implies_true]))
set_option maxRecDepth 100000 in
set_option maxHeartbeats 16000000 in
theorem his_con (d : Dev) (hd : DevOk d) (x : Deed) (hx : DeedOk x) : PCon Try.prog 24 [devV d, .agg (deV x)] (doV (deedR d x)) := by
  refine ⟨?_, by simp only [deV]; (simp only [List.nil_append, List.cons_append, List.append_nil, List.forall_mem_cons, List.not_mem_nil, false_implies, implies_true, and_true, true_and, plain_agg, plain_tp, plain_fn, plain_tup, plain_int, plain_bool, plain_str, plain_nilp, plain_nilfn, plain_undef, plain_dev, plain_pr, plain_tx, plain_in, plain_cc])⟩
  refine con_of_awp Try.func24 rfl mixed (by decide) rfl (by kernel_rfl) rfl ?_
  have h1 := Do_con d hd x.node x.a hx.a
  have h2 := Crash_con d hd x.node x.kept
  have h3 := Start_con d hd x.node
  by_cases e0 : x.d = 0
  · rw [show deedR d x = doR d x.node x.a from if_pos e0]
    (repeat' (first | with_reducible (first | refine agr_d (fun hc => ?_) fun hc => ?_ | refine agr_n (fun hc => ?_) fun hc => ?_ | refine acd_d (fun hc => ?_) fun hc => ?_ | refine acd_n (fun hc => ?_) fun hc => ?_ | refine dgr_d (fun hc => ?_) fun hc => ?_ | refine dgr_n (fun hc => ?_) fun hc => ?_ | refine dl_sound _ _ [] [] [] _ _ (fun _ h => absurd h List.not_mem_nil) ?_ | refine conEnd_p (.inl rfl) ?_ | refine conEnd_p (.inr rfl) ?_ | refine dc1_p h1 ?_ | refine ac1_p h1 ?_) | simp (disch := omega) only [go_sem, devV, deV, doV, e0, Nat.reduceAdd, Nat.reduceSub, Nat.reduceMul, Nat.reduceLeDiff, Nat.reduceLT, Nat.reduceEqDiff, Int.reduceLT, Int.reduceLE, Int.reduceToNat, Int.reduceAdd, Int.reduceSub, Int.reduceMul, Int.reduceEq, Int.reduceNeg, reduceCtorEq, true_and, and_true, Int.toNat_natCast, List.getElem?_map, Option.map_some, List.length_map, List.length_take, List.length_drop, List.length_append, Nat.sub_zero, Int.toNat_zero, List.length_replicate, Bool.true_or, Bool.or_true, Bool.false_or, Bool.or_false, false_implies, implies_true]))
  by_cases e1 : x.d = 1
  · rw [show deedR d x = _ from (if_neg e0).trans (if_pos e1)]
    (repeat' (first | with_reducible (first | refine agr_d (fun hc => ?_) fun hc => ?_ | refine agr_n (fun hc => ?_) fun hc => ?_ | refine acd_d (fun hc => ?_) fun hc => ?_ | refine acd_n (fun hc => ?_) fun hc => ?_ | refine dgr_d (fun hc => ?_) fun hc => ?_ | refine dgr_n (fun hc => ?_) fun hc => ?_ | refine dl_sound _ _ [] [] [] _ _ (fun _ h => absurd h List.not_mem_nil) ?_ | refine conEnd_p (.inl rfl) ?_ | refine conEnd_p (.inr rfl) ?_ | refine dc1_p h2 ?_ | refine ac1_p h2 ?_) | simp (disch := omega) only [go_sem, devV, deV, doV, pairV, e1, Nat.reduceAdd, Nat.reduceSub, Nat.reduceMul, Nat.reduceLeDiff, Nat.reduceLT, Nat.reduceEqDiff, Int.reduceLT, Int.reduceLE, Int.reduceToNat, Int.reduceAdd, Int.reduceSub, Int.reduceMul, Int.reduceEq, Int.reduceNeg, reduceCtorEq, true_and, and_true, Int.toNat_natCast, List.getElem?_map, Option.map_some, List.length_map, List.length_take, List.length_drop, List.length_append, Nat.sub_zero, Int.toNat_zero, List.length_replicate, Bool.true_or, Bool.or_true, Bool.false_or, Bool.or_false, false_implies, implies_true]))
  by_cases e2 : x.d = 2
  · rw [show deedR d x = _ from (if_neg e0).trans ((if_neg e1).trans (if_pos e2))]
    (repeat' (first | with_reducible (first | refine agr_d (fun hc => ?_) fun hc => ?_ | refine agr_n (fun hc => ?_) fun hc => ?_ | refine acd_d (fun hc => ?_) fun hc => ?_ | refine acd_n (fun hc => ?_) fun hc => ?_ | refine dgr_d (fun hc => ?_) fun hc => ?_ | refine dgr_n (fun hc => ?_) fun hc => ?_ | refine dl_sound _ _ [] [] [] _ _ (fun _ h => absurd h List.not_mem_nil) ?_ | refine conEnd_p (.inl rfl) ?_ | refine conEnd_p (.inr rfl) ?_ | refine dc1_p h3 ?_ | refine ac1_p h3 ?_) | simp (disch := omega) only [go_sem, devV, deV, doV, pairV, e2, Nat.reduceAdd, Nat.reduceSub, Nat.reduceMul, Nat.reduceLeDiff, Nat.reduceLT, Nat.reduceEqDiff, Int.reduceLT, Int.reduceLE, Int.reduceToNat, Int.reduceAdd, Int.reduceSub, Int.reduceMul, Int.reduceEq, Int.reduceNeg, reduceCtorEq, true_and, and_true, Int.toNat_natCast, List.getElem?_map, Option.map_some, List.length_map, List.length_take, List.length_drop, List.length_append, Nat.sub_zero, Int.toNat_zero, List.length_replicate, Bool.true_or, Bool.or_true, Bool.false_or, Bool.or_false, false_implies, implies_true]))
  · rw [show deedR d x = _ from (if_neg e0).trans ((if_neg e1).trans (if_neg e2))]
    (repeat' (first | with_reducible (first | refine agr_d (fun hc => ?_) fun hc => ?_ | refine agr_n (fun hc => ?_) fun hc => ?_ | refine acd_d (fun hc => ?_) fun hc => ?_ | refine acd_n (fun hc => ?_) fun hc => ?_ | refine dgr_d (fun hc => ?_) fun hc => ?_ | refine dgr_n (fun hc => ?_) fun hc => ?_ | refine dl_sound _ _ [] [] [] _ _ (fun _ h => absurd h List.not_mem_nil) ?_ | refine conEnd_p (.inl rfl) ?_ | refine conEnd_p (.inr rfl) ?_) | simp (disch := omega) only [go_sem, devV, deV, doV, pairV, e0, e1, e2, Nat.reduceAdd, Nat.reduceSub, Nat.reduceMul, Nat.reduceLeDiff, Nat.reduceLT, Nat.reduceEqDiff, Int.reduceLT, Int.reduceLE, Int.reduceToNat, Int.reduceAdd, Int.reduceSub, Int.reduceMul, Int.reduceEq, Int.reduceNeg, reduceCtorEq, true_and, and_true, Int.toNat_natCast, List.getElem?_map, Option.map_some, List.length_map, List.length_take, List.length_drop, List.length_append, Nat.sub_zero, Int.toNat_zero, List.length_replicate, Bool.true_or, Bool.or_true, Bool.false_or, Bool.or_false, false_implies, implies_true]))
def greatD (l : List Deed) : Bool := (l.take 101).any (fun x => decide (2000 < x.a.b.size)) || decide (100 < l.length)
set_option maxRecDepth 100000 in
set_option maxHeartbeats 16000000 in
theorem great6_con (l : List Deed) (fl : Bool) (hl : l.length ≤ 9223372036854775807) : Con Try.prog 23 [.sl (l.map deV) fl] (· = .bool (greatD l)) := by
  refine con_of_awp Try.func23 rfl mixed (by decide) rfl (by kernel_rfl) rfl ?_
  have hyes : ∀ j, ∀ (h : j < l.length), j ≤ 100 → 2000 < l[j].a.b.size → greatD l = true := fun j h hj hb => by
    unfold greatD
    rw [Bool.or_eq_true]
    refine .inl (List.any_eq_true.2 ⟨l[j], ?_, decide_eq_true hb⟩)
    rw [List.mem_take_iff_getElem]
    exact ⟨j, by omega, rfl⟩
  (repeat' (first | with_reducible (first | refine agr_d (fun hc => ?_) fun hc => ?_ | refine agr_n (fun hc => ?_) fun hc => ?_ | refine acd_d (fun hc => ?_) fun hc => ?_ | refine acd_n (fun hc => ?_) fun hc => ?_ | refine dgr_d (fun hc => ?_) fun hc => ?_ | refine dgr_n (fun hc => ?_) fun hc => ?_ | refine dl_sound _ _ [] [] [] _ _ (fun _ h => absurd h List.not_mem_nil) ?_) | simp (disch := omega) only [go_sem, Nat.reduceAdd, Nat.reduceSub, Nat.reduceMul, Nat.reduceLeDiff, Nat.reduceLT, Nat.reduceEqDiff, Int.reduceLT, Int.reduceLE, Int.reduceToNat, Int.reduceAdd, Int.reduceSub, Int.reduceMul, Int.reduceEq, Int.reduceNeg, reduceCtorEq, true_and, and_true, Int.toNat_natCast, List.getElem?_map, Option.map_some, List.length_map, List.length_take, List.length_drop, List.length_append, Nat.sub_zero, Int.toNat_zero, List.length_replicate, Bool.true_or, Bool.or_true, Bool.false_or, Bool.or_false, false_implies, implies_true]))
  refine awp_for 101 (fun j fr st => ev fr (.tmp 0) = .sl (l.map deV) fl ∧ ev fr (.tmp 3) = .int .i64 j ∧ j ≤ l.length ∧ ∀ t (h : t < l.length), t < j → ¬ 2000 < l[t].a.b.size) ?_ ?_
  · refine ⟨?_, ?_, by omega, fun t _ h => absurd h (by omega)⟩ <;> simp (disch := omega) only [go_sem, Nat.reduceAdd, Nat.reduceSub, Nat.reduceMul, Nat.reduceLeDiff, Nat.reduceLT, Nat.reduceEqDiff, Int.reduceLT, Int.reduceLE, Int.reduceToNat, Int.reduceAdd, Int.reduceSub, Int.reduceMul, Int.reduceEq, Int.reduceNeg, reduceCtorEq, true_and, and_true, Int.toNat_natCast, List.getElem?_map, Option.map_some, List.length_map, List.length_take, List.length_drop, List.length_append, Nat.sub_zero, Int.toNat_zero, List.length_replicate, Bool.true_or, Bool.or_true, Bool.false_or, Bool.or_false, false_implies, implies_true] <;> rfl
  rintro j fr st hj ⟨h0, h3, hjl, hn⟩
  by_cases hlt : j < l.length
  · have hg : l[j]? = some l[j] := List.getElem?_eq_getElem hlt
    by_cases h100 : j ≤ 100
    · by_cases hb : 2000 < l[j].a.b.size
      · have hb' : (2000 : Int) < (l[j].a.b.size : Int) := by omega
        rw [hyes j hlt h100 hb]
        (repeat' (first | with_reducible (first | refine agr_d (fun hc => ?_) fun hc => ?_ | refine agr_n (fun hc => ?_) fun hc => ?_ | refine acd_d (fun hc => ?_) fun hc => ?_ | refine acd_n (fun hc => ?_) fun hc => ?_ | refine dgr_d (fun hc => ?_) fun hc => ?_ | refine dgr_n (fun hc => ?_) fun hc => ?_ | refine dl_sound _ _ [] [] [] _ _ (fun _ h => absurd h List.not_mem_nil) ?_ | refine conEnd_p (.inl rfl) ?_ | refine conEnd_p (.inr rfl) ?_) | simp (disch := omega) only [go_sem, h0, h3, hg, deV, hb', Nat.reduceAdd, Nat.reduceSub, Nat.reduceMul, Nat.reduceLeDiff, Nat.reduceLT, Nat.reduceEqDiff, Int.reduceLT, Int.reduceLE, Int.reduceToNat, Int.reduceAdd, Int.reduceSub, Int.reduceMul, Int.reduceEq, Int.reduceNeg, reduceCtorEq, true_and, and_true, Int.toNat_natCast, List.getElem?_map, Option.map_some, List.length_map, List.length_take, List.length_drop, List.length_append, Nat.sub_zero, Int.toNat_zero, List.length_replicate, Bool.true_or, Bool.or_true, Bool.false_or, Bool.or_false, false_implies, implies_true]))
      · have hb' : ¬ (2000 : Int) < (l[j].a.b.size : Int) := by omega
        (repeat' (first | with_reducible (first | refine agr_d (fun hc => ?_) fun hc => ?_ | refine agr_n (fun hc => ?_) fun hc => ?_ | refine acd_d (fun hc => ?_) fun hc => ?_ | refine acd_n (fun hc => ?_) fun hc => ?_ | refine dgr_d (fun hc => ?_) fun hc => ?_ | refine dgr_n (fun hc => ?_) fun hc => ?_ | refine dl_sound _ _ [] [] [] _ _ (fun _ h => absurd h List.not_mem_nil) ?_ | refine conEnd_p (.inl rfl) ?_ | refine conEnd_p (.inr rfl) ?_) | simp (disch := omega) only [go_sem, h0, h3, hg, deV, hb', Nat.reduceAdd, Nat.reduceSub, Nat.reduceMul, Nat.reduceLeDiff, Nat.reduceLT, Nat.reduceEqDiff, Int.reduceLT, Int.reduceLE, Int.reduceToNat, Int.reduceAdd, Int.reduceSub, Int.reduceMul, Int.reduceEq, Int.reduceNeg, reduceCtorEq, true_and, and_true, Int.toNat_natCast, List.getElem?_map, Option.map_some, List.length_map, List.length_take, List.length_drop, List.length_append, Nat.sub_zero, Int.toNat_zero, List.length_replicate, Bool.true_or, Bool.or_true, Bool.false_or, Bool.or_false, false_implies, implies_true]))
        refine ⟨j + 1, by omega, by omega, rfl, by omega, fun t ht htj => ?_⟩
        rcases Nat.lt_or_ge t j with h | h
        · exact hn t ht h
        · obtain rfl : t = j := by omega
          exact hb
    · have h1 : (100 : Int) < (l.length : Int) := by omega
      (repeat' (first | with_reducible (first | refine agr_d (fun hc => ?_) fun hc => ?_ | refine agr_n (fun hc => ?_) fun hc => ?_ | refine acd_d (fun hc => ?_) fun hc => ?_ | refine acd_n (fun hc => ?_) fun hc => ?_ | refine dgr_d (fun hc => ?_) fun hc => ?_ | refine dgr_n (fun hc => ?_) fun hc => ?_ | refine dl_sound _ _ [] [] [] _ _ (fun _ h => absurd h List.not_mem_nil) ?_ | refine conEnd_p (.inl rfl) ?_ | refine conEnd_p (.inr rfl) ?_) | simp (disch := omega) only [go_sem, h0, h3, h1, Nat.reduceAdd, Nat.reduceSub, Nat.reduceMul, Nat.reduceLeDiff, Nat.reduceLT, Nat.reduceEqDiff, Int.reduceLT, Int.reduceLE, Int.reduceToNat, Int.reduceAdd, Int.reduceSub, Int.reduceMul, Int.reduceEq, Int.reduceNeg, reduceCtorEq, true_and, and_true, Int.toNat_natCast, List.getElem?_map, Option.map_some, List.length_map, List.length_take, List.length_drop, List.length_append, Nat.sub_zero, Int.toNat_zero, List.length_replicate, Bool.true_or, Bool.or_true, Bool.false_or, Bool.or_false, false_implies, implies_true]))
      unfold greatD
      rw [decide_eq_true (show 100 < l.length by omega), Bool.or_true]
  · have e : greatD l = decide ((100 : Int) < (l.length : Int)) := by
      unfold greatD
      have : ((l.take 101).any fun x => decide (2000 < x.a.b.size)) = false := by
        rw [List.any_eq_false]
        intro x hx
        obtain ⟨t, ht, rfl⟩ := List.getElem_of_mem (List.mem_of_mem_take hx)
        simpa using hn t ht (by omega)
      rw [this, Bool.false_or, decide_eq_decide]
      omega
    rw [e]
    (repeat' (first | with_reducible (first | refine agr_d (fun hc => ?_) fun hc => ?_ | refine agr_n (fun hc => ?_) fun hc => ?_ | refine acd_d (fun hc => ?_) fun hc => ?_ | refine acd_n (fun hc => ?_) fun hc => ?_ | refine dgr_d (fun hc => ?_) fun hc => ?_ | refine dgr_n (fun hc => ?_) fun hc => ?_ | refine dl_sound _ _ [] [] [] _ _ (fun _ h => absurd h List.not_mem_nil) ?_ | refine conEnd_p (.inl rfl) ?_ | refine conEnd_p (.inr rfl) ?_) | simp (disch := omega) only [go_sem, h0, h3, Nat.reduceAdd, Nat.reduceSub, Nat.reduceMul, Nat.reduceLeDiff, Nat.reduceLT, Nat.reduceEqDiff, Int.reduceLT, Int.reduceLE, Int.reduceToNat, Int.reduceAdd, Int.reduceSub, Int.reduceMul, Int.reduceEq, Int.reduceNeg, reduceCtorEq, true_and, and_true, Int.toNat_natCast, List.getElem?_map, Option.map_some, List.length_map, List.length_take, List.length_drop, List.length_append, Nat.sub_zero, Int.toNat_zero, List.length_replicate, Bool.true_or, Bool.or_true, Bool.false_or, Bool.or_false, false_implies, implies_true]))
end Go.Proofs.Ytllijcnbjbfabaa

namespace Go.Proofs.Ytllijcnbjbfabaa
open Go.RowKit
set_option linter.unusedSimpArgs false
set_option linter.unusedVariables false

def cellOk (n : Int) (x : Pr) : Prop := 0 ≤ x.n ∧ x.n < n ∧ x.t.size ≤ 512
theorem cached_pw (n : Int) (l : List Pr) : cachedB n [] l = true ↔ (∀ x ∈ l, cellOk n x) ∧ l.Pairwise (fun x y => x.n ≠ y.n) := by
  rw [cachedB_P]
  constructor
  · intro h
    refine ⟨fun x hx => ?_, List.pairwise_iff_getElem.2 fun i j hi hj hij => (h j hj hj).2 i hi hij⟩
    obtain ⟨t, ht, rfl⟩ := List.getElem_of_mem hx
    exact (h t ht ht).1
  · rintro ⟨h1, h2⟩ t ht _
    exact ⟨h1 _ (List.getElem_mem ht), fun k hk hkt => List.pairwise_iff_getElem.1 h2 k t hk ht hkt⟩
theorem cached_sub {n : Int} {l m : List Pr} (h : cachedB n [] l = true) (hs : m.Sublist l) : cachedB n [] m = true := by
  rw [cached_pw] at h ⊢
  exact ⟨fun x hx => h.1 x (hs.subset hx), h.2.sublist hs⟩
theorem placeN_no {l : List Pr} {s : Int} (h : placeN l s = none) : ∀ x ∈ l, x.n ≠ s := by
  induction l with
  | nil => intro x hx; cases hx
  | cons y l ih =>
    unfold placeN at h
    by_cases hy : y.n = s
    · rw [if_pos hy] at h; cases h
    · rw [if_neg hy] at h
      intro x hx
      rcases List.mem_cons.1 hx with rfl | hx
      · exact hy
      · refine ih ?_ x hx
        cases hp : placeN l s with
        | none => rfl
        | some k => rw [hp] at h; cases h
theorem cached_put {n : Int} {l : List Pr} {s : Int} {b : ByteArray} (h : cachedB n [] l = true) (h0 : 0 ≤ s) (h1 : s < n) (hb : b.size ≤ 512) (hp : placeN l s = none) : cachedB n [] (l ++ [⟨s, b⟩]) = true := by
  rw [cached_pw] at h ⊢
  refine ⟨fun x hx => ?_, ?_⟩
  · rcases List.mem_append.1 hx with hx | hx
    · exact h.1 x hx
    · obtain rfl : x = ⟨s, b⟩ := by simpa using hx
      exact ⟨h0, h1, hb⟩
  · rw [List.pairwise_append]
    refine ⟨h.2, by simp, fun x hx y hy => ?_⟩
    obtain rfl : y = ⟨s, b⟩ := by simpa using hy
    exact placeN_no hp x hx
theorem cached_set {n : Int} {l : List Pr} {q : Nat} {b : ByteArray} (h : cachedB n [] l = true) (hq : q < l.length) (hb : b.size ≤ 512) : cachedB n [] (l.set q ⟨l[q].n, b⟩) = true := by
  rw [cachedB_P] at h ⊢
  have hn : ∀ t (ht : t < (l.set q ⟨l[q].n, b⟩).length) (ht' : t < l.length), (l.set q ⟨l[q].n, b⟩)[t].n = l[t].n := fun t ht ht' => by
    rw [List.getElem_set]
    split
    · rename_i e; subst e; rfl
    · rfl
  intro t ht _
  have ht' : t < l.length := by simpa using ht
  obtain ⟨⟨h1, h2, h3⟩, h4⟩ := h t ht' ht'
  refine ⟨⟨by rw [hn t ht ht']; exact h1, by rw [hn t ht ht']; exact h2, ?_⟩, fun k hk hkt => ?_⟩
  · rw [List.getElem_set]
    split
    · exact hb
    · exact h3
  · have hk' : k < l.length := by simpa using hk
    rw [hn t ht ht', hn k hk hk']
    exact h4 k hk' hkt
theorem getD_set {l : List (List Pr)} {n i : Nat} {c : List Pr} : (l.set n c).getD i [] = if n = i ∧ i < l.length then c else l.getD i [] := by
  simp only [List.getD_eq_getElem?_getD, List.getElem?_set]
  by_cases h : n = i
  · subst h
    by_cases h2 : n < l.length
    · simp [h2]
    · simp [h2]
  · simp [h]
theorem may_cache {d : Dev} (h : MayD d) {node : Nat} {c : List Pr} (hc : cachedB d.s.length [] c = true) : ∀ t (ht : t < d.keys.length), cachedB d.s.length [] ((d.cache.set node c).getD t []) = true := fun t ht => by
  rw [getD_set]
  split
  · exact hc
  · exact h.ca t ht
theorem set_size {l : List ByteArray} {n : Nat} {b : ByteArray} (h : ∀ t (h : t < l.length), l[t].size ≤ 512) (hb : b.size ≤ 512) : ∀ t (h : t < (l.set n b).length), (l.set n b)[t].size ≤ 512 := fun t ht => by
  rw [List.getElem_set]
  split
  · exact hb
  · exact h t (by simpa using ht)
theorem cached_len {n m : Int} {l : List Pr} (h : cachedB n [] l = true) (e : n = m) : cachedB m [] l = true := e ▸ h
theorem act_may {d : Dev} (node : Nat) {a : Ac} (h : Done d node a) : MayD (actD d node a).1 := by
  have hm := h.may
  have hcd : d.cache.getD node [] = d.cache[node]'h.c := getD_at h.c
  have hca := hm.ca node h.n
  rw [hcd] at hca
  have hb : a.k = 2 ∨ a.k = 3 → a.b.size ≤ 512 := fun hk => by
    have : ¬ 512 < a.b.size := fun q => h.B (.inl ⟨hk, q⟩)
    omega
  unfold actD
  simp only [hcd]
  split
  · exact hm
  split
  · rename_i hk
    have hs' := set_size (n := a.s.toNat) hm.s (hb (.inl hk))
    cases hp : placeN (d.cache[node]'h.c) a.s with
    | none => exact ⟨by simpa using hm.s0, hm.k0, hm.k1, hm.c, hm.n0, hm.n1, hs', fun t ht => cached_len (hm.ca t ht) (by simp), hm.ke, hm.f⟩
    | some q => exact ⟨by simpa using hm.s0, hm.k0, hm.k1, by simpa using hm.c, hm.n0, hm.n1, hs', fun t ht => cached_len (may_cache hm (cached_sub hca (List.eraseIdx_sublist _ _)) t ht) (by simp), hm.ke, hm.f⟩
  split
  · rename_i hk
    obtain ⟨hs1, hs2⟩ := h.s (.inr (.inr hk))
    cases hp : placeN (d.cache[node]'h.c) a.s with
    | none => exact ⟨hm.s0, hm.k0, hm.k1, by simpa using hm.c, hm.n0, hm.n1, hm.s, may_cache hm (cached_put hca hs1 hs2 (hb (.inr hk)) hp), hm.ke, hm.f⟩
    | some q =>
      obtain ⟨hq, hqs⟩ := placeN_lt hp
      have := cached_set (b := a.b) hca hq (hb (.inr hk))
      rw [hqs] at this
      exact ⟨hm.s0, hm.k0, hm.k1, by simpa using hm.c, hm.n0, hm.n1, hm.s, may_cache hm this, hm.ke, hm.f⟩
  split
  · cases hl : d.cache[node]'h.c with
    | nil => exact hm
    | cons x r =>
      rw [hl] at hca
      have hx := ((cached_pw _ _).1 hca).1 x (by simp)
      exact ⟨by simpa using hm.s0, hm.k0, hm.k1, by simpa using hm.c, hm.n0, hm.n1, set_size hm.s hx.2.2, fun t ht => cached_len (may_cache hm (cached_sub hca (List.sublist_cons_self _ _)) t ht) (by simp), hm.ke, hm.f⟩
  split
  · rename_i hk
    have hkey : givenB d a.key = true := by
      cases hg : givenB d a.key with
      | true => rfl
      | false => exact absurd (.inr (.inl ⟨hk, hg⟩)) h.B
    obtain ⟨h1, h2⟩ := fenceR_spec d.fen a.key (fen_rise hm.f)
    refine ⟨hm.s0, hm.k0, hm.k1, hm.c, hm.n0, hm.n1, hm.s, hm.ca, hm.ke, fun t ht _ => ⟨?_, fun s hs hst => List.pairwise_iff_getElem.1 h2 s t hs ht (by omega)⟩⟩
    rcases (h1 _).1 (List.getElem_mem ht) with e | e
    · show givenB d _ = true
      rw [e]; exact hkey
    · obtain ⟨i, hi, e⟩ := List.getElem_of_mem e
      show givenB d _ = true
      rw [← e]; exact (hm.f i hi hi).1
  · rename_i n1 n2 n3 n4 n5
    have hk6 : a.k = 6 := by
      have h3 : ¬ a.k < 1 := fun q => h.A (.inr (.inr (.inr (.inl q))))
      have h4 : ¬ 6 < a.k := fun q => h.A (.inr (.inr (.inr (.inr q))))
      omega
    have hnx : d.next < 68719476736 := by
      have : ¬ (68719476736 : Int) ≤ d.next := fun q => h.B (.inr (.inr ⟨hk6, q⟩))
      omega
    have hn0 := hm.n0
    have hk1 := hm.k1
    have hn := h.n
    have hgiv : ∀ k, givenB d k = true → givenB { d with keys := d.keys.set node (16 * d.next + node), next := d.next + 1, cache := d.cache.set node [] } k = true := fun k hk => by
      have := of_decide_eq_true hk
      refine decide_eq_true ⟨this.1, ?_, ?_⟩
      · show k / 16 < d.next + 1
        omega
      · show k % 16 < ((d.keys.set node (16 * d.next + node)).length : Int)
        rw [List.length_set]; exact this.2.2
    refine ⟨hm.s0, by simpa using hm.k0, by simpa using hm.k1, by simpa using hm.c, ?_, ?_, hm.s, fun t ht => may_cache hm rfl t (by simpa using ht), fun t ht => ?_, fun t ht htt => ⟨hgiv _ (hm.f t ht htt).1, (hm.f t ht htt).2⟩⟩
    · show 1 ≤ d.next + 1
      omega
    · show d.next + 1 ≤ 68719476736
      omega
    · have ht' : t < d.keys.length := by simpa using ht
      show (d.keys.set node (16 * d.next + node))[t] = 0 ∨ _
      rw [List.getElem_set]
      split
      · rename_i e
        subst e
        refine .inr ⟨decide_eq_true ⟨by omega, ?_, ?_⟩, by omega⟩
        · show (16 * d.next + (node : Int)) / 16 < d.next + 1
          omega
        · show (16 * d.next + (node : Int)) % 16 < ((d.keys.set node (16 * d.next + node)).length : Int)
          rw [List.length_set]; omega
      · rcases hm.ke t ht' with e | ⟨e1, e2⟩
        · exact .inl e
        · exact .inr ⟨hgiv _ e1, e2⟩
theorem do_may {d : Dev} {node : Int} {a : Ac} (h : MayD d) : MayD (doR d node a).1 := by
  by_cases hr : refuseR d node a = 0
  · have hA : ¬ refA d node a := fun q => by rw [refuseR_a q] at hr; cases hr
    have h1 : ¬ node < 0 := fun q => hA (.inr (.inl q))
    obtain ⟨n, rfl⟩ : ∃ n : Nat, node = n := ⟨node.toNat, by omega⟩
    have hD := refuse_done hr
    rw [hD.ok]
    exact act_may n hD
  · unfold doR
    rw [if_neg hr]
    exact h
theorem keepL_size {kept : Int} {n : Int} {l : List Pr} {s : List ByteArray} (hs : ∀ t (h : t < s.length), s[t].size ≤ 512) (hl : ∀ x ∈ l, x.t.size ≤ 512) : ∀ j, ∀ t (h : t < (keepL kept l s j).length), (keepL kept l s j)[t].size ≤ 512
  | 0 => hs
  | j + 1 => by
    have ih := keepL_size (kept := kept) (n := n) hs hl j
    intro t ht
    cases hg : l[j]? with
    | none =>
      have e : keepL kept l s (j + 1) = keepL kept l s j := by
        show (match l[j]? with | none => _ | some x => _) = _
        rw [hg]
      simp only [e]
      exact ih t (by rw [← e]; exact ht)
    | some x =>
      have hx : x ∈ l := List.mem_of_getElem? hg
      have e : keepL kept l s (j + 1) = if kbit kept j then (keepL kept l s j).set x.n.toNat x.t else keepL kept l s j := by
        show (match l[j]? with | none => _ | some x => _) = _
        rw [hg]
      by_cases hk : kbit kept j
      · rw [if_pos hk] at e
        simp only [e]
        exact set_size ih (hl x hx) t (by rw [← e]; exact ht)
      · rw [if_neg hk] at e
        simp only [e]
        exact ih t (by rw [← e]; exact ht)
theorem crash_may {d : Dev} {node kept : Int} (h : MayD d) : MayD (crashR' d node kept).1 := by
  unfold crashR'
  by_cases hbad : badN d node
  · rw [if_pos hbad]; exact h
  · rw [if_neg hbad]
    obtain ⟨n, rfl, hn, _⟩ := badN_split hbad
    rw [Int.toNat_natCast]
    have hca := h.ca n hn
    have hcell := ((cached_pw _ _).1 hca).1
    have hlen : (if fencedB d [d.keys.getD n 0] = true then d.s else keepL kept (d.cache.getD n []) d.s (min (d.cache.getD n []).length 64)).length = d.s.length := by
      split
      · rfl
      · exact keepL_len _ _ _ _
    refine ⟨?_, h.k0, h.k1, by simpa using h.c, h.n0, h.n1, ?_, fun t ht => cached_len (may_cache h rfl t ht) (by rw [hlen]), h.ke, h.f⟩
    · show 1 ≤ (if fencedB d [d.keys.getD n 0] = true then d.s else keepL kept (d.cache.getD n []) d.s (min (d.cache.getD n []).length 64)).length
      rw [hlen]; exact h.s0
    · show ∀ t (ht : t < (if fencedB d [d.keys.getD n 0] = true then d.s else keepL kept (d.cache.getD n []) d.s (min (d.cache.getD n []).length 64)).length), _
      split
      · exact h.s
      · exact keepL_size (n := 0) h.s (fun x hx => (hcell x hx).2.2) _
theorem start_may {d : Dev} {node : Int} (h : MayD d) : MayD (startR d node).1 := by
  unfold startR
  by_cases hbad : badN d node
  · rw [if_pos hbad]; exact h
  · rw [if_neg hbad]
    obtain ⟨n, rfl, hn, _⟩ := badN_split hbad
    rw [Int.toNat_natCast]
    have hgiv : ∀ k, givenB d k = true → givenB { d with cache := d.cache.set n [], keys := d.keys.set n 0 } k = true := fun k hk => by
      have := of_decide_eq_true hk
      refine decide_eq_true ⟨this.1, this.2.1, ?_⟩
      show k % 16 < ((d.keys.set n 0).length : Int)
      rw [List.length_set]; exact this.2.2
    refine ⟨h.s0, by simpa using h.k0, by simpa using h.k1, by simpa using h.c, h.n0, h.n1, h.s, fun t ht => may_cache h rfl t (by simpa using ht), fun t ht => ?_, fun t ht htt => ⟨hgiv _ (h.f t ht htt).1, (h.f t ht htt).2⟩⟩
    have ht' : t < d.keys.length := by simpa using ht
    show (d.keys.set n 0)[t] = 0 ∨ _
    rw [List.getElem_set]
    split
    · exact .inl rfl
    · rcases h.ke t ht' with e | ⟨e1, e2⟩
      · exact .inl e
      · exact .inr ⟨hgiv _ e1, e2⟩
theorem deed_may {d : Dev} {x : Deed} (h : MayD d) : MayD (deedR d x).1 := by
  unfold deedR
  split
  · exact do_may h
  split
  · exact crash_may h
  split
  · exact start_may h
  · exact h
/-- how great a device is -/
structure Sz (d : Dev) (j : Nat) : Prop where
  s : d.s.length ≤ 40
  f : d.fen.length ≤ j
  c : ∀ x ∈ d.cache, x.length ≤ j
theorem Sz.mono {d : Dev} {i j : Nat} (h : Sz d i) (hij : i ≤ j) : Sz d j := ⟨h.s, Nat.le_trans h.f hij, fun x hx => Nat.le_trans (h.c x hx) hij⟩
theorem may_ok {d : Dev} {j : Nat} (hm : MayD d) (hz : Sz d j) (hj : j ≤ 1000) : DevOk d := by
  have hn1 := hm.n1
  have hgb : ∀ k, givenB d k = true → -4611686018427387904 ≤ k ∧ k ≤ 4611686018427387904 := fun k hk => by
    have := of_decide_eq_true hk
    omega
  exact ⟨by have := hz.s; omega, by have := hm.c; have := hm.k1; omega, fun i h => by have := hz.c _ (List.getElem_mem h); omega, by have := hm.k1; omega, fun i h => by
    rcases hm.ke i h with e | ⟨e, _⟩
    · omega
    · exact hgb _ e, by have := hm.n0; omega, by have := hz.f; omega, fun i h => hgb _ (hm.f i h h).1, fun i h => by have := hm.s i h; omega⟩
theorem set_len {l : List (List Pr)} {n j : Nat} {c : List Pr} (h : ∀ x ∈ l, x.length ≤ j) (hc : c.length ≤ j) : ∀ x ∈ l.set n c, x.length ≤ j := fun x hx => by
  rcases List.mem_or_eq_of_mem_set hx with hx | rfl
  · exact h x hx
  · exact hc
theorem act_size {d : Dev} {node j : Nat} {a : Ac} (h : Done d node a) (hz : Sz d j) : Sz (actD d node a).1 (j + 1) := by
  have hm := h.may
  have hcd : d.cache.getD node [] = d.cache[node]'h.c := getD_at h.c
  have hcl : (d.cache[node]'h.c).length ≤ j := hz.c _ (List.getElem_mem h.c)
  have hcj : ∀ x ∈ d.cache, x.length ≤ j + 1 := fun x hx => by have := hz.c x hx; omega
  have hs := hz.s
  have hf := hz.f
  unfold actD
  simp only [hcd]
  split
  · exact hz.mono (by omega)
  split
  · cases hp : placeN (d.cache[node]'h.c) a.s with
    | none => exact ⟨by simpa using hs, by show d.fen.length ≤ j + 1; omega, hcj⟩
    | some q => exact ⟨by simpa using hs, by show d.fen.length ≤ j + 1; omega, set_len hcj (by have := List.length_eraseIdx_le (d.cache[node]'h.c) q; omega)⟩
  split
  · cases hp : placeN (d.cache[node]'h.c) a.s with
    | none => exact ⟨hs, by show d.fen.length ≤ j + 1; omega, set_len hcj (by simp; omega)⟩
    | some q => exact ⟨hs, by show d.fen.length ≤ j + 1; omega, set_len hcj (by simp; omega)⟩
  split
  · cases hl : d.cache[node]'h.c with
    | nil => exact hz.mono (by omega)
    | cons x r => exact ⟨by simpa using hs, by show d.fen.length ≤ j + 1; omega, set_len hcj (by rw [hl] at hcl; simp at hcl; omega)⟩
  split
  · exact ⟨hs, by have := fenceR_len1 d.fen a.key (fen_rise hm.f); show (fenceR d.fen a.key).length ≤ j + 1; omega, hcj⟩
  · exact ⟨hs, by show d.fen.length ≤ j + 1; omega, set_len hcj (by simp)⟩
theorem deed_size {d : Dev} {x : Deed} {j : Nat} (hz : Sz d j) : Sz (deedR d x).1 (j + 1) := by
  have hcj : ∀ x ∈ d.cache, x.length ≤ j + 1 := fun x hx => by have := hz.c x hx; omega
  have hs := hz.s
  have hf := hz.f
  unfold deedR
  split
  · by_cases hr : refuseR d x.node x.a = 0
    · have hA : ¬ refA d x.node x.a := fun q => by rw [refuseR_a q] at hr; cases hr
      have h1 : ¬ x.node < 0 := fun q => hA (.inr (.inl q))
      obtain ⟨n, hn⟩ : ∃ n : Nat, x.node = n := ⟨x.node.toNat, by omega⟩
      rw [hn] at hr ⊢
      have hD := refuse_done hr
      rw [hD.ok]
      exact act_size hD hz
    · unfold doR
      rw [if_neg hr]
      exact hz.mono (by omega)
  split
  · unfold crashR'
    split
    · exact hz.mono (by omega)
    · refine ⟨?_, by show d.fen.length ≤ j + 1; omega, set_len hcj (by simp)⟩
      show (if _ then d.s else keepL _ _ d.s _).length ≤ 40
      split
      · exact hs
      · rw [keepL_len]; exact hs
  split
  · unfold startR
    split
    · exact hz.mono (by omega)
    · exact ⟨hs, by show d.fen.length ≤ j + 1; omega, set_len hcj (by simp)⟩
  · exact hz.mono (by omega)
end Go.Proofs.Ytllijcnbjbfabaa

namespace Go.Proofs.Ytllijcnbjbfabaa
open Go.RowKit
set_option linter.unusedSimpArgs false
set_option linter.unusedVariables false

theorem doR_ref {d : Dev} {node : Int} {a : Ac} (h : refuseR d node a ≠ 0) : doR d node a = (d, ⟨#[]⟩, refuseR d node a) := by
  unfold doR
  rw [if_neg h]
theorem doR_ok {d : Dev} {node : Nat} {a : Ac} (h : refuseR d node a = 0) : doR d node a = ((actD d node a).1, (actD d node a).2, 0) := by
  unfold doR
  rw [if_pos h, Int.toNat_natCast]
theorem act_next {d : Dev} {node : Nat} {a : Ac} : (actD d node a).1.next ≤ d.next + 1 ∧ (actD d node a).1.keys.length = d.keys.length := by
  unfold actD
  dsimp only
  split
  · exact ⟨by show d.next ≤ _; omega, rfl⟩
  split
  · exact ⟨by show d.next ≤ _; omega, rfl⟩
  split
  · exact ⟨by show d.next ≤ _; omega, rfl⟩
  split
  · split
    · exact ⟨by show d.next ≤ _; omega, rfl⟩
    · exact ⟨by show d.next ≤ _; omega, rfl⟩
  split
  · exact ⟨by show d.next ≤ _; omega, rfl⟩
  · exact ⟨Int.le_refl _, by simp⟩
theorem deed_next {d : Dev} {x : Deed} : (deedR d x).1.next ≤ d.next + 1 ∧ (deedR d x).1.keys.length = d.keys.length := by
  unfold deedR
  split
  · unfold doR
    split
    · exact act_next
    · exact ⟨by show d.next ≤ _; omega, rfl⟩
  split
  · unfold crashR'
    split
    · exact ⟨by show d.next ≤ _; omega, rfl⟩
    · exact ⟨by show d.next ≤ _; omega, rfl⟩
  split
  · unfold startR
    split
    · exact ⟨by show d.next ≤ _; omega, rfl⟩
    · exact ⟨by show d.next ≤ _; omega, by simp⟩
  · exact ⟨by show d.next ≤ _; omega, rfl⟩
/-- a node that is fenced, and the sectors -/
structure Locked (d : Dev) (node : Nat) (s : List ByteArray) (n : Int) : Prop where
  may : MayD d
  s : d.s = s
  k : d.keys.length = 5
  n4 : node < 4
  f : fencedB d [d.keys.getD node 0] = true
  n : d.next ≤ n
theorem locked_deed {d : Dev} {node : Nat} {s : List ByteArray} {n : Int} (h : Locked d node s n) {x : Deed} (hx : x.node = node) (hk : ¬ (x.d = 0 ∧ x.a.k = 6)) :
    Locked (deedR d x).1 node s n ∧ (x.d = 0 → ((deedR d x).2.2 = 2 ∨ (deedR d x).2.2 = 61) ∧ (deedR d x).2.1 = ⟨#[]⟩) := by
  have hm' : MayD (deedR d x).1 := deed_may h.may
  have hf := h.f
  by_cases e0 : x.d = 0
  · have e : deedR d x = doR d x.node x.a := if_pos e0
    have hr : refuseR d x.node x.a = 2 ∨ refuseR d x.node x.a = 61 := by
      by_cases hA : refA d x.node x.a
      · exact .inl (refuseR_a hA)
      by_cases hB : refB d x.a
      · exact .inl (refuseR_b hA hB)
      refine .inr (refuseR_c hA hB ⟨fun q => hk ⟨e0, q⟩, ?_⟩)
      rw [hx, Int.toNat_natCast]; exact hf
    have hd : doR d x.node x.a = (d, ⟨#[]⟩, refuseR d x.node x.a) := doR_ref (by rcases hr with q | q <;> rw [q] <;> decide)
    rw [e, hd]
    exact ⟨h, fun _ => ⟨hr, rfl⟩⟩
  refine ⟨?_, fun q => absurd q e0⟩
  by_cases e1 : x.d = 1
  · have e : (deedR d x).1 = (crashR' d x.node x.kept).1 := by
      unfold deedR
      rw [if_neg e0, if_pos e1]
    rw [e] at hm' ⊢
    unfold crashR' at hm' ⊢
    by_cases hb : badN d x.node
    · rw [if_pos hb]; exact h
    · rw [if_neg hb] at hm' ⊢
      rw [hx, Int.toNat_natCast, if_pos hf] at hm' ⊢
      exact ⟨hm', h.s, h.k, h.n4, hf, h.n⟩
  by_cases e2 : x.d = 2
  · have e : (deedR d x).1 = (startR d x.node).1 := by
      unfold deedR
      rw [if_neg e0, if_neg e1, if_pos e2]
    rw [e] at hm' ⊢
    unfold startR at hm' ⊢
    by_cases hb : badN d x.node
    · rw [if_pos hb]; exact h
    · rw [if_neg hb] at hm' ⊢
      rw [hx, Int.toNat_natCast] at hm' ⊢
      refine ⟨hm', h.s, by simpa using h.k, h.n4, ?_, h.n⟩
      have : (d.keys.set node 0).getD node 0 = 0 := by
        rw [List.getD_eq_getElem?_getD, List.getElem?_set]
        simp
        split <;> rfl
      show fencedB _ [(d.keys.set node 0).getD node 0] = true
      rw [this]
      rfl
  · have e : deedR d x = (d, ⟨#[]⟩, 0) := by
      unfold deedR
      rw [if_neg e0, if_neg e1, if_neg e2]
    rw [e]
    exact h
theorem zero_of {d : Dev} {node : Nat} {a : Ac} (hA : ¬ refA d node a) (hB : ¬ refB d a) (hC : ¬ refC d node a) (hD : ¬ refD d a) : refuseR d node a = 0 :=
  (if_neg hA).trans ((if_neg hB).trans ((if_neg hC).trans (if_neg hD)))
theorem notA4 {d : Dev} {node : Nat} {a : Ac} (h : MayD d) (hn : node < d.keys.length) (h1 : 1 ≤ a.k) (h6 : a.k ≤ 6) : ¬ refA d node a := fun q => by
  rcases q with q | q | q | q | q
  · rw [(checkB_iff d).2 h] at q; cases q
  all_goals omega
theorem reg_ok {d : Dev} {node : Nat} (h : MayD d) (hn : node < d.keys.length) (hx : d.next < 68719476736) :
    doR d node ⟨6, 0, ⟨#[]⟩, 0⟩ = ({ d with keys := d.keys.set node (16 * d.next + node), next := d.next + 1, cache := d.cache.set node [] }, key6 (16 * d.next + node), 0) := by
  have hr : refuseR d node ⟨6, 0, ⟨#[]⟩, 0⟩ = 0 := zero_of (notA4 h hn (by decide) (by decide)) (fun q => by
    rcases q with ⟨q | q, _⟩ | ⟨q, _⟩ | ⟨_, q⟩
    · cases q
    · cases q
    · cases q
    · omega) (fun q => q.1 rfl) (fun q => by
    rcases q with ⟨q | q | q, _⟩ <;> cases q)
  rw [doR_ok hr]
  rfl
theorem key6_size (n : Int) : (key6 n).size = 6 := rfl
theorem fen_given {d : Dev} (h : MayD d) {k : Int} (hk : k ∈ d.fen) : givenB d k = true := by
  obtain ⟨i, hi, rfl⟩ := List.getElem_of_mem hk
  exact (h.f i hi hi).1
theorem fenced_no {d : Dev} {k : Int} (h1 : 1 ≤ k) (h2 : k ∉ d.fen) : fencedB d [k] = false := by
  unfold fencedB
  rw [List.any_cons, List.any_nil, Bool.or_false, decide_eq_false (by omega), Bool.false_or, List.any_eq_false]
  intro x hx
  simp only [decide_eq_true_eq]
  rintro rfl
  exact h2 hx
theorem fenced_yes {d : Dev} {k : Int} (h2 : k ∈ d.fen) : fencedB d [k] = true := by
  unfold fencedB
  rw [List.any_cons, List.any_nil, Bool.or_false, Bool.or_eq_true]
  exact .inr (List.any_eq_true.2 ⟨k, h2, decide_eq_true rfl⟩)
/-- registered at node 4, the node's key fenced -/
structure Fences (d d1 d2 : Dev) (node : Nat) (key : Int) : Prop where
  r : doR d 4 ⟨6, 0, ⟨#[]⟩, 0⟩ = (d1, key6 (16 * d.next + 4), 0)
  m1 : MayD d1
  k1 : d1.keys.getD node 0 = key
  l1 : d1.keys.length = 5
  fe : doR d1 4 ⟨5, 0, ⟨#[]⟩, key⟩ = (d2, ⟨#[]⟩, 0)
  k2 : d2.keys = d1.keys
  s1 : d1.s = d.s
  s2 : d2.s = d.s
  f1 : fencedB d2 [key] = true
  f2 : fencedB d2 [d2.keys.getD 4 0] = false
  lock : Locked d2 node d.s (d.next + 1)
theorem fences {d : Dev} {node : Nat} (h : MayD d) (hk : d.keys.length = 5) (hn : node < 4) (h0 : d.keys.getD node 0 ≠ 0) (hx : d.next < 1000) : ∃ d1 d2, Fences d d1 d2 node (d.keys.getD node 0) := by
  have hr := reg_ok (d := d) (node := 4) h (by omega) (by omega)
  generalize hd1 : ({ d with keys := d.keys.set 4 (16 * d.next + (4 : Nat)), next := d.next + 1, cache := d.cache.set 4 [] } : Dev) = d1 at hr
  have m1 : MayD d1 := by
    have := do_may (d := d) (node := 4) (a := ⟨6, 0, ⟨#[]⟩, 0⟩) h
    rw [show ((4 : Nat) : Int) = 4 from rfl] at hr
    rw [hr] at this
    exact this
  have l1 : d1.keys.length = 5 := by rw [← hd1]; simpa using hk
  have x1 : d1.next = d.next + 1 := by rw [← hd1]
  have f1 : d1.fen = d.fen := by rw [← hd1]
  have s1 : d1.s = d.s := by rw [← hd1]
  have k4 : d1.keys.getD 4 0 = 16 * d.next + 4 := by
    rw [← hd1]
    show (d.keys.set 4 (16 * d.next + (4 : Nat))).getD 4 0 = _
    rw [List.getD_eq_getElem?_getD, List.getElem?_set_self (by omega)]
    rfl
  have kn : d1.keys.getD node 0 = d.keys.getD node 0 := by
    rw [← hd1]
    show (d.keys.set 4 (16 * d.next + (4 : Nat))).getD node 0 = _
    rw [List.getD_eq_getElem?_getD, List.getElem?_set_ne (by omega), ← List.getD_eq_getElem?_getD]
  have hnl : node < d1.keys.length := by omega
  have hkey := m1.ke node hnl
  rw [← getD_at (a := 0) hnl, kn] at hkey
  obtain ⟨g1, g2⟩ := hkey.resolve_left h0
  have hn0 := h.n0
  have hnf : 16 * d.next + 4 ∉ d.fen := fun q => by
    have := of_decide_eq_true (fen_given h q)
    omega
  generalize hkk : d.keys.getD node 0 = key at *
  have h4 : doR d1 4 ⟨5, 0, ⟨#[]⟩, key⟩ = ({ d1 with fen := fenceR d1.fen key }, ⟨#[]⟩, 0) := by
    have hz : refuseR d1 (4 : Nat) ⟨5, 0, ⟨#[]⟩, key⟩ = 0 := zero_of (notA4 m1 (by omega) (by show (1 : Int) ≤ 5; decide) (by show (5 : Int) ≤ 6; decide)) (fun q => by
      rcases q with ⟨q | q, _⟩ | ⟨_, q⟩ | ⟨q, _⟩
      · cases q
      · cases q
      · dsimp only at q; rw [g1] at q; cases q
      · cases q) (fun q => by
      have := q.2
      rw [Int.toNat_natCast, k4, fenced_no (by omega) (by rw [f1]; exact hnf)] at this
      cases this) (fun q => by rcases q with ⟨q | q | q, _⟩ <;> cases q)
    rw [show (4 : Int) = ((4 : Nat) : Int) from rfl, doR_ok hz]
    rfl
  obtain ⟨q1, q2⟩ := fenceR_spec d1.fen key (fen_rise m1.f)
  have m2 : MayD { d1 with fen := fenceR d1.fen key } := by
    have := do_may (d := d1) (node := 4) (a := ⟨5, 0, ⟨#[]⟩, key⟩) m1
    rw [h4] at this
    exact this
  have hyes : fencedB { d1 with fen := fenceR d1.fen key } [key] = true := fenced_yes ((q1 key).2 (.inl rfl))
  refine ⟨d1, _, hr, m1, kn, l1, h4, rfl, s1, s1, hyes, ?_, m2, s1, l1, hn, ?_, by show d1.next ≤ _; omega⟩
  · show fencedB _ [d1.keys.getD 4 0] = false
    rw [k4]
    refine fenced_no (by omega) fun q => ?_
    rcases (q1 _).1 q with e | e
    · omega
    · exact hnf (f1 ▸ e)
  · show fencedB _ [d1.keys.getD node 0] = true
    rw [kn]; exact hyes
end Go.Proofs.Ytllijcnbjbfabaa

namespace Go.Proofs.Ytllijcnbjbfabaa
open Go.RowKit
set_option linter.unusedSimpArgs false
set_option linter.unusedVariables false

theorem ac1_lk {P : Program} {ops : Array Oper} {h : FuncId} {d : Option Tmp} {l : List Oper} {fr : Fr} {st : St} {args args' : List V} {r : V} {K : Fr → St → Prop} (f : Nat → Nat) (hz : Fzs st f args args') (hc : Con P h args' (· = r)) (hk : aops P ops l (fr.put d r) (st.lockF f) K) : ac1 P ops h args d l fr st K := by
  unfold ac1
  exact acall_lk f hz hc hk
theorem lockF_c {st : St} {f : Nat → Nat} : (st.lockF f).c = st.c := rfl
def bX : ByteArray := ⟨#[120]⟩
def bA : ByteArray := ⟨#[97]⟩
def bE : ByteArray := ⟨#[]⟩
def wD0 : Dev := ⟨[bE, bX], [[], []], [0, 0], 1, []⟩
def wD1 : Dev := ⟨[bE, bX], [[], []], [16, 0], 2, []⟩
def wD2 : Dev := ⟨[bE, bX], [[], []], [16, 33], 3, []⟩
def wD3 : Dev := ⟨[bE, bX], [[⟨1, bA⟩], []], [16, 33], 3, []⟩
def wD4 : Dev := ⟨[bE, bX], [[⟨1, bA⟩], []], [16, 33], 3, [16]⟩
def wLost : Dev := ⟨[bE, bX], [[], []], [16, 33], 3, []⟩
def wKept : Dev := ⟨[bE, bA], [[], []], [16, 33], 3, []⟩
def wFen : Dev := ⟨[bE, bX], [[], []], [16, 33], 3, [16]⟩
theorem wok {d : Dev} (h : checkB d = true) (hs : d.s.length ≤ 40) (hf : d.fen.length ≤ 3) (hc : ∀ x ∈ d.cache, x.length ≤ 3) : DevOk d := may_ok ((checkB_iff d).1 h) (j := 3) ⟨hs, hf, hc⟩ (by omega)
theorem acok {k s key : Int} {b : ByteArray} (h1 : -128 ≤ k ∧ k ≤ 127) (h2 : 0 ≤ s ∧ s ≤ 100) (h3 : b.size ≤ 100) (h4 : 0 ≤ key ∧ key ≤ 100) : AcOk ⟨k, s, b, key⟩ := ⟨h1, by dsimp only; omega, by dsimp only; omega, by dsimp only; omega⟩
set_option maxRecDepth 100000 in
set_option maxHeartbeats 16000000 in
theorem wakes6_con : PCon Try.prog 18 [] (.bool true) := by
  refine ⟨?_, fun _ h => by cases h⟩
  refine con_of_awp Try.func18 rfl mixed (by decide) rfl (by kernel_rfl) rfl ?_
  have k0 : DevOk wD0 := wok (by kernel_rfl) (by decide) (by decide) (by decide)
  have k1 : DevOk wD1 := wok (by kernel_rfl) (by decide) (by decide) (by decide)
  have k2 : DevOk wD2 := wok (by kernel_rfl) (by decide) (by decide) (by decide)
  have k3 : DevOk wD3 := wok (by kernel_rfl) (by decide) (by decide) (by decide)
  have k4 : DevOk wD4 := wok (by kernel_rfl) (by decide) (by decide) (by decide)
  have h0 : Con Try.prog 19 [.int .i64 2, .sl [[.str ⟨#[]⟩], [.str ⟨#[120]⟩]] false] (· = .tup [devV wD0, .int .i64 0]) := by
    have := (dNew_con 2 [bE, bX] false (by decide) (fun i h => by match i, h with | 0, _ => exact (show (0 : Nat) ≤ 9223372036854775807 by decide) | 1, _ => exact (show (1 : Nat) ≤ 9223372036854775807 by decide))).1
    rw [show newR' 2 [bE, bX] = (wD0, 0) by kernel_rfl] at this
    exact this
  have h1 : PCon Try.prog 20 [devV wD0, .int .i64 0, .agg [.int .i8 6, .int .i64 0, .str ⟨#[]⟩, .int .i64 0]] (.tup [devV wD1, .str ⟨#[16, 0, 0, 0, 0, 0]⟩, .int .i64 0]) := by
    have := dDo_con wD0 k0 0 ⟨6, 0, bE, 0⟩ (acok (by decide) (by decide) (by decide) (by decide))
    rw [show doR wD0 0 ⟨6, 0, bE, 0⟩ = (wD1, ⟨#[16, 0, 0, 0, 0, 0]⟩, 0) by kernel_rfl] at this
    exact this
  have h2 : PCon Try.prog 20 [devV wD1, .int .i64 1, .agg [.int .i8 6, .int .i64 0, .str ⟨#[]⟩, .int .i64 0]] (.tup [devV wD2, .str ⟨#[33, 0, 0, 0, 0, 0]⟩, .int .i64 0]) := by
    have := dDo_con wD1 k1 1 ⟨6, 0, bE, 0⟩ (acok (by decide) (by decide) (by decide) (by decide))
    rw [show doR wD1 1 ⟨6, 0, bE, 0⟩ = (wD2, ⟨#[33, 0, 0, 0, 0, 0]⟩, 0) by kernel_rfl] at this
    exact this
  have h3 : PCon Try.prog 20 [devV wD2, .int .i64 0, .agg [.int .i8 3, .int .i64 1, .str ⟨#[97]⟩, .int .i64 0]] (.tup [devV wD3, .str ⟨#[]⟩, .int .i64 0]) := by
    have := dDo_con wD2 k2 0 ⟨3, 1, bA, 0⟩ (acok (by decide) (by decide) (by decide) (by decide))
    rw [show doR wD2 0 ⟨3, 1, bA, 0⟩ = (wD3, ⟨#[]⟩, 0) by kernel_rfl] at this
    exact this
  have h4 : PCon Try.prog 52 [devV wD3, .int .i64 0, .int .u64 0] (.tup [devV wLost, .int .i64 0]) := by
    have := dCrash_con wD3 k3 0 0 (by decide) (by decide)
    rw [show crashR' wD3 0 0 = (wLost, 0) by kernel_rfl] at this
    exact this
  have h5 : PCon Try.prog 52 [devV wD3, .int .i64 0, .int .u64 1] (.tup [devV wKept, .int .i64 0]) := by
    have := dCrash_con wD3 k3 0 1 (by decide) (by decide)
    rw [show crashR' wD3 0 1 = (wKept, 0) by kernel_rfl] at this
    exact this
  have h6 : PCon Try.prog 20 [devV wD3, .int .i64 1, .agg [.int .i8 5, .int .i64 0, .str ⟨#[]⟩, .int .i64 16]] (.tup [devV wD4, .str ⟨#[]⟩, .int .i64 0]) := by
    have := dDo_con wD3 k3 1 ⟨5, 0, bE, 16⟩ (acok (by decide) (by decide) (by decide) (by decide))
    rw [show doR wD3 1 ⟨5, 0, bE, 16⟩ = (wD4, ⟨#[]⟩, 0) by kernel_rfl] at this
    exact this
  have h7 : PCon Try.prog 52 [devV wD4, .int .i64 0, .int .u64 1] (.tup [devV wFen, .int .i64 0]) := by
    have := dCrash_con wD4 k4 0 1 (by decide) (by decide)
    rw [show crashR' wD4 0 1 = (wFen, 0) by kernel_rfl] at this
    exact this
  have h8 : PCon Try.prog 20 [devV wD4, .int .i64 0, .agg [.int .i8 1, .int .i64 0, .str ⟨#[]⟩, .int .i64 0]] (.tup [devV wD4, .str ⟨#[]⟩, .int .i64 61]) := by
    have := dDo_con wD4 k4 0 ⟨1, 0, bE, 0⟩ (acok (by decide) (by decide) (by decide) (by decide))
    rw [show doR wD4 0 ⟨1, 0, bE, 0⟩ = (wD4, ⟨#[]⟩, 61) by kernel_rfl] at this
    exact this
  have hpl : Plain (.sl [[.str ⟨#[]⟩], [.str ⟨#[120]⟩]] false) := (plain_tx [bE, bX] false).2 trivial
  have l1 : wLost.s.length = 2 := rfl
  have l2 : wKept.s.length = 2 := rfl
  have l3 : wFen.s.length = 2 := rfl
  have g1 : wLost.s[1]? = some ⟨#[120]⟩ := rfl
  have g2 : wKept.s[1]? = some ⟨#[97]⟩ := rfl
  have g3 : wFen.s[1]? = some ⟨#[120]⟩ := rfl
  (repeat' (first | with_reducible (first | refine agr_d (fun hc => ?_) fun hc => ?_ | refine agr_n (fun hc => ?_) fun hc => ?_ | refine acd_d (fun hc => ?_) fun hc => ?_ | refine acd_n (fun hc => ?_) fun hc => ?_ | refine dgr_d (fun hc => ?_) fun hc => ?_ | refine dgr_n (fun hc => ?_) fun hc => ?_ | refine dl_sound _ _ [] [] [] _ _ (fun _ h => absurd h List.not_mem_nil) ?_ | refine conEnd_p (.inl rfl) ?_ | refine conEnd_p (.inr rfl) ?_ | refine ac1_lk mny (fzs_two (.plain _ (.int _ _)) (fz_row (sz := 1) (lk := 0) (es := [[.str ⟨#[]⟩], [.str ⟨#[120]⟩]]) ?_ ?_ ?_ hpl)) h0 ?_ | refine dc1_p h1 ?_ | refine ac1_p h1 ?_ | refine dc1_p h2 ?_ | refine ac1_p h2 ?_ | refine dc1_p h3 ?_ | refine ac1_p h3 ?_ | refine dc1_p h4 ?_ | refine ac1_p h4 ?_ | refine dc1_p h5 ?_ | refine ac1_p h5 ?_ | refine dc1_p h6 ?_ | refine ac1_p h6 ?_ | refine dc1_p h7 ?_ | refine ac1_p h7 ?_ | refine dc1_p h8 ?_ | refine ac1_p h8 ?_) | simp (disch := omega) only [go_sem, devV, l1, l2, l3, g1, g2, g3, tl_eq, lockF_c, Nat.reduceAdd, Nat.reduceSub, Nat.reduceMul, Nat.reduceLeDiff, Nat.reduceLT, Nat.reduceEqDiff, Int.reduceLT, Int.reduceLE, Int.reduceToNat, Int.reduceAdd, Int.reduceSub, Int.reduceMul, Int.reduceEq, Int.reduceNeg, reduceCtorEq, true_and, and_true, Int.toNat_natCast, List.getElem?_map, Option.map_some, List.length_map, List.length_take, List.length_drop, List.length_append, Nat.sub_zero, Int.toNat_zero, List.length_replicate, Bool.true_or, Bool.or_true, Bool.false_or, Bool.or_false, false_implies, implies_true]))
end Go.Proofs.Ytllijcnbjbfabaa

namespace Go.Proofs.Ytllijcnbjbfabaa
open Go.RowKit
set_option linter.unusedSimpArgs false
set_option linter.unusedVariables false

/-- a deed that came in -/
structure DeedIn (x : Deed) : Prop where
  k : -128 ≤ x.a.k ∧ x.a.k ≤ 127
  s : -9223372036854775808 ≤ x.a.s ∧ x.a.s ≤ 9223372036854775807
  key : -9223372036854775808 ≤ x.a.key ∧ x.a.key ≤ 9223372036854775807
  kept : 0 ≤ x.kept ∧ x.kept < 18446744073709551616
theorem plain_de (l : List Deed) (b : Bool) : Plain (.sl (l.map deV) b) ↔ True := ⟨fun _ => trivial, fun _ => .sl _ _ fun r hr x hx => by
  obtain ⟨p, _, rfl⟩ := List.mem_map.1 hr
  simp only [deV, List.mem_cons, List.not_mem_nil, or_false] at hx
  rcases hx with rfl | rfl | rfl | rfl | rfl | rfl | rfl
  all_goals first | exact .int _ _ | exact .str _⟩
theorem great6_p (l : List Deed) (fl : Bool) (hl : l.length ≤ 9223372036854775807) : PCon Try.prog 23 [.sl (l.map deV) fl] (.bool (greatD l)) :=
  ⟨great6_con l fl hl, fun x hx => by
    obtain rfl : x = _ := by simpa using hx
    exact (plain_de l fl).2 trivial⟩
theorem not_great {l : List Deed} (h : greatD l = false) : l.length ≤ 100 ∧ ∀ x ∈ l, x.a.b.size ≤ 2000 := by
  unfold greatD at h
  rw [Bool.or_eq_false_iff, List.any_eq_false, decide_eq_false_iff_not] at h
  refine ⟨by omega, fun x hx => ?_⟩
  have := h.1 x (by rw [List.take_of_length_le (by omega)]; exact hx)
  simp only [decide_eq_true_eq] at this
  omega
theorem deed_in {x : Deed} (h : DeedIn x) (hb : x.a.b.size ≤ 2000) : DeedOk x := ⟨⟨h.k, h.s, by omega, h.key⟩, h.kept⟩
theorem newR_cases (nodes : Int) (ss : List ByteArray) : newR' nodes ss = (noD, 2) ∨ ∃ n : Nat, nodes = n ∧ n ≤ 16 ∧ newR' nodes ss = (newD n ss, 0) ∧ MayD (newD n ss) := by
  unfold newR'
  by_cases h : nodes < 1 ∨ 16 < nodes
  · rw [if_pos h]; exact .inl rfl
  · rw [if_neg h]
    by_cases hc : checkB (newD nodes.toNat ss) = true
    · rw [if_pos hc]
      exact .inr ⟨nodes.toNat, by omega, by omega, rfl, (checkB_iff _).1 hc⟩
    · rw [if_neg hc]; exact .inl rfl
theorem noD_ok : DevOk noD := ⟨by simp, by simp, fun i h => by simp at h, by simp, fun i h => by simp at h, by simp, by simp, fun i h => by simp at h, fun i h => by simp at h⟩
theorem newD_sz {n : Nat} {ss : List ByteArray} (h : ss.length ≤ 40) (j : Nat) : Sz (newD n ss) j := ⟨h, by simp, fun x hx => by
  obtain rfl : x = [] := List.eq_of_mem_replicate hx
  simp⟩
end Go.Proofs.Ytllijcnbjbfabaa

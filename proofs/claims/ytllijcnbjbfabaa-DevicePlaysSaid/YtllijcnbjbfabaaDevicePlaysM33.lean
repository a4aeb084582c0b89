/- breakwaterref06: Do, by the calculus: kind 5. -/
import Derived.Test.YtllijcnbjbfabaaDevicePlaysM31
import Derived.Test.YtllijcnbjbfabaaDevicePlaysM32
import Derived.Test.YtllijcnbjbfabaaDevicePlaysM30
import Derived.Test.YtllijcnbjbfabaaDevicePlaysM02
namespace Go.Proofs.Ytllijcnbjbfabaa
open Go.RowKit
set_option linter.unusedSimpArgs false
set_option linter.unusedVariables false

set_option maxRecDepth 100000 in
set_option maxHeartbeats 32000000 in
theorem Do_5 (d : Dev) (hd : DevOk d) (hm : MayD d) (node : Nat) (hn : node < d.keys.length) (a : Ac) (ha : AcOk a) (hk : a.k = 5) : Con Try.prog 12 [devV d, .int .i64 node, acV a] (· = doV (doR d node a)) := by
  have hA := notA hm hn (by omega) (by omega : a.k ≤ 6)
  have hs1 := ha.s
  have hkr := ha.key
  have hcn : node < d.cache.length := by rw [hm.c]; exact hn
  have hkg : d.keys[node]? = some d.keys[node] := List.getElem?_eq_getElem hn
  have hkd : d.keys.getD node 0 = d.keys[node] := by rw [List.getD_eq_getElem?_getD, hkg]; rfl
  have hcd : d.cache.getD node [] = d.cache[node] := by rw [List.getD_eq_getElem?_getD, List.getElem?_eq_getElem hcn]; rfl
  have hc : PCon Try.prog 36 [devV d] (.int .i64 0) := ⟨by have := Check_con d hd; rw [show chk d = 0 by unfold chk; rw [(checkB_iff d).2 hm]; rfl] at this; exact this, by (simp only [List.nil_append, List.cons_append, List.append_nil, List.forall_mem_cons, List.not_mem_nil, false_implies, implies_true, and_true, true_and, plain_agg, plain_tup, plain_int, plain_bool, plain_str, plain_nilp, plain_nilfn, plain_undef, plain_dev, plain_pr, plain_tx, plain_in, plain_cc])⟩
  have hF : Con Try.prog 38 [devV d, .sl [[.int .i64 d.keys[node]]] false] (· = .bool (fencedB d [d.keys[node]])) := Fenced_con _ _ _ _ d false false [d.keys[node]] (by have := hd.f; omega) (by simp)
  have hpd : Plain (devV d) := (plain_dev d).2 trivial
  have hpk : Plain (.sl [[.int .i64 d.keys[node]]] false) := (plain_in [d.keys[node]] false).2 trivial
  have hcl := hd.ci node hcn
  have hgc := given_c d a.key (by omega)
  refine con_of_awp Try.func12 rfl mixed (by decide) rfl (by kernel_rfl) rfl ?_
  cases hgb : givenB d a.key with
  | false =>
    rw [hgb] at hgc
    rw [refuse_b hA (.inr (.inl ⟨hk, hgb⟩))]
    (repeat' (first | with_reducible (first | refine agr_d (fun hc => ?_) fun hc => ?_ | refine agr_n (fun hc => ?_) fun hc => ?_ | refine acd_d (fun hc => ?_) fun hc => ?_ | refine acd_n (fun hc => ?_) fun hc => ?_ | refine dgr_d (fun hc => ?_) fun hc => ?_ | refine dgr_n (fun hc => ?_) fun hc => ?_ | refine dl_sound _ _ [] [] [] _ _ (fun _ h => absurd h List.not_mem_nil) ?_ | refine conEnd_p (.inl rfl) ?_ | refine conEnd_p (.inr rfl) ?_ | refine dc1_p hc ?_ | refine ac1_p hc ?_ | refine dc1_p hgc ?_ | refine ac1_p hgc ?_ | refine dc1_sc2 (sz := 1) (lk := 0) hpd ?_ ?_ hpk hF (.bool _) ?_) | simp (disch := omega) only [go_sem, devV, doV, hk, hkg, Nat.reduceAdd, Nat.reduceSub, Nat.reduceMul, Nat.reduceLeDiff, Nat.reduceLT, Nat.reduceEqDiff, Int.reduceLT, Int.reduceLE, Int.reduceToNat, Int.reduceAdd, Int.reduceSub, Int.reduceMul, Int.reduceEq, Int.reduceNeg, reduceCtorEq, true_and, and_true, Int.toNat_natCast, List.getElem?_map, Option.map_some, List.length_map, List.length_take, List.length_drop, List.length_append, Nat.sub_zero, Int.toNat_zero, List.length_replicate, Bool.true_or, Bool.or_true, Bool.false_or, Bool.or_false, false_implies, implies_true]))
  | true =>
  rw [hgb] at hgc
  have hB : ¬ refB d a := by
    rintro (⟨h, _⟩ | ⟨_, h⟩ | ⟨h, _⟩)
    · omega
    · rw [hgb] at h; cases h
    · omega
  have hCd : refC d node a ↔ fencedB d [d.keys[node]] = true := by
    unfold refC
    rw [Int.toNat_natCast, hkd]
    exact ⟨fun h => h.2, fun h => ⟨by omega, h⟩⟩
  cases hfb : fencedB d [d.keys[node]] with
  | true =>
    rw [hfb] at hF
    rw [refuse_c hA hB (hCd.2 hfb)]
    (repeat' (first | with_reducible (first | refine agr_d (fun hc => ?_) fun hc => ?_ | refine agr_n (fun hc => ?_) fun hc => ?_ | refine acd_d (fun hc => ?_) fun hc => ?_ | refine acd_n (fun hc => ?_) fun hc => ?_ | refine dgr_d (fun hc => ?_) fun hc => ?_ | refine dgr_n (fun hc => ?_) fun hc => ?_ | refine dl_sound _ _ [] [] [] _ _ (fun _ h => absurd h List.not_mem_nil) ?_ | refine conEnd_p (.inl rfl) ?_ | refine conEnd_p (.inr rfl) ?_ | refine dc1_p hc ?_ | refine ac1_p hc ?_ | refine dc1_p hgc ?_ | refine ac1_p hgc ?_ | refine dc1_sc2 (sz := 1) (lk := 0) hpd ?_ ?_ hpk hF (.bool _) ?_) | simp (disch := omega) only [go_sem, devV, doV, hk, hkg, Nat.reduceAdd, Nat.reduceSub, Nat.reduceMul, Nat.reduceLeDiff, Nat.reduceLT, Nat.reduceEqDiff, Int.reduceLT, Int.reduceLE, Int.reduceToNat, Int.reduceAdd, Int.reduceSub, Int.reduceMul, Int.reduceEq, Int.reduceNeg, reduceCtorEq, true_and, and_true, Int.toNat_natCast, List.getElem?_map, Option.map_some, List.length_map, List.length_take, List.length_drop, List.length_append, Nat.sub_zero, Int.toNat_zero, List.length_replicate, Bool.true_or, Bool.or_true, Bool.false_or, Bool.or_false, false_implies, implies_true]))
  | false =>
  rw [hfb] at hF
  have hC : ¬ refC d node a := by rw [hCd, hfb]; simp
  have hD : ¬ refD d a := by rintro ⟨h, _⟩; omega
  have hsg : True := trivial
  rw [do_ok hA hB hC hD]
  (repeat' (first | with_reducible (first | refine agr_d (fun hc => ?_) fun hc => ?_ | refine agr_n (fun hc => ?_) fun hc => ?_ | refine acd_d (fun hc => ?_) fun hc => ?_ | refine acd_n (fun hc => ?_) fun hc => ?_ | refine dgr_d (fun hc => ?_) fun hc => ?_ | refine dgr_n (fun hc => ?_) fun hc => ?_ | refine dl_sound _ _ [] [] [] _ _ (fun _ h => absurd h List.not_mem_nil) ?_ | refine dc1_p hc ?_ | refine ac1_p hc ?_ | refine dc1_p hgc ?_ | refine ac1_p hgc ?_ | refine dc1_sc2 (sz := 1) (lk := 0) hpd ?_ ?_ hpk hF (.bool _) ?_) | simp (disch := omega) only [go_sem, devV, doV, hk, hkg, Nat.reduceAdd, Nat.reduceSub, Nat.reduceMul, Nat.reduceLeDiff, Nat.reduceLT, Nat.reduceEqDiff, Int.reduceLT, Int.reduceLE, Int.reduceToNat, Int.reduceAdd, Int.reduceSub, Int.reduceMul, Int.reduceEq, Int.reduceNeg, reduceCtorEq, true_and, and_true, Int.toNat_natCast, List.getElem?_map, Option.map_some, List.length_map, List.length_take, List.length_drop, List.length_append, Nat.sub_zero, Int.toNat_zero, List.length_replicate, Bool.true_or, Bool.or_true, Bool.false_or, Bool.or_false, false_implies, implies_true]))
  refine ac1_i (copied_con d hd (by omega) _) ?_
  rintro _ ⟨g, c⟩ ⟨bS, bK, bF, bC, bc, rfl, HF, hold⟩
  obtain ⟨o1, o2, o3, o4, o5, o6, o7, hS, hK, hFn, hC1, hci⟩ := HF
  have o4n := o4 node hcn
  have hcin := hci node hcn
  have hcr := cRows_at (bc := bc) hcn
  dsimp only at o1 o7 hS hK hFn hC1 hci hold hcin
  have o1' : 3 ≤ bS := Nat.le_trans (by simp) o1
  have q0 : g 0 = some (devB d) := (hold 0 (by simp)).trans (by simp (disch := omega) only [go_sem, Nat.reduceAdd, Nat.reduceSub, Nat.reduceMul, Nat.reduceLeDiff, Nat.reduceLT, Nat.reduceEqDiff, Int.reduceLT, Int.reduceLE, Int.reduceToNat, Int.reduceAdd, Int.reduceSub, Int.reduceMul, Int.reduceEq, Int.reduceNeg, reduceCtorEq, true_and, and_true, Int.toNat_natCast, List.getElem?_map, Option.map_some, List.length_map, List.length_take, List.length_drop, List.length_append, Nat.sub_zero, Int.toNat_zero, List.length_replicate, Bool.true_or, Bool.or_true, Bool.false_or, Bool.or_false, false_implies, implies_true] <;> rfl)
  have q1 : g 1 = some ⟨[[.int .i8 5, .int .i64 a.s, .str a.b, .int .i64 a.key]], 4, 0⟩ := (hold 1 (by simp)).trans (by simp (disch := omega) only [go_sem, hk, Nat.reduceAdd, Nat.reduceSub, Nat.reduceMul, Nat.reduceLeDiff, Nat.reduceLT, Nat.reduceEqDiff, Int.reduceLT, Int.reduceLE, Int.reduceToNat, Int.reduceAdd, Int.reduceSub, Int.reduceMul, Int.reduceEq, Int.reduceNeg, reduceCtorEq, true_and, and_true, Int.toNat_natCast, List.getElem?_map, Option.map_some, List.length_map, List.length_take, List.length_drop, List.length_append, Nat.sub_zero, Int.toNat_zero, List.length_replicate, Bool.true_or, Bool.or_true, Bool.false_or, Bool.or_false, false_implies, implies_true] <;> rfl)
  have q2 : g 2 = some ⟨[[.sl [] true, .sl [] true, .sl [] true, .int .i64 0, .sl [] true]], 5, 0⟩ := (hold 2 (by simp)).trans (by simp (disch := omega) only [go_sem, Nat.reduceAdd, Nat.reduceSub, Nat.reduceMul, Nat.reduceLeDiff, Nat.reduceLT, Nat.reduceEqDiff, Int.reduceLT, Int.reduceLE, Int.reduceToNat, Int.reduceAdd, Int.reduceSub, Int.reduceMul, Int.reduceEq, Int.reduceNeg, reduceCtorEq, true_and, and_true, Int.toNat_natCast, List.getElem?_map, Option.map_some, List.length_map, List.length_take, List.length_drop, List.length_append, Nat.sub_zero, Int.toNat_zero, List.length_replicate, Bool.true_or, Bool.or_true, Bool.false_or, Bool.or_false, false_implies, implies_true] <;> rfl)
  clear hold o1
  have hP := place_con d.cache[node] false a.s (by omega)
  have hpl : Plain (.sl (d.cache[node].map prV) false) := (plain_pr _ _).2 trivial
  have hfl := hd.f
  have hW := fence_fc d.fen false a.key (by omega)
  have hpf : Plain (.sl (d.fen.map inV) false) := (plain_in _ _).2 trivial
  have hflen : (fenceR d.fen a.key).length ≤ 2000003 := by have := fenceR_len d.fen a.key; omega
  (repeat' (first | with_reducible (first | refine agr_d (fun hc => ?_) fun hc => ?_ | refine agr_n (fun hc => ?_) fun hc => ?_ | refine acd_d (fun hc => ?_) fun hc => ?_ | refine acd_n (fun hc => ?_) fun hc => ?_ | refine dgr_d (fun hc => ?_) fun hc => ?_ | refine dgr_n (fun hc => ?_) fun hc => ?_ | refine dl_sound _ _ [] [] [] _ _ (fun _ h => absurd h List.not_mem_nil) ?_ | refine ac1_sc1 (sz := 2) (lk := 0) (.int _ _) ?_ ?_ hpl hP (.int _ _) ?_ | refine ac1_fr1 (sz := 1) (lk := 0) (.int _ _) ?_ ?_ hpf hW ?_) | simp (disch := omega) only [go_sem, freshV, hk, hsg, q0, q1, q2, hS, hK, hFn, hC1, hcin, hcr, Nat.reduceAdd, Nat.reduceSub, Nat.reduceMul, Nat.reduceLeDiff, Nat.reduceLT, Nat.reduceEqDiff, Int.reduceLT, Int.reduceLE, Int.reduceToNat, Int.reduceAdd, Int.reduceSub, Int.reduceMul, Int.reduceEq, Int.reduceNeg, reduceCtorEq, true_and, and_true, Int.toNat_natCast, List.getElem?_map, Option.map_some, List.length_map, List.length_take, List.length_drop, List.length_append, Nat.sub_zero, Int.toNat_zero, List.length_replicate, Bool.true_or, Bool.or_true, Bool.false_or, Bool.or_false, false_implies, implies_true]))
  refine conEnd_f (.inl rfl) ?_
  simp (disch := omega) only [go_sem, hS, hK, hFn, hC1, hcin, Nat.reduceAdd, Nat.reduceSub, Nat.reduceMul, Nat.reduceLeDiff, Nat.reduceLT, Nat.reduceEqDiff, Int.reduceLT, Int.reduceLE, Int.reduceToNat, Int.reduceAdd, Int.reduceSub, Int.reduceMul, Int.reduceEq, Int.reduceNeg, reduceCtorEq, true_and, and_true, Int.toNat_natCast, List.getElem?_map, Option.map_some, List.length_map, List.length_take, List.length_drop, List.length_append, Nat.sub_zero, Int.toNat_zero, List.length_replicate, Bool.true_or, Bool.or_true, Bool.false_or, Bool.or_false, false_implies, implies_true]
  have hact : actD d node a = ({ d with fen := fenceR d.fen a.key }, ⟨#[]⟩) := by
    unfold actD
    dsimp only
    rw [if_neg (by omega), if_neg (by omega), if_neg (by omega), if_neg (by omega), if_pos hk]
  rw [hact]
  refine ⟨mny, _, fz_tup3 (fz_dev (d := { d with fen := fenceR d.fen a.key }) rfl (fz_row (sz := 1) (lk := 0) (es := d.s.map txV) ?_ (by simp) (by have := hd.s; omega) ((plain_tx _ _).2 trivial)) (fz_caches (lk := 0) (bc := bc) hd ?_ (fun i h => ?_)) (fz_row (sz := 1) (lk := 0) (es := d.keys.map inV) ?_ (by simp) (by have := hd.k; omega) ((plain_in _ _).2 trivial)) (.plain _ ((plain_in _ _).2 trivial))) (.plain _ (.str _)) (.plain _ (.int _ _)), rfl⟩
  all_goals first | (simp (disch := omega) only [go_sem, hS, hK, hFn, hC1, hcin, Nat.reduceAdd, Nat.reduceSub, Nat.reduceMul, Nat.reduceLeDiff, Nat.reduceLT, Nat.reduceEqDiff, Int.reduceLT, Int.reduceLE, Int.reduceToNat, Int.reduceAdd, Int.reduceSub, Int.reduceMul, Int.reduceEq, Int.reduceNeg, reduceCtorEq, true_and, and_true, Int.toNat_natCast, List.getElem?_map, Option.map_some, List.length_map, List.length_take, List.length_drop, List.length_append, Nat.sub_zero, Int.toNat_zero, List.length_replicate, Bool.true_or, Bool.or_true, Bool.false_or, Bool.or_false, false_implies, implies_true]; done) | (have := o4 i h; have := hci i h; simp (disch := omega) only [go_sem, this, Nat.reduceAdd, Nat.reduceSub, Nat.reduceMul, Nat.reduceLeDiff, Nat.reduceLT, Nat.reduceEqDiff, Int.reduceLT, Int.reduceLE, Int.reduceToNat, Int.reduceAdd, Int.reduceSub, Int.reduceMul, Int.reduceEq, Int.reduceNeg, reduceCtorEq, true_and, and_true, Int.toNat_natCast, List.getElem?_map, Option.map_some, List.length_map, List.length_take, List.length_drop, List.length_append, Nat.sub_zero, Int.toNat_zero, List.length_replicate, Bool.true_or, Bool.or_true, Bool.false_or, Bool.or_false, false_implies, implies_true]; done) | (have := o4 i h; have := hci i h; have : bc i ≠ bc node := (by rcases Nat.lt_or_gt_of_ne hne with h1 | h1 <;> first | exact Nat.ne_of_lt (o5 _ _ h1 hcn) | exact Nat.ne_of_gt (o5 _ _ h1 h)); simp (disch := omega) only [go_sem, hci i h, Nat.reduceAdd, Nat.reduceSub, Nat.reduceMul, Nat.reduceLeDiff, Nat.reduceLT, Nat.reduceEqDiff, Int.reduceLT, Int.reduceLE, Int.reduceToNat, Int.reduceAdd, Int.reduceSub, Int.reduceMul, Int.reduceEq, Int.reduceNeg, reduceCtorEq, true_and, and_true, Int.toNat_natCast, List.getElem?_map, Option.map_some, List.length_map, List.length_take, List.length_drop, List.length_append, Nat.sub_zero, Int.toNat_zero, List.length_replicate, Bool.true_or, Bool.or_true, Bool.false_or, Bool.or_false, false_implies, implies_true]; done) | skip
end Go.Proofs.Ytllijcnbjbfabaa

namespace Go.Proofs.Ytllijcnbjbfabaa
open Go.RowKit
set_option linter.unusedSimpArgs false
set_option linter.unusedVariables false

set_option maxRecDepth 100000 in
set_option maxHeartbeats 32000000 in
theorem Do_6 (d : Dev) (hd : DevOk d) (hm : MayD d) (node : Nat) (hn : node < d.keys.length) (a : Ac) (ha : AcOk a) (hk : a.k = 6) : Con Try.prog 12 [devV d, .int .i64 node, acV a] (· = doV (doR d node a)) := by
  have hA := notA hm hn (by omega) (by omega : a.k ≤ 6)
  have hs1 := ha.s
  have hkr := ha.key
  have hcn : node < d.cache.length := by rw [hm.c]; exact hn
  have hkg : d.keys[node]? = some d.keys[node] := List.getElem?_eq_getElem hn
  have hkd : d.keys.getD node 0 = d.keys[node] := by rw [List.getD_eq_getElem?_getD, hkg]; rfl
  have hcd : d.cache.getD node [] = d.cache[node] := by rw [List.getD_eq_getElem?_getD, List.getElem?_eq_getElem hcn]; rfl
  have hc : PCon Try.prog 36 [devV d] (.int .i64 0) := ⟨by have := Check_con d hd; rw [show chk d = 0 by unfold chk; rw [(checkB_iff d).2 hm]; rfl] at this; exact this, by (simp only [List.nil_append, List.cons_append, List.append_nil, List.forall_mem_cons, List.not_mem_nil, false_implies, implies_true, and_true, true_and, plain_agg, plain_tup, plain_int, plain_bool, plain_str, plain_nilp, plain_nilfn, plain_undef, plain_dev, plain_pr, plain_tx, plain_in, plain_cc])⟩
  have hF : Con Try.prog 38 [devV d, .sl [[.int .i64 d.keys[node]]] false] (· = .bool (fencedB d [d.keys[node]])) := Fenced_con _ _ _ _ d false false [d.keys[node]] (by have := hd.f; omega) (by simp)
  have hpd : Plain (devV d) := (plain_dev d).2 trivial
  have hpk : Plain (.sl [[.int .i64 d.keys[node]]] false) := (plain_in [d.keys[node]] false).2 trivial
  have hcl := hd.ci node hcn
  have hgc := given_c d a.key (by omega)
  refine con_of_awp Try.func12 rfl mixed (by decide) rfl (by kernel_rfl) rfl ?_
  by_cases gb : 68719476736 ≤ d.next
  · rw [refuse_b hA (.inr (.inr ⟨hk, gb⟩))]
    (repeat' (first | with_reducible (first | refine agr_d (fun hc => ?_) fun hc => ?_ | refine agr_n (fun hc => ?_) fun hc => ?_ | refine acd_d (fun hc => ?_) fun hc => ?_ | refine acd_n (fun hc => ?_) fun hc => ?_ | refine dgr_d (fun hc => ?_) fun hc => ?_ | refine dgr_n (fun hc => ?_) fun hc => ?_ | refine dl_sound _ _ [] [] [] _ _ (fun _ h => absurd h List.not_mem_nil) ?_ | refine conEnd_p (.inl rfl) ?_ | refine conEnd_p (.inr rfl) ?_ | refine dc1_p hc ?_ | refine ac1_p hc ?_ | refine dc1_p hgc ?_ | refine ac1_p hgc ?_ | refine dc1_sc2 (sz := 1) (lk := 0) hpd ?_ ?_ hpk hF (.bool _) ?_) | simp (disch := omega) only [go_sem, devV, doV, hk, hkg, Nat.reduceAdd, Nat.reduceSub, Nat.reduceMul, Nat.reduceLeDiff, Nat.reduceLT, Nat.reduceEqDiff, Int.reduceLT, Int.reduceLE, Int.reduceToNat, Int.reduceAdd, Int.reduceSub, Int.reduceMul, Int.reduceEq, Int.reduceNeg, reduceCtorEq, true_and, and_true, Int.toNat_natCast, List.getElem?_map, Option.map_some, List.length_map, List.length_take, List.length_drop, List.length_append, Nat.sub_zero, Int.toNat_zero, List.length_replicate, Bool.true_or, Bool.or_true, Bool.false_or, Bool.or_false, false_implies, implies_true]))
  have hB : ¬ refB d a := by rintro (⟨h, _⟩ | ⟨h, _⟩ | ⟨_, h⟩) <;> omega
  have hC : ¬ refC d node a := fun h => h.1 hk
  have hD : ¬ refD d a := by rintro ⟨h, _⟩; omega
  have hsg : True := trivial
  rw [do_ok hA hB hC hD]
  (repeat' (first | with_reducible (first | refine agr_d (fun hc => ?_) fun hc => ?_ | refine agr_n (fun hc => ?_) fun hc => ?_ | refine acd_d (fun hc => ?_) fun hc => ?_ | refine acd_n (fun hc => ?_) fun hc => ?_ | refine dgr_d (fun hc => ?_) fun hc => ?_ | refine dgr_n (fun hc => ?_) fun hc => ?_ | refine dl_sound _ _ [] [] [] _ _ (fun _ h => absurd h List.not_mem_nil) ?_ | refine dc1_p hc ?_ | refine ac1_p hc ?_ | refine dc1_p hgc ?_ | refine ac1_p hgc ?_ | refine dc1_sc2 (sz := 1) (lk := 0) hpd ?_ ?_ hpk hF (.bool _) ?_) | simp (disch := omega) only [go_sem, devV, doV, hk, hkg, Nat.reduceAdd, Nat.reduceSub, Nat.reduceMul, Nat.reduceLeDiff, Nat.reduceLT, Nat.reduceEqDiff, Int.reduceLT, Int.reduceLE, Int.reduceToNat, Int.reduceAdd, Int.reduceSub, Int.reduceMul, Int.reduceEq, Int.reduceNeg, reduceCtorEq, true_and, and_true, Int.toNat_natCast, List.getElem?_map, Option.map_some, List.length_map, List.length_take, List.length_drop, List.length_append, Nat.sub_zero, Int.toNat_zero, List.length_replicate, Bool.true_or, Bool.or_true, Bool.false_or, Bool.or_false, false_implies, implies_true]))
  refine ac1_i (copied_con d hd (by omega) _) ?_
  rintro _ ⟨g, c⟩ ⟨bS, bK, bF, bC, bc, rfl, HF, hold⟩
  obtain ⟨o1, o2, o3, o4, o5, o6, o7, hS, hK, hFn, hC1, hci⟩ := HF
  have o4n := o4 node hcn
  have hcin := hci node hcn
  have hcr := cRows_at (bc := bc) hcn
  dsimp only at o1 o7 hS hK hFn hC1 hci hold hcin
  have o1' : 3 ≤ bS := Nat.le_trans (by simp) o1
  have q0 : g 0 = some (devB d) := (hold 0 (by simp)).trans (by simp (disch := omega) only [go_sem, Nat.reduceAdd, Nat.reduceSub, Nat.reduceMul, Nat.reduceLeDiff, Nat.reduceLT, Nat.reduceEqDiff, Int.reduceLT, Int.reduceLE, Int.reduceToNat, Int.reduceAdd, Int.reduceSub, Int.reduceMul, Int.reduceEq, Int.reduceNeg, reduceCtorEq, true_and, and_true, Int.toNat_natCast, List.getElem?_map, Option.map_some, List.length_map, List.length_take, List.length_drop, List.length_append, Nat.sub_zero, Int.toNat_zero, List.length_replicate, Bool.true_or, Bool.or_true, Bool.false_or, Bool.or_false, false_implies, implies_true] <;> rfl)
  have q1 : g 1 = some ⟨[[.int .i8 6, .int .i64 a.s, .str a.b, .int .i64 a.key]], 4, 0⟩ := (hold 1 (by simp)).trans (by simp (disch := omega) only [go_sem, hk, Nat.reduceAdd, Nat.reduceSub, Nat.reduceMul, Nat.reduceLeDiff, Nat.reduceLT, Nat.reduceEqDiff, Int.reduceLT, Int.reduceLE, Int.reduceToNat, Int.reduceAdd, Int.reduceSub, Int.reduceMul, Int.reduceEq, Int.reduceNeg, reduceCtorEq, true_and, and_true, Int.toNat_natCast, List.getElem?_map, Option.map_some, List.length_map, List.length_take, List.length_drop, List.length_append, Nat.sub_zero, Int.toNat_zero, List.length_replicate, Bool.true_or, Bool.or_true, Bool.false_or, Bool.or_false, false_implies, implies_true] <;> rfl)
  have q2 : g 2 = some ⟨[[.sl [] true, .sl [] true, .sl [] true, .int .i64 0, .sl [] true]], 5, 0⟩ := (hold 2 (by simp)).trans (by simp (disch := omega) only [go_sem, Nat.reduceAdd, Nat.reduceSub, Nat.reduceMul, Nat.reduceLeDiff, Nat.reduceLT, Nat.reduceEqDiff, Int.reduceLT, Int.reduceLE, Int.reduceToNat, Int.reduceAdd, Int.reduceSub, Int.reduceMul, Int.reduceEq, Int.reduceNeg, reduceCtorEq, true_and, and_true, Int.toNat_natCast, List.getElem?_map, Option.map_some, List.length_map, List.length_take, List.length_drop, List.length_append, Nat.sub_zero, Int.toNat_zero, List.length_replicate, Bool.true_or, Bool.or_true, Bool.false_or, Bool.or_false, false_implies, implies_true] <;> rfl)
  clear hold o1
  have hP := place_con d.cache[node] false a.s (by omega)
  have hpl : Plain (.sl (d.cache[node].map prV) false) := (plain_pr _ _).2 trivial
  have hn0 := hm.n0
  have hk1 := hm.k1
  have hW := put6_fc (16 * d.next + node) (by omega) (by omega)
  have hkset : (d.keys.map inV).set node [V.int .i64 (16 * d.next + node)] = (d.keys.set node (16 * d.next + node)).map inV := by rw [List.map_set]; rfl
  have hkg2 : (d.keys.set node (16 * d.next + (node : Int)))[node]? = some (16 * d.next + (node : Int)) := by rw [List.getElem?_set_self hn]
  have hpq : Plain (.sl [[.int .i64 (16 * d.next + (node : Int))]] false) := (plain_in [16 * d.next + (node : Int)] false).2 trivial
  (repeat' (first | with_reducible (first | refine agr_d (fun hc => ?_) fun hc => ?_ | refine agr_n (fun hc => ?_) fun hc => ?_ | refine acd_d (fun hc => ?_) fun hc => ?_ | refine acd_n (fun hc => ?_) fun hc => ?_ | refine dgr_d (fun hc => ?_) fun hc => ?_ | refine dgr_n (fun hc => ?_) fun hc => ?_ | refine dl_sound _ _ [] [] [] _ _ (fun _ h => absurd h List.not_mem_nil) ?_ | refine ac1_sc1 (sz := 2) (lk := 0) (.int _ _) ?_ ?_ hpl hP (.int _ _) ?_ | refine ac1_fr3 (sz := 1) (lk := 0) (.sl [] true (by simp)) (.int _ _) ?_ ?_ hpq hW ?_) | simp (disch := omega) only [go_sem, freshV, hk, hsg, q0, q1, q2, hS, hK, hFn, hC1, hcin, hcr, hkg, hkset, hkg2, cRows_len, six, bytesOf, Nat.reduceAdd, Nat.reduceSub, Nat.reduceMul, Nat.reduceLeDiff, Nat.reduceLT, Nat.reduceEqDiff, Int.reduceLT, Int.reduceLE, Int.reduceToNat, Int.reduceAdd, Int.reduceSub, Int.reduceMul, Int.reduceEq, Int.reduceNeg, reduceCtorEq, true_and, and_true, Int.toNat_natCast, List.getElem?_map, Option.map_some, List.length_map, List.length_take, List.length_drop, List.length_append, Nat.sub_zero, Int.toNat_zero, List.length_replicate, Bool.true_or, Bool.or_true, Bool.false_or, Bool.or_false, false_implies, implies_true]))
  refine conEnd_f (.inl rfl) ?_
  simp (disch := omega) only [go_sem, hS, hK, hFn, hC1, hcin, hkset, Nat.reduceAdd, Nat.reduceSub, Nat.reduceMul, Nat.reduceLeDiff, Nat.reduceLT, Nat.reduceEqDiff, Int.reduceLT, Int.reduceLE, Int.reduceToNat, Int.reduceAdd, Int.reduceSub, Int.reduceMul, Int.reduceEq, Int.reduceNeg, reduceCtorEq, true_and, and_true, Int.toNat_natCast, List.getElem?_map, Option.map_some, List.length_map, List.length_take, List.length_drop, List.length_append, Nat.sub_zero, Int.toNat_zero, List.length_replicate, Bool.true_or, Bool.or_true, Bool.false_or, Bool.or_false, false_implies, implies_true]
  have hact : actD d node a = ({ d with keys := d.keys.set node (16 * d.next + node), next := d.next + 1, cache := d.cache.set node [] }, key6 (16 * d.next + node)) := by
    unfold actD
    dsimp only
    rw [if_neg (by omega), if_neg (by omega), if_neg (by omega), if_neg (by omega), if_neg (by omega)]
  rw [hact]
  refine ⟨mny, _, fz_tup3 (fz_dev (d := { d with keys := d.keys.set node (16 * d.next + node), next := d.next + 1, cache := d.cache.set node [] }) rfl (fz_row (sz := 1) (lk := 0) (es := d.s.map txV) ?_ (by simp) (by have := hd.s; omega) ((plain_tx _ _).2 trivial)) (fz_caches1 (lk := 0) (bc := bc) hd hcn ?_ (fun i h hne => ?_) (.weak [] true (.sl _ _ (by simp)))) (fz_row (sz := 1) (lk := 0) (es := (d.keys.set node (16 * d.next + node)).map inV) ?_ (by simp) (by have := hd.k; omega) ((plain_in _ _).2 trivial)) (fz_row (sz := 1) (lk := 0) (es := d.fen.map inV) ?_ (by simp) (by have := hd.f; omega) ((plain_in _ _).2 trivial))) (.plain _ (.str _)) (.plain _ (.int _ _)), rfl⟩
  all_goals first | (simp (disch := omega) only [go_sem, hS, hK, hFn, hC1, hcin, hkset, Nat.reduceAdd, Nat.reduceSub, Nat.reduceMul, Nat.reduceLeDiff, Nat.reduceLT, Nat.reduceEqDiff, Int.reduceLT, Int.reduceLE, Int.reduceToNat, Int.reduceAdd, Int.reduceSub, Int.reduceMul, Int.reduceEq, Int.reduceNeg, reduceCtorEq, true_and, and_true, Int.toNat_natCast, List.getElem?_map, Option.map_some, List.length_map, List.length_take, List.length_drop, List.length_append, Nat.sub_zero, Int.toNat_zero, List.length_replicate, Bool.true_or, Bool.or_true, Bool.false_or, Bool.or_false, false_implies, implies_true]; done) | (have := o4 i h; have := hci i h; simp (disch := omega) only [go_sem, this, Nat.reduceAdd, Nat.reduceSub, Nat.reduceMul, Nat.reduceLeDiff, Nat.reduceLT, Nat.reduceEqDiff, Int.reduceLT, Int.reduceLE, Int.reduceToNat, Int.reduceAdd, Int.reduceSub, Int.reduceMul, Int.reduceEq, Int.reduceNeg, reduceCtorEq, true_and, and_true, Int.toNat_natCast, List.getElem?_map, Option.map_some, List.length_map, List.length_take, List.length_drop, List.length_append, Nat.sub_zero, Int.toNat_zero, List.length_replicate, Bool.true_or, Bool.or_true, Bool.false_or, Bool.or_false, false_implies, implies_true]; done) | (have := o4 i h; have := hci i h; have : bc i ≠ bc node := (by rcases Nat.lt_or_gt_of_ne hne with h1 | h1 <;> first | exact Nat.ne_of_lt (o5 _ _ h1 hcn) | exact Nat.ne_of_gt (o5 _ _ h1 h)); simp (disch := omega) only [go_sem, hci i h, Nat.reduceAdd, Nat.reduceSub, Nat.reduceMul, Nat.reduceLeDiff, Nat.reduceLT, Nat.reduceEqDiff, Int.reduceLT, Int.reduceLE, Int.reduceToNat, Int.reduceAdd, Int.reduceSub, Int.reduceMul, Int.reduceEq, Int.reduceNeg, reduceCtorEq, true_and, and_true, Int.toNat_natCast, List.getElem?_map, Option.map_some, List.length_map, List.length_take, List.length_drop, List.length_append, Nat.sub_zero, Int.toNat_zero, List.length_replicate, Bool.true_or, Bool.or_true, Bool.false_or, Bool.or_false, false_implies, implies_true]; done) | skip
end Go.Proofs.Ytllijcnbjbfabaa

namespace Go.Proofs.Ytllijcnbjbfabaa
open Go.RowKit
set_option linter.unusedSimpArgs false
set_option linter.unusedVariables false

theorem Do_con (d : Dev) (hd : DevOk d) (node : Int) (a : Ac) (ha : AcOk a) : PCon Try.prog 12 [devV d, .int .i64 node, acV a] (doV (doR d node a)) := by
  refine ⟨?_, by (simp only [List.nil_append, List.cons_append, List.append_nil, List.forall_mem_cons, List.not_mem_nil, false_implies, implies_true, and_true, true_and, plain_agg, plain_tup, plain_int, plain_bool, plain_str, plain_nilp, plain_nilfn, plain_undef, plain_dev, plain_pr, plain_tx, plain_in, plain_cc])⟩
  by_cases hA : refA d node a
  · exact Do_a d hd node a ha hA
  have hm : MayD d := by
    refine (checkB_iff d).1 ?_
    cases hb : checkB d with
    | true => rfl
    | false => exact absurd (.inl hb) hA
  have h1 : ¬ node < 0 := fun h => hA (.inr (.inl h))
  have h2 : ¬ (d.keys.length : Int) ≤ node := fun h => hA (.inr (.inr (.inl h)))
  have h3 : ¬ a.k < 1 := fun h => hA (.inr (.inr (.inr (.inl h))))
  have h4 : ¬ 6 < a.k := fun h => hA (.inr (.inr (.inr (.inr h))))
  obtain ⟨n, rfl⟩ : ∃ n : Nat, node = n := ⟨node.toNat, by omega⟩
  have hn : n < d.keys.length := by omega
  have h5 : a.k = 1 ∨ a.k = 2 ∨ a.k = 3 ∨ a.k = 4 ∨ a.k = 5 ∨ a.k = 6 := by omega
  rcases h5 with h | h | h | h | h | h
  · exact Do_1 d hd hm n hn a ha h
  · exact Do_2 d hd hm n hn a ha h
  · exact Do_3 d hd hm n hn a ha h
  · exact Do_4 d hd hm n hn a ha h
  · exact Do_5 d hd hm n hn a ha h
  · exact Do_6 d hd hm n hn a ha h
end Go.Proofs.Ytllijcnbjbfabaa

namespace Go.Proofs.Ytllijcnbjbfabaa
open Go.RowKit
set_option linter.unusedSimpArgs false
set_option linter.unusedVariables false

theorem bytes_toList (a : ByteArray) : a.toList = a.data.toList := by
  rw [Lib.toList_data]
theorem tl_eq (a b : ByteArray) : (a.toList == b.toList) = decide (a = b) := by
  by_cases h : a = b
  · subst h; simp
  · have h2 : ¬ a.toList = b.toList := fun e => h (by
      rw [bytes_toList, bytes_toList] at e
      exact ByteArray.ext (Array.toList_inj.1 e))
    rw [decide_eq_false h]
    simpa using h2
set_option maxRecDepth 100000 in
set_option maxHeartbeats 16000000 in
theorem SameS_con (l m : List ByteArray) (fl fm : Bool) (hl : l.length ≤ 1000000000) (hm : m.length ≤ 1000000000) : PCon Try.prog 22 [.sl (l.map txV) fl, .sl (m.map txV) fm] (.bool (decide (l = m))) := by
  refine ⟨?_, by (simp only [List.nil_append, List.cons_append, List.append_nil, List.forall_mem_cons, List.not_mem_nil, false_implies, implies_true, and_true, true_and, plain_agg, plain_tup, plain_int, plain_bool, plain_str, plain_nilp, plain_nilfn, plain_undef, plain_dev, plain_pr, plain_tx, plain_in, plain_cc])⟩
  refine con_of_awp Try.func22 rfl mixed (by decide) rfl (by kernel_rfl) rfl ?_
  by_cases hlen : l.length = m.length
  · (repeat' (first | with_reducible (first | refine agr_d (fun hc => ?_) fun hc => ?_ | refine agr_n (fun hc => ?_) fun hc => ?_ | refine acd_d (fun hc => ?_) fun hc => ?_ | refine acd_n (fun hc => ?_) fun hc => ?_ | refine dgr_d (fun hc => ?_) fun hc => ?_ | refine dgr_n (fun hc => ?_) fun hc => ?_ | refine dl_sound _ _ [] [] [] _ _ (fun _ h => absurd h List.not_mem_nil) ?_) | simp (disch := omega) only [go_sem, tl_eq, Nat.reduceAdd, Nat.reduceSub, Nat.reduceMul, Nat.reduceLeDiff, Nat.reduceLT, Nat.reduceEqDiff, Int.reduceLT, Int.reduceLE, Int.reduceToNat, Int.reduceAdd, Int.reduceSub, Int.reduceMul, Int.reduceEq, Int.reduceNeg, reduceCtorEq, true_and, and_true, Int.toNat_natCast, List.getElem?_map, Option.map_some, List.length_map, List.length_take, List.length_drop, List.length_append, Nat.sub_zero, Int.toNat_zero, List.length_replicate, Bool.true_or, Bool.or_true, Bool.false_or, Bool.or_false, false_implies, implies_true]))
    refine awp_for l.length (fun j fr st => ev fr (.tmp 0) = .sl (l.map txV) fl ∧ ev fr (.tmp 1) = .sl (m.map txV) fm ∧ ev fr (.tmp 5) = .int .i64 j ∧ st = ⟨fun _ => none, st.c⟩ ∧ ∀ t (h : t < l.length) (h' : t < m.length), t < j → l[t] = m[t]) ?_ ?_
    · refine ⟨?_, ?_, ?_, rfl, fun t _ _ h => absurd h (by omega)⟩ <;> simp (disch := omega) only [go_sem, Nat.reduceAdd, Nat.reduceSub, Nat.reduceMul, Nat.reduceLeDiff, Nat.reduceLT, Nat.reduceEqDiff, Int.reduceLT, Int.reduceLE, Int.reduceToNat, Int.reduceAdd, Int.reduceSub, Int.reduceMul, Int.reduceEq, Int.reduceNeg, reduceCtorEq, true_and, and_true, Int.toNat_natCast, List.getElem?_map, Option.map_some, List.length_map, List.length_take, List.length_drop, List.length_append, Nat.sub_zero, Int.toNat_zero, List.length_replicate, Bool.true_or, Bool.or_true, Bool.false_or, Bool.or_false, false_implies, implies_true] <;> rfl
    rintro j fr ⟨g, c⟩ hj ⟨h0, h1, h5, hs, hn⟩
    obtain rfl : g = fun _ => none := by injection hs
    clear hs
    by_cases hlt : j < l.length
    · have hg : l[j]? = some l[j] := List.getElem?_eq_getElem hlt
      have hlt' : j < m.length := by omega
      have hg' : m[j]? = some m[j] := List.getElem?_eq_getElem hlt'
      (repeat' (first | with_reducible (first | refine agr_d (fun hc => ?_) fun hc => ?_ | refine agr_n (fun hc => ?_) fun hc => ?_ | refine acd_d (fun hc => ?_) fun hc => ?_ | refine acd_n (fun hc => ?_) fun hc => ?_ | refine dgr_d (fun hc => ?_) fun hc => ?_ | refine dgr_n (fun hc => ?_) fun hc => ?_ | refine dl_sound _ _ [] [] [] _ _ (fun _ h => absurd h List.not_mem_nil) ?_ | refine conEnd_p (.inl rfl) ?_ | refine conEnd_p (.inr rfl) ?_) | simp (disch := omega) only [go_sem, h0, h1, h5, hg, hg', tl_eq, Nat.reduceAdd, Nat.reduceSub, Nat.reduceMul, Nat.reduceLeDiff, Nat.reduceLT, Nat.reduceEqDiff, Int.reduceLT, Int.reduceLE, Int.reduceToNat, Int.reduceAdd, Int.reduceSub, Int.reduceMul, Int.reduceEq, Int.reduceNeg, reduceCtorEq, true_and, and_true, Int.toNat_natCast, List.getElem?_map, Option.map_some, List.length_map, List.length_take, List.length_drop, List.length_append, Nat.sub_zero, Int.toNat_zero, List.length_replicate, Bool.true_or, Bool.or_true, Bool.false_or, Bool.or_false, false_implies, implies_true]))
      · rw [decide_eq_false (fun e => hc (by subst e; rfl))]
      · refine ⟨j + 1, by omega, by omega, rfl, fun t ht ht' htj => ?_⟩
        rcases Nat.lt_or_ge t j with h4 | h4
        · exact hn t ht ht' h4
        · obtain rfl : t = j := by omega
          exact hc
    · (repeat' (first | with_reducible (first | refine agr_d (fun hc => ?_) fun hc => ?_ | refine agr_n (fun hc => ?_) fun hc => ?_ | refine acd_d (fun hc => ?_) fun hc => ?_ | refine acd_n (fun hc => ?_) fun hc => ?_ | refine dgr_d (fun hc => ?_) fun hc => ?_ | refine dgr_n (fun hc => ?_) fun hc => ?_ | refine dl_sound _ _ [] [] [] _ _ (fun _ h => absurd h List.not_mem_nil) ?_ | refine conEnd_p (.inl rfl) ?_ | refine conEnd_p (.inr rfl) ?_) | simp (disch := omega) only [go_sem, h0, h1, h5, Nat.reduceAdd, Nat.reduceSub, Nat.reduceMul, Nat.reduceLeDiff, Nat.reduceLT, Nat.reduceEqDiff, Int.reduceLT, Int.reduceLE, Int.reduceToNat, Int.reduceAdd, Int.reduceSub, Int.reduceMul, Int.reduceEq, Int.reduceNeg, reduceCtorEq, true_and, and_true, Int.toNat_natCast, List.getElem?_map, Option.map_some, List.length_map, List.length_take, List.length_drop, List.length_append, Nat.sub_zero, Int.toNat_zero, List.length_replicate, Bool.true_or, Bool.or_true, Bool.false_or, Bool.or_false, false_implies, implies_true]))
      rw [decide_eq_true (List.ext_getElem hlen fun t ht ht' => hn t ht ht' (by omega))]
  · (repeat' (first | with_reducible (first | refine agr_d (fun hc => ?_) fun hc => ?_ | refine agr_n (fun hc => ?_) fun hc => ?_ | refine acd_d (fun hc => ?_) fun hc => ?_ | refine acd_n (fun hc => ?_) fun hc => ?_ | refine dgr_d (fun hc => ?_) fun hc => ?_ | refine dgr_n (fun hc => ?_) fun hc => ?_ | refine dl_sound _ _ [] [] [] _ _ (fun _ h => absurd h List.not_mem_nil) ?_ | refine conEnd_p (.inl rfl) ?_ | refine conEnd_p (.inr rfl) ?_) | simp (disch := omega) only [go_sem, tl_eq, Nat.reduceAdd, Nat.reduceSub, Nat.reduceMul, Nat.reduceLeDiff, Nat.reduceLT, Nat.reduceEqDiff, Int.reduceLT, Int.reduceLE, Int.reduceToNat, Int.reduceAdd, Int.reduceSub, Int.reduceMul, Int.reduceEq, Int.reduceNeg, reduceCtorEq, true_and, and_true, Int.toNat_natCast, List.getElem?_map, Option.map_some, List.length_map, List.length_take, List.length_drop, List.length_append, Nat.sub_zero, Int.toNat_zero, List.length_replicate, Bool.true_or, Bool.or_true, Bool.false_or, Bool.or_false, false_implies, implies_true]))
    rw [decide_eq_false (fun e => hlen (by rw [e]))]
end Go.Proofs.Ytllijcnbjbfabaa

namespace Go.Proofs.Ytllijcnbjbfabaa
open Go.RowKit
set_option linter.unusedSimpArgs false
set_option linter.unusedVariables false

set_option maxRecDepth 100000 in
set_option maxHeartbeats 16000000 in
theorem IntsS_con (l : List Int) (fl fm : Bool) (hl : l.length ≤ 1000000000) : PCon Try.prog 69 [.sl (l.map inV) fl, .sl (l.map inV) fm] (.bool true) := by
  refine ⟨?_, by (simp only [List.nil_append, List.cons_append, List.append_nil, List.forall_mem_cons, List.not_mem_nil, false_implies, implies_true, and_true, true_and, plain_agg, plain_tp, plain_fn, plain_tup, plain_int, plain_bool, plain_str, plain_nilp, plain_nilfn, plain_undef, plain_dev, plain_pr, plain_tx, plain_in, plain_cc])⟩
  refine con_of_awp Try.func69 rfl mixed (by decide) rfl (by kernel_rfl) rfl ?_
  (repeat' (first | with_reducible (first | refine agr_d (fun hc => ?_) fun hc => ?_ | refine agr_n (fun hc => ?_) fun hc => ?_ | refine acd_d (fun hc => ?_) fun hc => ?_ | refine acd_n (fun hc => ?_) fun hc => ?_ | refine dgr_d (fun hc => ?_) fun hc => ?_ | refine dgr_n (fun hc => ?_) fun hc => ?_ | refine dl_sound _ _ [] [] [] _ _ (fun _ h => absurd h List.not_mem_nil) ?_) | simp (disch := omega) only [go_sem, Nat.reduceAdd, Nat.reduceSub, Nat.reduceMul, Nat.reduceLeDiff, Nat.reduceLT, Nat.reduceEqDiff, Int.reduceLT, Int.reduceLE, Int.reduceToNat, Int.reduceAdd, Int.reduceSub, Int.reduceMul, Int.reduceEq, Int.reduceNeg, reduceCtorEq, true_and, and_true, Int.toNat_natCast, List.getElem?_map, Option.map_some, List.length_map, List.length_take, List.length_drop, List.length_append, Nat.sub_zero, Int.toNat_zero, List.length_replicate, Bool.true_or, Bool.or_true, Bool.false_or, Bool.or_false, false_implies, implies_true]))
  refine awp_for l.length (fun j fr st => ev fr (.tmp 0) = .sl (l.map inV) fl ∧ ev fr (.tmp 1) = .sl (l.map inV) fm ∧ ev fr (.tmp 5) = .int .i64 j) ?_ ?_
  · refine ⟨?_, ?_, ?_⟩ <;> simp (disch := omega) only [go_sem, Nat.reduceAdd, Nat.reduceSub, Nat.reduceMul, Nat.reduceLeDiff, Nat.reduceLT, Nat.reduceEqDiff, Int.reduceLT, Int.reduceLE, Int.reduceToNat, Int.reduceAdd, Int.reduceSub, Int.reduceMul, Int.reduceEq, Int.reduceNeg, reduceCtorEq, true_and, and_true, Int.toNat_natCast, List.getElem?_map, Option.map_some, List.length_map, List.length_take, List.length_drop, List.length_append, Nat.sub_zero, Int.toNat_zero, List.length_replicate, Bool.true_or, Bool.or_true, Bool.false_or, Bool.or_false, false_implies, implies_true] <;> rfl
  rintro j fr st hj ⟨h0, h1, h5⟩
  by_cases hlt : j < l.length
  · have hg : l[j]? = some l[j] := List.getElem?_eq_getElem hlt
    (repeat' (first | with_reducible (first | refine agr_d (fun hc => ?_) fun hc => ?_ | refine agr_n (fun hc => ?_) fun hc => ?_ | refine acd_d (fun hc => ?_) fun hc => ?_ | refine acd_n (fun hc => ?_) fun hc => ?_ | refine dgr_d (fun hc => ?_) fun hc => ?_ | refine dgr_n (fun hc => ?_) fun hc => ?_ | refine dl_sound _ _ [] [] [] _ _ (fun _ h => absurd h List.not_mem_nil) ?_ | refine conEnd_p (.inl rfl) ?_ | refine conEnd_p (.inr rfl) ?_) | simp (disch := omega) only [go_sem, h0, h1, h5, hg, Nat.reduceAdd, Nat.reduceSub, Nat.reduceMul, Nat.reduceLeDiff, Nat.reduceLT, Nat.reduceEqDiff, Int.reduceLT, Int.reduceLE, Int.reduceToNat, Int.reduceAdd, Int.reduceSub, Int.reduceMul, Int.reduceEq, Int.reduceNeg, reduceCtorEq, true_and, and_true, Int.toNat_natCast, List.getElem?_map, Option.map_some, List.length_map, List.length_take, List.length_drop, List.length_append, Nat.sub_zero, Int.toNat_zero, List.length_replicate, Bool.true_or, Bool.or_true, Bool.false_or, Bool.or_false, false_implies, implies_true]))
    all_goals first | exact ⟨j + 1, by omega, by omega, rfl⟩ | skip
  · (repeat' (first | with_reducible (first | refine agr_d (fun hc => ?_) fun hc => ?_ | refine agr_n (fun hc => ?_) fun hc => ?_ | refine acd_d (fun hc => ?_) fun hc => ?_ | refine acd_n (fun hc => ?_) fun hc => ?_ | refine dgr_d (fun hc => ?_) fun hc => ?_ | refine dgr_n (fun hc => ?_) fun hc => ?_ | refine dl_sound _ _ [] [] [] _ _ (fun _ h => absurd h List.not_mem_nil) ?_ | refine conEnd_p (.inl rfl) ?_ | refine conEnd_p (.inr rfl) ?_) | simp (disch := omega) only [go_sem, h0, h1, h5, Nat.reduceAdd, Nat.reduceSub, Nat.reduceMul, Nat.reduceLeDiff, Nat.reduceLT, Nat.reduceEqDiff, Int.reduceLT, Int.reduceLE, Int.reduceToNat, Int.reduceAdd, Int.reduceSub, Int.reduceMul, Int.reduceEq, Int.reduceNeg, reduceCtorEq, true_and, and_true, Int.toNat_natCast, List.getElem?_map, Option.map_some, List.length_map, List.length_take, List.length_drop, List.length_append, Nat.sub_zero, Int.toNat_zero, List.length_replicate, Bool.true_or, Bool.or_true, Bool.false_or, Bool.or_false, false_implies, implies_true]))
set_option maxRecDepth 100000 in
set_option maxHeartbeats 16000000 in
theorem SameD_con (d : Dev) (hd : DevOk d) : PCon Try.prog 27 [devV d, devV d] (.bool true) := by
  refine ⟨?_, by (simp only [List.nil_append, List.cons_append, List.append_nil, List.forall_mem_cons, List.not_mem_nil, false_implies, implies_true, and_true, true_and, plain_agg, plain_tp, plain_fn, plain_tup, plain_int, plain_bool, plain_str, plain_nilp, plain_nilfn, plain_undef, plain_dev, plain_pr, plain_tx, plain_in, plain_cc])⟩
  refine con_of_awp Try.func27 rfl mixed (by decide) rfl (by kernel_rfl) rfl ?_
  have hS := SameS_con d.s d.s false false (by have := hd.s; omega) (by have := hd.s; omega)
  rw [decide_eq_true rfl] at hS
  have hK := IntsS_con d.keys false false (by have := hd.k; omega)
  have hF := IntsS_con d.fen false false (by have := hd.f; omega)
  have hcl := hd.c
  have hq1 : Try.prog.eqGuardType Try.prog.depth 52 = false := by kernel_rfl
  have hq2 : eqN Try.prog 50 52 = some [.i, .s] := by kernel_rfl
  (repeat' (first | with_reducible (first | refine agr_d (fun hc => ?_) fun hc => ?_ | refine agr_n (fun hc => ?_) fun hc => ?_ | refine acd_d (fun hc => ?_) fun hc => ?_ | refine acd_n (fun hc => ?_) fun hc => ?_ | refine dgr_d (fun hc => ?_) fun hc => ?_ | refine dgr_n (fun hc => ?_) fun hc => ?_ | refine dl_sound _ _ [] [] [] _ _ (fun _ h => absurd h List.not_mem_nil) ?_ | refine dc1_p hS ?_ | refine ac1_p hS ?_ | refine dc1_p hK ?_ | refine ac1_p hK ?_ | refine dc1_p hF ?_ | refine ac1_p hF ?_) | simp (disch := omega) only [go_sem, devV, Nat.reduceAdd, Nat.reduceSub, Nat.reduceMul, Nat.reduceLeDiff, Nat.reduceLT, Nat.reduceEqDiff, Int.reduceLT, Int.reduceLE, Int.reduceToNat, Int.reduceAdd, Int.reduceSub, Int.reduceMul, Int.reduceEq, Int.reduceNeg, reduceCtorEq, true_and, and_true, Int.toNat_natCast, List.getElem?_map, Option.map_some, List.length_map, List.length_take, List.length_drop, List.length_append, Nat.sub_zero, Int.toNat_zero, List.length_replicate, Bool.true_or, Bool.or_true, Bool.false_or, Bool.or_false, false_implies, implies_true]))
  refine awp_for d.cache.length (fun j fr st => ev fr (.tmp 2) = .ptr 0 0 0 ∧ ev fr (.tmp 3) = .ptr 1 0 0 ∧ ev fr (.tmp 5) = .int .i64 j ∧ st.get 0 = some (devB d) ∧ st.get 1 = some (devB d) ∧ 1 < st.c) ?_ ?_
  · refine ⟨?_, ?_, ?_, ?_, ?_, ?_⟩ <;> first | (simp (disch := omega) only [go_sem, Nat.reduceAdd, Nat.reduceSub, Nat.reduceMul, Nat.reduceLeDiff, Nat.reduceLT, Nat.reduceEqDiff, Int.reduceLT, Int.reduceLE, Int.reduceToNat, Int.reduceAdd, Int.reduceSub, Int.reduceMul, Int.reduceEq, Int.reduceNeg, reduceCtorEq, true_and, and_true, Int.toNat_natCast, List.getElem?_map, Option.map_some, List.length_map, List.length_take, List.length_drop, List.length_append, Nat.sub_zero, Int.toNat_zero, List.length_replicate, Bool.true_or, Bool.or_true, Bool.false_or, Bool.or_false, false_implies, implies_true]; done) | (simp (disch := omega) only [go_sem, Nat.reduceAdd, Nat.reduceSub, Nat.reduceMul, Nat.reduceLeDiff, Nat.reduceLT, Nat.reduceEqDiff, Int.reduceLT, Int.reduceLE, Int.reduceToNat, Int.reduceAdd, Int.reduceSub, Int.reduceMul, Int.reduceEq, Int.reduceNeg, reduceCtorEq, true_and, and_true, Int.toNat_natCast, List.getElem?_map, Option.map_some, List.length_map, List.length_take, List.length_drop, List.length_append, Nat.sub_zero, Int.toNat_zero, List.length_replicate, Bool.true_or, Bool.or_true, Bool.false_or, Bool.or_false, false_implies, implies_true] <;> rfl) | (show 1 < 2; omega)
  rintro j fr st hj ⟨h2, h3, h5, q0, q1, hc⟩
  by_cases hlt : j < d.cache.length
  · have hg : d.cache[j]? = some d.cache[j] := List.getElem?_eq_getElem hlt
    have hcj := hd.ci j hlt
    (repeat' (first | with_reducible (first | refine agr_d (fun hc => ?_) fun hc => ?_ | refine agr_n (fun hc => ?_) fun hc => ?_ | refine acd_d (fun hc => ?_) fun hc => ?_ | refine acd_n (fun hc => ?_) fun hc => ?_ | refine dgr_d (fun hc => ?_) fun hc => ?_ | refine dgr_n (fun hc => ?_) fun hc => ?_ | refine dl_sound _ _ [] [] [] _ _ (fun _ h => absurd h List.not_mem_nil) ?_) | simp (disch := omega) only [go_sem, h2, h3, h5, hg, q0, q1, devB, Nat.reduceAdd, Nat.reduceSub, Nat.reduceMul, Nat.reduceLeDiff, Nat.reduceLT, Nat.reduceEqDiff, Int.reduceLT, Int.reduceLE, Int.reduceToNat, Int.reduceAdd, Int.reduceSub, Int.reduceMul, Int.reduceEq, Int.reduceNeg, reduceCtorEq, true_and, and_true, Int.toNat_natCast, List.getElem?_map, Option.map_some, List.length_map, List.length_take, List.length_drop, List.length_append, Nat.sub_zero, Int.toNat_zero, List.length_replicate, Bool.true_or, Bool.or_true, Bool.false_or, Bool.or_false, false_implies, implies_true]))
    refine awp_for d.cache[j].length (fun k fr st => ev fr (.tmp 2) = .ptr 0 0 0 ∧ ev fr (.tmp 3) = .ptr 1 0 0 ∧ ev fr (.tmp 5) = .int .i64 j ∧ ev fr (.tmp 6) = .int .i64 k ∧ st.get 0 = some (devB d) ∧ st.get 1 = some (devB d) ∧ 1 < st.c) ?_ ?_
    · refine ⟨?_, ?_, ?_, ?_, ?_, ?_, ?_⟩ <;> first | (simp (disch := omega) only [go_sem, h2, h3, h5, q0, q1, Nat.reduceAdd, Nat.reduceSub, Nat.reduceMul, Nat.reduceLeDiff, Nat.reduceLT, Nat.reduceEqDiff, Int.reduceLT, Int.reduceLE, Int.reduceToNat, Int.reduceAdd, Int.reduceSub, Int.reduceMul, Int.reduceEq, Int.reduceNeg, reduceCtorEq, true_and, and_true, Int.toNat_natCast, List.getElem?_map, Option.map_some, List.length_map, List.length_take, List.length_drop, List.length_append, Nat.sub_zero, Int.toNat_zero, List.length_replicate, Bool.true_or, Bool.or_true, Bool.false_or, Bool.or_false, false_implies, implies_true]; done) | (simp (disch := omega) only [go_sem, h2, h3, h5, q0, q1, Nat.reduceAdd, Nat.reduceSub, Nat.reduceMul, Nat.reduceLeDiff, Nat.reduceLT, Nat.reduceEqDiff, Int.reduceLT, Int.reduceLE, Int.reduceToNat, Int.reduceAdd, Int.reduceSub, Int.reduceMul, Int.reduceEq, Int.reduceNeg, reduceCtorEq, true_and, and_true, Int.toNat_natCast, List.getElem?_map, Option.map_some, List.length_map, List.length_take, List.length_drop, List.length_append, Nat.sub_zero, Int.toNat_zero, List.length_replicate, Bool.true_or, Bool.or_true, Bool.false_or, Bool.or_false, false_implies, implies_true] <;> rfl) | (show 1 < _ + _; omega) | (show 1 < st.c; omega) | omega
    clear h2 h3 h5 q0 q1 hc
    rintro k fr st hk ⟨h2, h3, h5, h6, q0, q1, hc⟩
    by_cases hkt : k < d.cache[j].length
    · have hgk : d.cache[j][k]? = some d.cache[j][k] := List.getElem?_eq_getElem hkt
      (repeat' (first | with_reducible (first | refine agr_d (fun hc => ?_) fun hc => ?_ | refine agr_n (fun hc => ?_) fun hc => ?_ | refine acd_d (fun hc => ?_) fun hc => ?_ | refine acd_n (fun hc => ?_) fun hc => ?_ | refine dgr_d (fun hc => ?_) fun hc => ?_ | refine dgr_n (fun hc => ?_) fun hc => ?_ | refine dl_sound _ _ [] [] [] _ _ (fun _ h => absurd h List.not_mem_nil) ?_ | refine conEnd_p (.inl rfl) ?_ | refine conEnd_p (.inr rfl) ?_) | simp (disch := omega) only [go_sem, h2, h3, h5, h6, hg, hgk, q0, q1, devB, tl_eq, hq1, hq2, veq, Nat.reduceAdd, Nat.reduceSub, Nat.reduceMul, Nat.reduceLeDiff, Nat.reduceLT, Nat.reduceEqDiff, Int.reduceLT, Int.reduceLE, Int.reduceToNat, Int.reduceAdd, Int.reduceSub, Int.reduceMul, Int.reduceEq, Int.reduceNeg, reduceCtorEq, true_and, and_true, Int.toNat_natCast, List.getElem?_map, Option.map_some, List.length_map, List.length_take, List.length_drop, List.length_append, Nat.sub_zero, Int.toNat_zero, List.length_replicate, Bool.true_or, Bool.or_true, Bool.false_or, Bool.or_false, false_implies, implies_true]))
      all_goals first | exact ⟨k + 1, by omega, by omega, rfl, by (first | omega | (show 1 < _ + _; omega))⟩ | skip
    · (repeat' (first | with_reducible (first | refine agr_d (fun hc => ?_) fun hc => ?_ | refine agr_n (fun hc => ?_) fun hc => ?_ | refine acd_d (fun hc => ?_) fun hc => ?_ | refine acd_n (fun hc => ?_) fun hc => ?_ | refine dgr_d (fun hc => ?_) fun hc => ?_ | refine dgr_n (fun hc => ?_) fun hc => ?_ | refine dl_sound _ _ [] [] [] _ _ (fun _ h => absurd h List.not_mem_nil) ?_ | refine conEnd_p (.inl rfl) ?_ | refine conEnd_p (.inr rfl) ?_) | simp (disch := omega) only [go_sem, h2, h3, h5, h6, hg, q0, q1, devB, Nat.reduceAdd, Nat.reduceSub, Nat.reduceMul, Nat.reduceLeDiff, Nat.reduceLT, Nat.reduceEqDiff, Int.reduceLT, Int.reduceLE, Int.reduceToNat, Int.reduceAdd, Int.reduceSub, Int.reduceMul, Int.reduceEq, Int.reduceNeg, reduceCtorEq, true_and, and_true, Int.toNat_natCast, List.getElem?_map, Option.map_some, List.length_map, List.length_take, List.length_drop, List.length_append, Nat.sub_zero, Int.toNat_zero, List.length_replicate, Bool.true_or, Bool.or_true, Bool.false_or, Bool.or_false, false_implies, implies_true]))
      all_goals first | exact ⟨j + 1, by omega, by omega, rfl, by (first | omega | (show 1 < _ + _; omega))⟩ | skip
  · (repeat' (first | with_reducible (first | refine agr_d (fun hc => ?_) fun hc => ?_ | refine agr_n (fun hc => ?_) fun hc => ?_ | refine acd_d (fun hc => ?_) fun hc => ?_ | refine acd_n (fun hc => ?_) fun hc => ?_ | refine dgr_d (fun hc => ?_) fun hc => ?_ | refine dgr_n (fun hc => ?_) fun hc => ?_ | refine dl_sound _ _ [] [] [] _ _ (fun _ h => absurd h List.not_mem_nil) ?_ | refine conEnd_p (.inl rfl) ?_ | refine conEnd_p (.inr rfl) ?_) | simp (disch := omega) only [go_sem, h2, h3, h5, q0, q1, devB, Nat.reduceAdd, Nat.reduceSub, Nat.reduceMul, Nat.reduceLeDiff, Nat.reduceLT, Nat.reduceEqDiff, Int.reduceLT, Int.reduceLE, Int.reduceToNat, Int.reduceAdd, Int.reduceSub, Int.reduceMul, Int.reduceEq, Int.reduceNeg, reduceCtorEq, true_and, and_true, Int.toNat_natCast, List.getElem?_map, Option.map_some, List.length_map, List.length_take, List.length_drop, List.length_append, Nat.sub_zero, Int.toNat_zero, List.length_replicate, Bool.true_or, Bool.or_true, Bool.false_or, Bool.or_false, false_implies, implies_true]))
/-- a deed -/
structure Deed where
  d : Int
  node : Int
  a : Ac
  kept : Int
def deV (x : Deed) : List V := [.int .i64 x.d, .int .i64 x.node, .int .i8 x.a.k, .int .i64 x.a.s, .str x.a.b, .int .i64 x.a.key, .int .u64 x.kept]
structure DeedOk (x : Deed) : Prop where
  a : AcOk x.a
  kept : 0 ≤ x.kept ∧ x.kept < 18446744073709551616
def deedR (d : Dev) (x : Deed) : Dev × ByteArray × Int :=
  if x.d = 0 then doR d x.node x.a else if x.d = 1 then ((crashR' d x.node x.kept).1, ⟨#[]⟩, (crashR' d x.node x.kept).2) else if x.d = 2 then ((startR d x.node).1, ⟨#[]⟩, (startR d x.node).2) else (d, ⟨#[]⟩, 0)
set_option maxRecDepth 100000 in
set_option maxHeartbeats 16000000 in
theorem does_con (d : Dev) (hd : DevOk d) (x : Deed) (hx : DeedOk x) : PCon Try.prog 26 [devV d, .agg (deV x)] (doV (deedR d x)) := by
  refine ⟨?_, by simp only [deV]; (simp only [List.nil_append, List.cons_append, List.append_nil, List.forall_mem_cons, List.not_mem_nil, false_implies, implies_true, and_true, true_and, plain_agg, plain_tp, plain_fn, plain_tup, plain_int, plain_bool, plain_str, plain_nilp, plain_nilfn, plain_undef, plain_dev, plain_pr, plain_tx, plain_in, plain_cc])⟩
  refine con_of_awp Try.func26 rfl mixed (by decide) rfl (by kernel_rfl) rfl ?_
  have h1 := dDo_con d hd x.node x.a hx.a
  have h2 := dCrash_con d hd x.node x.kept hx.kept.1 hx.kept.2
  have h3 := dStart_con d hd x.node
  by_cases e0 : x.d = 0
  · rw [show deedR d x = doR d x.node x.a from if_pos e0]
    (repeat' (first | with_reducible (first | refine agr_d (fun hc => ?_) fun hc => ?_ | refine agr_n (fun hc => ?_) fun hc => ?_ | refine acd_d (fun hc => ?_) fun hc => ?_ | refine acd_n (fun hc => ?_) fun hc => ?_ | refine dgr_d (fun hc => ?_) fun hc => ?_ | refine dgr_n (fun hc => ?_) fun hc => ?_ | refine dl_sound _ _ [] [] [] _ _ (fun _ h => absurd h List.not_mem_nil) ?_ | refine conEnd_p (.inl rfl) ?_ | refine conEnd_p (.inr rfl) ?_ | refine dc1_p h1 ?_ | refine ac1_p h1 ?_) | simp (disch := omega) only [go_sem, devV, deV, doV, e0, Nat.reduceAdd, Nat.reduceSub, Nat.reduceMul, Nat.reduceLeDiff, Nat.reduceLT, Nat.reduceEqDiff, Int.reduceLT, Int.reduceLE, Int.reduceToNat, Int.reduceAdd, Int.reduceSub, Int.reduceMul, Int.reduceEq, Int.reduceNeg, reduceCtorEq, true_and, and_true, Int.toNat_natCast, List.getElem?_map, Option.map_some, List.length_map, List.length_take, List.length_drop, List.length_append, Nat.sub_zero, Int.toNat_zero, List.length_replicate, Bool.true_or, Bool.or_true, Bool.false_or, Bool.or_false, false_implies, implies_true]))
  by_cases e1 : x.d = 1
  · rw [show deedR d x = _ from (if_neg e0).trans (if_pos e1)]
    (repeat' (first | with_reducible (first | refine agr_d (fun hc => ?_) fun hc => ?_ | refine agr_n (fun hc => ?_) fun hc => ?_ | refine acd_d (fun hc => ?_) fun hc => ?_ | refine acd_n (fun hc => ?_) fun hc => ?_ | refine dgr_d (fun hc => ?_) fun hc => ?_ | refine dgr_n (fun hc => ?_) fun hc => ?_ | refine dl_sound _ _ [] [] [] _ _ (fun _ h => absurd h List.not_mem_nil) ?_ | refine conEnd_p (.inl rfl) ?_ | refine conEnd_p (.inr rfl) ?_ | refine dc1_p h2 ?_ | refine ac1_p h2 ?_) | simp (disch := omega) only [go_sem, devV, deV, doV, pairV, e1, Nat.reduceAdd, Nat.reduceSub, Nat.reduceMul, Nat.reduceLeDiff, Nat.reduceLT, Nat.reduceEqDiff, Int.reduceLT, Int.reduceLE, Int.reduceToNat, Int.reduceAdd, Int.reduceSub, Int.reduceMul, Int.reduceEq, Int.reduceNeg, reduceCtorEq, true_and, and_true, Int.toNat_natCast, List.getElem?_map, Option.map_some, List.length_map, List.length_take, List.length_drop, List.length_append, Nat.sub_zero, Int.toNat_zero, List.length_replicate, Bool.true_or, Bool.or_true, Bool.false_or, Bool.or_false, false_implies, implies_true]))
  by_cases e2 : x.d = 2
  · rw [show deedR d x = _ from (if_neg e0).trans ((if_neg e1).trans (if_pos e2))]
    (repeat' (first | with_reducible (first | refine agr_d (fun hc => ?_) fun hc => ?_ | refine agr_n (fun hc => ?_) fun hc => ?_ | refine acd_d (fun hc => ?_) fun hc => ?_ | refine acd_n (fun hc => ?_) fun hc => ?_ | refine dgr_d (fun hc => ?_) fun hc => ?_ | refine dgr_n (fun hc => ?_) fun hc => ?_ | refine dl_sound _ _ [] [] [] _ _ (fun _ h => absurd h List.not_mem_nil) ?_ | refine conEnd_p (.inl rfl) ?_ | refine conEnd_p (.inr rfl) ?_ | refine dc1_p h3 ?_ | refine ac1_p h3 ?_) | simp (disch := omega) only [go_sem, devV, deV, doV, pairV, e2, Nat.reduceAdd, Nat.reduceSub, Nat.reduceMul, Nat.reduceLeDiff, Nat.reduceLT, Nat.reduceEqDiff, Int.reduceLT, Int.reduceLE, Int.reduceToNat, Int.reduceAdd, Int.reduceSub, Int.reduceMul, Int.reduceEq, Int.reduceNeg, reduceCtorEq, true_and, and_true, Int.toNat_natCast, List.getElem?_map, Option.map_some, List.length_map, List.length_take, List.length_drop, List.length_append, Nat.sub_zero, Int.toNat_zero, List.length_replicate, Bool.true_or, Bool.or_true, Bool.false_or, Bool.or_false, false_implies, implies_true]))
  · rw [show deedR d x = _ from (if_neg e0).trans ((if_neg e1).trans (if_neg e2))]
    (repeat' (first | with_reducible (first | refine agr_d (fun hc => ?_) fun hc => ?_ | refine agr_n (fun hc => ?_) fun hc => ?_ | refine acd_d (fun hc => ?_) fun hc => ?_ | refine acd_n (fun hc => ?_) fun hc => ?_ | refine dgr_d (fun hc => ?_) fun hc => ?_ | refine dgr_n (fun hc => ?_) fun hc => ?_ | refine dl_sound _ _ [] [] [] _ _ (fun _ h => absurd h List.not_mem_nil) ?_ | refine conEnd_p (.inl rfl) ?_ | refine conEnd_p (.inr rfl) ?_) | simp (disch := omega) only [go_sem, devV, deV, doV, pairV, e0, e1, e2, Nat.reduceAdd, Nat.reduceSub, Nat.reduceMul, Nat.reduceLeDiff, Nat.reduceLT, Nat.reduceEqDiff, Int.reduceLT, Int.reduceLE, Int.reduceToNat, Int.reduceAdd, Int.reduceSub, Int.reduceMul, Int.reduceEq, Int.reduceNeg, reduceCtorEq, true_and, and_true, Int.toNat_natCast, List.getElem?_map, Option.map_some, List.length_map, List.length_take, List.length_drop, List.length_append, Nat.sub_zero, Int.toNat_zero, List.length_replicate, Bool.true_or, Bool.or_true, Bool.false_or, Bool.or_false, false_implies, implies_true]))
set_option maxRecDepth 100000 in
set_option maxHeartbeats 16000000 in
theorem his_con (d : Dev) (hd : DevOk d) (x : Deed) (hx : DeedOk x) : PCon Try.prog 24 [devV d, .agg (deV x)] (doV (deedR d x)) := by
  refine ⟨?_, by simp only [deV]; (simp only [List.nil_append, List.cons_append, List.append_nil, List.forall_mem_cons, List.not_mem_nil, false_implies, implies_true, and_true, true_and, plain_agg, plain_tp, plain_fn, plain_tup, plain_int, plain_bool, plain_str, plain_nilp, plain_nilfn, plain_undef, plain_dev, plain_pr, plain_tx, plain_in, plain_cc])⟩
  refine con_of_awp Try.func24 rfl mixed (by decide) rfl (by kernel_rfl) rfl ?_
  have h1 := Do_con d hd x.node x.a hx.a
  have h2 := Crash_con d hd x.node x.kept
  have h3 := Start_con d hd x.node
  by_cases e0 : x.d = 0
  · rw [show deedR d x = doR d x.node x.a from if_pos e0]
    (repeat' (first | with_reducible (first | refine agr_d (fun hc => ?_) fun hc => ?_ | refine agr_n (fun hc => ?_) fun hc => ?_ | refine acd_d (fun hc => ?_) fun hc => ?_ | refine acd_n (fun hc => ?_) fun hc => ?_ | refine dgr_d (fun hc => ?_) fun hc => ?_ | refine dgr_n (fun hc => ?_) fun hc => ?_ | refine dl_sound _ _ [] [] [] _ _ (fun _ h => absurd h List.not_mem_nil) ?_ | refine conEnd_p (.inl rfl) ?_ | refine conEnd_p (.inr rfl) ?_ | refine dc1_p h1 ?_ | refine ac1_p h1 ?_) | simp (disch := omega) only [go_sem, devV, deV, doV, e0, Nat.reduceAdd, Nat.reduceSub, Nat.reduceMul, Nat.reduceLeDiff, Nat.reduceLT, Nat.reduceEqDiff, Int.reduceLT, Int.reduceLE, Int.reduceToNat, Int.reduceAdd, Int.reduceSub, Int.reduceMul, Int.reduceEq, Int.reduceNeg, reduceCtorEq, true_and, and_true, Int.toNat_natCast, List.getElem?_map, Option.map_some, List.length_map, List.length_take, List.length_drop, List.length_append, Nat.sub_zero, Int.toNat_zero, List.length_replicate, Bool.true_or, Bool.or_true, Bool.false_or, Bool.or_false, false_implies, implies_true]))
  by_cases e1 : x.d = 1
  · rw [show deedR d x = _ from (if_neg e0).trans (if_pos e1)]
    (repeat' (first | with_reducible (first | refine agr_d (fun hc => ?_) fun hc => ?_ | refine agr_n (fun hc => ?_) fun hc => ?_ | refine acd_d (fun hc => ?_) fun hc => ?_ | refine acd_n (fun hc => ?_) fun hc => ?_ | refine dgr_d (fun hc => ?_) fun hc => ?_ | refine dgr_n (fun hc => ?_) fun hc => ?_ | refine dl_sound _ _ [] [] [] _ _ (fun _ h => absurd h List.not_mem_nil) ?_ | refine conEnd_p (.inl rfl) ?_ | refine conEnd_p (.inr rfl) ?_ | refine dc1_p h2 ?_ | refine ac1_p h2 ?_) | simp (disch := omega) only [go_sem, devV, deV, doV, pairV, e1, Nat.reduceAdd, Nat.reduceSub, Nat.reduceMul, Nat.reduceLeDiff, Nat.reduceLT, Nat.reduceEqDiff, Int.reduceLT, Int.reduceLE, Int.reduceToNat, Int.reduceAdd, Int.reduceSub, Int.reduceMul, Int.reduceEq, Int.reduceNeg, reduceCtorEq, true_and, and_true, Int.toNat_natCast, List.getElem?_map, Option.map_some, List.length_map, List.length_take, List.length_drop, List.length_append, Nat.sub_zero, Int.toNat_zero, List.length_replicate, Bool.true_or, Bool.or_true, Bool.false_or, Bool.or_false, false_implies, implies_true]))
  by_cases e2 : x.d = 2
  · rw [show deedR d x = _ from (if_neg e0).trans ((if_neg e1).trans (if_pos e2))]
    (repeat' (first | with_reducible (first | refine agr_d (fun hc => ?_) fun hc => ?_ | refine agr_n (fun hc => ?_) fun hc => ?_ | refine acd_d (fun hc => ?_) fun hc => ?_ | refine acd_n (fun hc => ?_) fun hc => ?_ | refine dgr_d (fun hc => ?_) fun hc => ?_ | refine dgr_n (fun hc => ?_) fun hc => ?_ | refine dl_sound _ _ [] [] [] _ _ (fun _ h => absurd h List.not_mem_nil) ?_ | refine conEnd_p (.inl rfl) ?_ | refine conEnd_p (.inr rfl) ?_ | refine dc1_p h3 ?_ | refine ac1_p h3 ?_) | simp (disch := omega) only [go_sem, devV, deV, doV, pairV, e2, Nat.reduceAdd, Nat.reduceSub, Nat.reduceMul, Nat.reduceLeDiff, Nat.reduceLT, Nat.reduceEqDiff, Int.reduceLT, Int.reduceLE, Int.reduceToNat, Int.reduceAdd, Int.reduceSub, Int.reduceMul, Int.reduceEq, Int.reduceNeg, reduceCtorEq, true_and, and_true, Int.toNat_natCast, List.getElem?_map, Option.map_some, List.length_map, List.length_take, List.length_drop, List.length_append, Nat.sub_zero, Int.toNat_zero, List.length_replicate, Bool.true_or, Bool.or_true, Bool.false_or, Bool.or_false, false_implies, implies_true]))
  · rw [show deedR d x = _ from (if_neg e0).trans ((if_neg e1).trans (if_neg e2))]
    (repeat' (first | with_reducible (first | refine agr_d (fun hc => ?_) fun hc => ?_ | refine agr_n (fun hc => ?_) fun hc => ?_ | refine acd_d (fun hc => ?_) fun hc => ?_ | refine acd_n (fun hc => ?_) fun hc => ?_ | refine dgr_d (fun hc => ?_) fun hc => ?_ | refine dgr_n (fun hc => ?_) fun hc => ?_ | refine dl_sound _ _ [] [] [] _ _ (fun _ h => absurd h List.not_mem_nil) ?_ | refine conEnd_p (.inl rfl) ?_ | refine conEnd_p (.inr rfl) ?_) | simp (disch := omega) only [go_sem, devV, deV, doV, pairV, e0, e1, e2, Nat.reduceAdd, Nat.reduceSub, Nat.reduceMul, Nat.reduceLeDiff, Nat.reduceLT, Nat.reduceEqDiff, Int.reduceLT, Int.reduceLE, Int.reduceToNat, Int.reduceAdd, Int.reduceSub, Int.reduceMul, Int.reduceEq, Int.reduceNeg, reduceCtorEq, true_and, and_true, Int.toNat_natCast, List.getElem?_map, Option.map_some, List.length_map, List.length_take, List.length_drop, List.length_append, Nat.sub_zero, Int.toNat_zero, List.length_replicate, Bool.true_or, Bool.or_true, Bool.false_or, Bool.or_false, false_implies, implies_true]))
def greatD (l : List Deed) : Bool := (l.take 101).any (fun x => decide (2000 < x.a.b.size)) || decide (100 < l.length)
set_option maxRecDepth 100000 in
set_option maxHeartbeats 16000000 in
theorem great6_con (l : List Deed) (fl : Bool) (hl : l.length ≤ 9223372036854775807) : Con Try.prog 23 [.sl (l.map deV) fl] (· = .bool (greatD l)) := by
  refine con_of_awp Try.func23 rfl mixed (by decide) rfl (by kernel_rfl) rfl ?_
  have hyes : ∀ j, ∀ (h : j < l.length), j ≤ 100 → 2000 < l[j].a.b.size → greatD l = true := fun j h hj hb => by
    unfold greatD
    rw [Bool.or_eq_true]
    refine .inl (List.any_eq_true.2 ⟨l[j], ?_, decide_eq_true hb⟩)
    rw [List.mem_take_iff_getElem]
    exact ⟨j, by omega, rfl⟩
  (repeat' (first | with_reducible (first | refine agr_d (fun hc => ?_) fun hc => ?_ | refine agr_n (fun hc => ?_) fun hc => ?_ | refine acd_d (fun hc => ?_) fun hc => ?_ | refine acd_n (fun hc => ?_) fun hc => ?_ | refine dgr_d (fun hc => ?_) fun hc => ?_ | refine dgr_n (fun hc => ?_) fun hc => ?_ | refine dl_sound _ _ [] [] [] _ _ (fun _ h => absurd h List.not_mem_nil) ?_) | simp (disch := omega) only [go_sem, Nat.reduceAdd, Nat.reduceSub, Nat.reduceMul, Nat.reduceLeDiff, Nat.reduceLT, Nat.reduceEqDiff, Int.reduceLT, Int.reduceLE, Int.reduceToNat, Int.reduceAdd, Int.reduceSub, Int.reduceMul, Int.reduceEq, Int.reduceNeg, reduceCtorEq, true_and, and_true, Int.toNat_natCast, List.getElem?_map, Option.map_some, List.length_map, List.length_take, List.length_drop, List.length_append, Nat.sub_zero, Int.toNat_zero, List.length_replicate, Bool.true_or, Bool.or_true, Bool.false_or, Bool.or_false, false_implies, implies_true]))
  refine awp_for 101 (fun j fr st => ev fr (.tmp 0) = .sl (l.map deV) fl ∧ ev fr (.tmp 3) = .int .i64 j ∧ j ≤ l.length ∧ ∀ t (h : t < l.length), t < j → ¬ 2000 < l[t].a.b.size) ?_ ?_
  · refine ⟨?_, ?_, by omega, fun t _ h => absurd h (by omega)⟩ <;> simp (disch := omega) only [go_sem, Nat.reduceAdd, Nat.reduceSub, Nat.reduceMul, Nat.reduceLeDiff, Nat.reduceLT, Nat.reduceEqDiff, Int.reduceLT, Int.reduceLE, Int.reduceToNat, Int.reduceAdd, Int.reduceSub, Int.reduceMul, Int.reduceEq, Int.reduceNeg, reduceCtorEq, true_and, and_true, Int.toNat_natCast, List.getElem?_map, Option.map_some, List.length_map, List.length_take, List.length_drop, List.length_append, Nat.sub_zero, Int.toNat_zero, List.length_replicate, Bool.true_or, Bool.or_true, Bool.false_or, Bool.or_false, false_implies, implies_true] <;> rfl
  rintro j fr st hj ⟨h0, h3, hjl, hn⟩
  by_cases hlt : j < l.length
  · have hg : l[j]? = some l[j] := List.getElem?_eq_getElem hlt
    by_cases h100 : j ≤ 100
    · by_cases hb : 2000 < l[j].a.b.size
      · have hb' : (2000 : Int) < (l[j].a.b.size : Int) := by omega
        rw [hyes j hlt h100 hb]
        (repeat' (first | with_reducible (first | refine agr_d (fun hc => ?_) fun hc => ?_ | refine agr_n (fun hc => ?_) fun hc => ?_ | refine acd_d (fun hc => ?_) fun hc => ?_ | refine acd_n (fun hc => ?_) fun hc => ?_ | refine dgr_d (fun hc => ?_) fun hc => ?_ | refine dgr_n (fun hc => ?_) fun hc => ?_ | refine dl_sound _ _ [] [] [] _ _ (fun _ h => absurd h List.not_mem_nil) ?_ | refine conEnd_p (.inl rfl) ?_ | refine conEnd_p (.inr rfl) ?_) | simp (disch := omega) only [go_sem, h0, h3, hg, deV, hb', Nat.reduceAdd, Nat.reduceSub, Nat.reduceMul, Nat.reduceLeDiff, Nat.reduceLT, Nat.reduceEqDiff, Int.reduceLT, Int.reduceLE, Int.reduceToNat, Int.reduceAdd, Int.reduceSub, Int.reduceMul, Int.reduceEq, Int.reduceNeg, reduceCtorEq, true_and, and_true, Int.toNat_natCast, List.getElem?_map, Option.map_some, List.length_map, List.length_take, List.length_drop, List.length_append, Nat.sub_zero, Int.toNat_zero, List.length_replicate, Bool.true_or, Bool.or_true, Bool.false_or, Bool.or_false, false_implies, implies_true]))
      · have hb' : ¬ (2000 : Int) < (l[j].a.b.size : Int) := by omega
        (repeat' (first | with_reducible (first | refine agr_d (fun hc => ?_) fun hc => ?_ | refine agr_n (fun hc => ?_) fun hc => ?_ | refine acd_d (fun hc => ?_) fun hc => ?_ | refine acd_n (fun hc => ?_) fun hc => ?_ | refine dgr_d (fun hc => ?_) fun hc => ?_ | refine dgr_n (fun hc => ?_) fun hc => ?_ | refine dl_sound _ _ [] [] [] _ _ (fun _ h => absurd h List.not_mem_nil) ?_ | refine conEnd_p (.inl rfl) ?_ | refine conEnd_p (.inr rfl) ?_) | simp (disch := omega) only [go_sem, h0, h3, hg, deV, hb', Nat.reduceAdd, Nat.reduceSub, Nat.reduceMul, Nat.reduceLeDiff, Nat.reduceLT, Nat.reduceEqDiff, Int.reduceLT, Int.reduceLE, Int.reduceToNat, Int.reduceAdd, Int.reduceSub, Int.reduceMul, Int.reduceEq, Int.reduceNeg, reduceCtorEq, true_and, and_true, Int.toNat_natCast, List.getElem?_map, Option.map_some, List.length_map, List.length_take, List.length_drop, List.length_append, Nat.sub_zero, Int.toNat_zero, List.length_replicate, Bool.true_or, Bool.or_true, Bool.false_or, Bool.or_false, false_implies, implies_true]))
        refine ⟨j + 1, by omega, by omega, rfl, by omega, fun t ht htj => ?_⟩
        rcases Nat.lt_or_ge t j with h | h
        · exact hn t ht h
        · obtain rfl : t = j := by omega
          exact hb
    · have h1 : (100 : Int) < (l.length : Int) := by omega
      (repeat' (first | with_reducible (first | refine agr_d (fun hc => ?_) fun hc => ?_ | refine agr_n (fun hc => ?_) fun hc => ?_ | refine acd_d (fun hc => ?_) fun hc => ?_ | refine acd_n (fun hc => ?_) fun hc => ?_ | refine dgr_d (fun hc => ?_) fun hc => ?_ | refine dgr_n (fun hc => ?_) fun hc => ?_ | refine dl_sound _ _ [] [] [] _ _ (fun _ h => absurd h List.not_mem_nil) ?_ | refine conEnd_p (.inl rfl) ?_ | refine conEnd_p (.inr rfl) ?_) | simp (disch := omega) only [go_sem, h0, h3, h1, Nat.reduceAdd, Nat.reduceSub, Nat.reduceMul, Nat.reduceLeDiff, Nat.reduceLT, Nat.reduceEqDiff, Int.reduceLT, Int.reduceLE, Int.reduceToNat, Int.reduceAdd, Int.reduceSub, Int.reduceMul, Int.reduceEq, Int.reduceNeg, reduceCtorEq, true_and, and_true, Int.toNat_natCast, List.getElem?_map, Option.map_some, List.length_map, List.length_take, List.length_drop, List.length_append, Nat.sub_zero, Int.toNat_zero, List.length_replicate, Bool.true_or, Bool.or_true, Bool.false_or, Bool.or_false, false_implies, implies_true]))
      unfold greatD
      rw [decide_eq_true (show 100 < l.length by omega), Bool.or_true]
  · have e : greatD l = decide ((100 : Int) < (l.length : Int)) := by
      unfold greatD
      have : ((l.take 101).any fun x => decide (2000 < x.a.b.size)) = false := by
        rw [List.any_eq_false]
        intro x hx
        obtain ⟨t, ht, rfl⟩ := List.getElem_of_mem (List.mem_of_mem_take hx)
        simpa using hn t ht (by omega)
      rw [this, Bool.false_or, decide_eq_decide]
      omega
    rw [e]
    (repeat' (first | with_reducible (first | refine agr_d (fun hc => ?_) fun hc => ?_ | refine agr_n (fun hc => ?_) fun hc => ?_ | refine acd_d (fun hc => ?_) fun hc => ?_ | refine acd_n (fun hc => ?_) fun hc => ?_ | refine dgr_d (fun hc => ?_) fun hc => ?_ | refine dgr_n (fun hc => ?_) fun hc => ?_ | refine dl_sound _ _ [] [] [] _ _ (fun _ h => absurd h List.not_mem_nil) ?_ | refine conEnd_p (.inl rfl) ?_ | refine conEnd_p (.inr rfl) ?_) | simp (disch := omega) only [go_sem, h0, h3, Nat.reduceAdd, Nat.reduceSub, Nat.reduceMul, Nat.reduceLeDiff, Nat.reduceLT, Nat.reduceEqDiff, Int.reduceLT, Int.reduceLE, Int.reduceToNat, Int.reduceAdd, Int.reduceSub, Int.reduceMul, Int.reduceEq, Int.reduceNeg, reduceCtorEq, true_and, and_true, Int.toNat_natCast, List.getElem?_map, Option.map_some, List.length_map, List.length_take, List.length_drop, List.length_append, Nat.sub_zero, Int.toNat_zero, List.length_replicate, Bool.true_or, Bool.or_true, Bool.false_or, Bool.or_false, false_implies, implies_true]))
end Go.Proofs.Ytllijcnbjbfabaa

namespace Go.Proofs.Ytllijcnbjbfabaa
open Go.RowKit
set_option linter.unusedSimpArgs false
set_option linter.unusedVariables false

def cellOk (n : Int) (x : Pr) : Prop := 0 ≤ x.n ∧ x.n < n ∧ x.t.size ≤ 512
theorem cached_pw (n : Int) (l : List Pr) : cachedB n [] l = true ↔ (∀ x ∈ l, cellOk n x) ∧ l.Pairwise (fun x y => x.n ≠ y.n) := by
  rw [cachedB_P]
  constructor
  · intro h
    refine ⟨fun x hx => ?_, List.pairwise_iff_getElem.2 fun i j hi hj hij => (h j hj hj).2 i hi hij⟩
    obtain ⟨t, ht, rfl⟩ := List.getElem_of_mem hx
    exact (h t ht ht).1
  · rintro ⟨h1, h2⟩ t ht _
    exact ⟨h1 _ (List.getElem_mem ht), fun k hk hkt => List.pairwise_iff_getElem.1 h2 k t hk ht hkt⟩
theorem cached_sub {n : Int} {l m : List Pr} (h : cachedB n [] l = true) (hs : m.Sublist l) : cachedB n [] m = true := by
  rw [cached_pw] at h ⊢
  exact ⟨fun x hx => h.1 x (hs.subset hx), h.2.sublist hs⟩
theorem placeN_no {l : List Pr} {s : Int} (h : placeN l s = none) : ∀ x ∈ l, x.n ≠ s := by
  induction l with
  | nil => intro x hx; cases hx
  | cons y l ih =>
    unfold placeN at h
    by_cases hy : y.n = s
    · rw [if_pos hy] at h; cases h
    · rw [if_neg hy] at h
      intro x hx
      rcases List.mem_cons.1 hx with rfl | hx
      · exact hy
      · refine ih ?_ x hx
        cases hp : placeN l s with
        | none => rfl
        | some k => rw [hp] at h; cases h
theorem cached_put {n : Int} {l : List Pr} {s : Int} {b : ByteArray} (h : cachedB n [] l = true) (h0 : 0 ≤ s) (h1 : s < n) (hb : b.size ≤ 512) (hp : placeN l s = none) : cachedB n [] (l ++ [⟨s, b⟩]) = true := by
  rw [cached_pw] at h ⊢
  refine ⟨fun x hx => ?_, ?_⟩
  · rcases List.mem_append.1 hx with hx | hx
    · exact h.1 x hx
    · obtain rfl : x = ⟨s, b⟩ := by simpa using hx
      exact ⟨h0, h1, hb⟩
  · rw [List.pairwise_append]
    refine ⟨h.2, by simp, fun x hx y hy => ?_⟩
    obtain rfl : y = ⟨s, b⟩ := by simpa using hy
    exact placeN_no hp x hx
theorem cached_set {n : Int} {l : List Pr} {q : Nat} {b : ByteArray} (h : cachedB n [] l = true) (hq : q < l.length) (hb : b.size ≤ 512) : cachedB n [] (l.set q ⟨l[q].n, b⟩) = true := by
  rw [cachedB_P] at h ⊢
  have hn : ∀ t (ht : t < (l.set q ⟨l[q].n, b⟩).length) (ht' : t < l.length), (l.set q ⟨l[q].n, b⟩)[t].n = l[t].n := fun t ht ht' => by
    rw [List.getElem_set]
    split
    · rename_i e; subst e; rfl
    · rfl
  intro t ht _
  have ht' : t < l.length := by simpa using ht
  obtain ⟨⟨h1, h2, h3⟩, h4⟩ := h t ht' ht'
  refine ⟨⟨by rw [hn t ht ht']; exact h1, by rw [hn t ht ht']; exact h2, ?_⟩, fun k hk hkt => ?_⟩
  · rw [List.getElem_set]
    split
    · exact hb
    · exact h3
  · have hk' : k < l.length := by simpa using hk
    rw [hn t ht ht', hn k hk hk']
    exact h4 k hk' hkt
theorem getD_set {l : List (List Pr)} {n i : Nat} {c : List Pr} : (l.set n c).getD i [] = if n = i ∧ i < l.length then c else l.getD i [] := by
  simp only [List.getD_eq_getElem?_getD, List.getElem?_set]
  by_cases h : n = i
  · subst h
    by_cases h2 : n < l.length
    · simp [h2]
    · simp [h2]
  · simp [h]
theorem may_cache {d : Dev} (h : MayD d) {node : Nat} {c : List Pr} (hc : cachedB d.s.length [] c = true) : ∀ t (ht : t < d.keys.length), cachedB d.s.length [] ((d.cache.set node c).getD t []) = true := fun t ht => by
  rw [getD_set]
  split
  · exact hc
  · exact h.ca t ht
theorem set_size {l : List ByteArray} {n : Nat} {b : ByteArray} (h : ∀ t (h : t < l.length), l[t].size ≤ 512) (hb : b.size ≤ 512) : ∀ t (h : t < (l.set n b).length), (l.set n b)[t].size ≤ 512 := fun t ht => by
  rw [List.getElem_set]
  split
  · exact hb
  · exact h t (by simpa using ht)
theorem cached_len {n m : Int} {l : List Pr} (h : cachedB n [] l = true) (e : n = m) : cachedB m [] l = true := e ▸ h
theorem act_may {d : Dev} (node : Nat) {a : Ac} (h : Done d node a) : MayD (actD d node a).1 := by
  have hm := h.may
  have hcd : d.cache.getD node [] = d.cache[node]'h.c := getD_at h.c
  have hca := hm.ca node h.n
  rw [hcd] at hca
  have hb : a.k = 2 ∨ a.k = 3 → a.b.size ≤ 512 := fun hk => by
    have : ¬ 512 < a.b.size := fun q => h.B (.inl ⟨hk, q⟩)
    omega
  unfold actD
  simp only [hcd]
  split
  · exact hm
  split
  · rename_i hk
    have hs' := set_size (n := a.s.toNat) hm.s (hb (.inl hk))
    cases hp : placeN (d.cache[node]'h.c) a.s with
    | none => exact ⟨by simpa using hm.s0, hm.k0, hm.k1, hm.c, hm.n0, hm.n1, hs', fun t ht => cached_len (hm.ca t ht) (by simp), hm.ke, hm.f⟩
    | some q => exact ⟨by simpa using hm.s0, hm.k0, hm.k1, by simpa using hm.c, hm.n0, hm.n1, hs', fun t ht => cached_len (may_cache hm (cached_sub hca (List.eraseIdx_sublist _ _)) t ht) (by simp), hm.ke, hm.f⟩
  split
  · rename_i hk
    obtain ⟨hs1, hs2⟩ := h.s (.inr (.inr hk))
    cases hp : placeN (d.cache[node]'h.c) a.s with
    | none => exact ⟨hm.s0, hm.k0, hm.k1, by simpa using hm.c, hm.n0, hm.n1, hm.s, may_cache hm (cached_put hca hs1 hs2 (hb (.inr hk)) hp), hm.ke, hm.f⟩
    | some q =>
      obtain ⟨hq, hqs⟩ := placeN_lt hp
      have := cached_set (b := a.b) hca hq (hb (.inr hk))
      rw [hqs] at this
      exact ⟨hm.s0, hm.k0, hm.k1, by simpa using hm.c, hm.n0, hm.n1, hm.s, may_cache hm this, hm.ke, hm.f⟩
  split
  · cases hl : d.cache[node]'h.c with
    | nil => exact hm
    | cons x r =>
      rw [hl] at hca
      have hx := ((cached_pw _ _).1 hca).1 x (by simp)
      exact ⟨by simpa using hm.s0, hm.k0, hm.k1, by simpa using hm.c, hm.n0, hm.n1, set_size hm.s hx.2.2, fun t ht => cached_len (may_cache hm (cached_sub hca (List.sublist_cons_self _ _)) t ht) (by simp), hm.ke, hm.f⟩
  split
  · rename_i hk
    have hkey : givenB d a.key = true := by
      cases hg : givenB d a.key with
      | true => rfl
      | false => exact absurd (.inr (.inl ⟨hk, hg⟩)) h.B
    obtain ⟨h1, h2⟩ := fenceR_spec d.fen a.key (fen_rise hm.f)
    refine ⟨hm.s0, hm.k0, hm.k1, hm.c, hm.n0, hm.n1, hm.s, hm.ca, hm.ke, fun t ht _ => ⟨?_, fun s hs hst => List.pairwise_iff_getElem.1 h2 s t hs ht (by omega)⟩⟩
    rcases (h1 _).1 (List.getElem_mem ht) with e | e
    · show givenB d _ = true
      rw [e]; exact hkey
    · obtain ⟨i, hi, e⟩ := List.getElem_of_mem e
      show givenB d _ = true
      rw [← e]; exact (hm.f i hi hi).1
  · rename_i n1 n2 n3 n4 n5
    have hk6 : a.k = 6 := by
      have h3 : ¬ a.k < 1 := fun q => h.A (.inr (.inr (.inr (.inl q))))
      have h4 : ¬ 6 < a.k := fun q => h.A (.inr (.inr (.inr (.inr q))))
      omega
    have hnx : d.next < 68719476736 := by
      have : ¬ (68719476736 : Int) ≤ d.next := fun q => h.B (.inr (.inr ⟨hk6, q⟩))
      omega
    have hn0 := hm.n0
    have hk1 := hm.k1
    have hn := h.n
    have hgiv : ∀ k, givenB d k = true → givenB { d with keys := d.keys.set node (16 * d.next + node), next := d.next + 1, cache := d.cache.set node [] } k = true := fun k hk => by
      have := of_decide_eq_true hk
      refine decide_eq_true ⟨this.1, ?_, ?_⟩
      · show k / 16 < d.next + 1
        omega
      · show k % 16 < ((d.keys.set node (16 * d.next + node)).length : Int)
        rw [List.length_set]; exact this.2.2
    refine ⟨hm.s0, by simpa using hm.k0, by simpa using hm.k1, by simpa using hm.c, ?_, ?_, hm.s, fun t ht => may_cache hm rfl t (by simpa using ht), fun t ht => ?_, fun t ht htt => ⟨hgiv _ (hm.f t ht htt).1, (hm.f t ht htt).2⟩⟩
    · show 1 ≤ d.next + 1
      omega
    · show d.next + 1 ≤ 68719476736
      omega
    · have ht' : t < d.keys.length := by simpa using ht
      show (d.keys.set node (16 * d.next + node))[t] = 0 ∨ _
      rw [List.getElem_set]
      split
      · rename_i e
        subst e
        refine .inr ⟨decide_eq_true ⟨by omega, ?_, ?_⟩, by omega⟩
        · show (16 * d.next + (node : Int)) / 16 < d.next + 1
          omega
        · show (16 * d.next + (node : Int)) % 16 < ((d.keys.set node (16 * d.next + node)).length : Int)
          rw [List.length_set]; omega
      · rcases hm.ke t ht' with e | ⟨e1, e2⟩
        · exact .inl e
        · exact .inr ⟨hgiv _ e1, e2⟩
theorem do_may {d : Dev} {node : Int} {a : Ac} (h : MayD d) : MayD (doR d node a).1 := by
  by_cases hr : refuseR d node a = 0
  · have hA : ¬ refA d node a := fun q => by rw [refuseR_a q] at hr; cases hr
    have h1 : ¬ node < 0 := fun q => hA (.inr (.inl q))
    obtain ⟨n, rfl⟩ : ∃ n : Nat, node = n := ⟨node.toNat, by omega⟩
    have hD := refuse_done hr
    rw [hD.ok]
    exact act_may n hD
  · unfold doR
    rw [if_neg hr]
    exact h
theorem keepL_size {kept : Int} {n : Int} {l : List Pr} {s : List ByteArray} (hs : ∀ t (h : t < s.length), s[t].size ≤ 512) (hl : ∀ x ∈ l, x.t.size ≤ 512) : ∀ j, ∀ t (h : t < (keepL kept l s j).length), (keepL kept l s j)[t].size ≤ 512
  | 0 => hs
  | j + 1 => by
    have ih := keepL_size (kept := kept) (n := n) hs hl j
    intro t ht
    cases hg : l[j]? with
    | none =>
      have e : keepL kept l s (j + 1) = keepL kept l s j := by
        show (match l[j]? with | none => _ | some x => _) = _
        rw [hg]
      simp only [e]
      exact ih t (by rw [← e]; exact ht)
    | some x =>
      have hx : x ∈ l := List.mem_of_getElem? hg
      have e : keepL kept l s (j + 1) = if kbit kept j then (keepL kept l s j).set x.n.toNat x.t else keepL kept l s j := by
        show (match l[j]? with | none => _ | some x => _) = _
        rw [hg]
      by_cases hk : kbit kept j
      · rw [if_pos hk] at e
        simp only [e]
        exact set_size ih (hl x hx) t (by rw [← e]; exact ht)
      · rw [if_neg hk] at e
        simp only [e]
        exact ih t (by rw [← e]; exact ht)
theorem crash_may {d : Dev} {node kept : Int} (h : MayD d) : MayD (crashR' d node kept).1 := by
  unfold crashR'
  by_cases hbad : badN d node
  · rw [if_pos hbad]; exact h
  · rw [if_neg hbad]
    obtain ⟨n, rfl, hn, _⟩ := badN_split hbad
    rw [Int.toNat_natCast]
    have hca := h.ca n hn
    have hcell := ((cached_pw _ _).1 hca).1
    have hlen : (if fencedB d [d.keys.getD n 0] = true then d.s else keepL kept (d.cache.getD n []) d.s (min (d.cache.getD n []).length 64)).length = d.s.length := by
      split
      · rfl
      · exact keepL_len _ _ _ _
    refine ⟨?_, h.k0, h.k1, by simpa using h.c, h.n0, h.n1, ?_, fun t ht => cached_len (may_cache h rfl t ht) (by rw [hlen]), h.ke, h.f⟩
    · show 1 ≤ (if fencedB d [d.keys.getD n 0] = true then d.s else keepL kept (d.cache.getD n []) d.s (min (d.cache.getD n []).length 64)).length
      rw [hlen]; exact h.s0
    · show ∀ t (ht : t < (if fencedB d [d.keys.getD n 0] = true then d.s else keepL kept (d.cache.getD n []) d.s (min (d.cache.getD n []).length 64)).length), _
      split
      · exact h.s
      · exact keepL_size (n := 0) h.s (fun x hx => (hcell x hx).2.2) _
theorem start_may {d : Dev} {node : Int} (h : MayD d) : MayD (startR d node).1 := by
  unfold startR
  by_cases hbad : badN d node
  · rw [if_pos hbad]; exact h
  · rw [if_neg hbad]
    obtain ⟨n, rfl, hn, _⟩ := badN_split hbad
    rw [Int.toNat_natCast]
    have hgiv : ∀ k, givenB d k = true → givenB { d with cache := d.cache.set n [], keys := d.keys.set n 0 } k = true := fun k hk => by
      have := of_decide_eq_true hk
      refine decide_eq_true ⟨this.1, this.2.1, ?_⟩
      show k % 16 < ((d.keys.set n 0).length : Int)
      rw [List.length_set]; exact this.2.2
    refine ⟨h.s0, by simpa using h.k0, by simpa using h.k1, by simpa using h.c, h.n0, h.n1, h.s, fun t ht => may_cache h rfl t (by simpa using ht), fun t ht => ?_, fun t ht htt => ⟨hgiv _ (h.f t ht htt).1, (h.f t ht htt).2⟩⟩
    have ht' : t < d.keys.length := by simpa using ht
    show (d.keys.set n 0)[t] = 0 ∨ _
    rw [List.getElem_set]
    split
    · exact .inl rfl
    · rcases h.ke t ht' with e | ⟨e1, e2⟩
      · exact .inl e
      · exact .inr ⟨hgiv _ e1, e2⟩
theorem deed_may {d : Dev} {x : Deed} (h : MayD d) : MayD (deedR d x).1 := by
  unfold deedR
  split
  · exact do_may h
  split
  · exact crash_may h
  split
  · exact start_may h
  · exact h
/-- how great a device is -/
structure Sz (d : Dev) (j : Nat) : Prop where
  s : d.s.length ≤ 40
  f : d.fen.length ≤ j
  c : ∀ x ∈ d.cache, x.length ≤ j
theorem Sz.mono {d : Dev} {i j : Nat} (h : Sz d i) (hij : i ≤ j) : Sz d j := ⟨h.s, Nat.le_trans h.f hij, fun x hx => Nat.le_trans (h.c x hx) hij⟩
theorem may_ok {d : Dev} {j : Nat} (hm : MayD d) (hz : Sz d j) (hj : j ≤ 1000) : DevOk d := by
  have hn1 := hm.n1
  have hgb : ∀ k, givenB d k = true → -4611686018427387904 ≤ k ∧ k ≤ 4611686018427387904 := fun k hk => by
    have := of_decide_eq_true hk
    omega
  exact ⟨by have := hz.s; omega, by have := hm.c; have := hm.k1; omega, fun i h => by have := hz.c _ (List.getElem_mem h); omega, by have := hm.k1; omega, fun i h => by
    rcases hm.ke i h with e | ⟨e, _⟩
    · omega
    · exact hgb _ e, by have := hm.n0; omega, by have := hz.f; omega, fun i h => hgb _ (hm.f i h h).1, fun i h => by have := hm.s i h; omega⟩
theorem set_len {l : List (List Pr)} {n j : Nat} {c : List Pr} (h : ∀ x ∈ l, x.length ≤ j) (hc : c.length ≤ j) : ∀ x ∈ l.set n c, x.length ≤ j := fun x hx => by
  rcases List.mem_or_eq_of_mem_set hx with hx | rfl
  · exact h x hx
  · exact hc
theorem act_size {d : Dev} {node j : Nat} {a : Ac} (h : Done d node a) (hz : Sz d j) : Sz (actD d node a).1 (j + 1) := by
  have hm := h.may
  have hcd : d.cache.getD node [] = d.cache[node]'h.c := getD_at h.c
  have hcl : (d.cache[node]'h.c).length ≤ j := hz.c _ (List.getElem_mem h.c)
  have hcj : ∀ x ∈ d.cache, x.length ≤ j + 1 := fun x hx => by have := hz.c x hx; omega
  have hs := hz.s
  have hf := hz.f
  unfold actD
  simp only [hcd]
  split
  · exact hz.mono (by omega)
  split
  · cases hp : placeN (d.cache[node]'h.c) a.s with
    | none => exact ⟨by simpa using hs, by show d.fen.length ≤ j + 1; omega, hcj⟩
    | some q => exact ⟨by simpa using hs, by show d.fen.length ≤ j + 1; omega, set_len hcj (by have := List.length_eraseIdx_le (d.cache[node]'h.c) q; omega)⟩
  split
  · cases hp : placeN (d.cache[node]'h.c) a.s with
    | none => exact ⟨hs, by show d.fen.length ≤ j + 1; omega, set_len hcj (by simp; omega)⟩
    | some q => exact ⟨hs, by show d.fen.length ≤ j + 1; omega, set_len hcj (by simp; omega)⟩
  split
  · cases hl : d.cache[node]'h.c with
    | nil => exact hz.mono (by omega)
    | cons x r => exact ⟨by simpa using hs, by show d.fen.length ≤ j + 1; omega, set_len hcj (by rw [hl] at hcl; simp at hcl; omega)⟩
  split
  · exact ⟨hs, by have := fenceR_len1 d.fen a.key (fen_rise hm.f); show (fenceR d.fen a.key).length ≤ j + 1; omega, hcj⟩
  · exact ⟨hs, by show d.fen.length ≤ j + 1; omega, set_len hcj (by simp)⟩
theorem deed_size {d : Dev} {x : Deed} {j : Nat} (hz : Sz d j) : Sz (deedR d x).1 (j + 1) := by
  have hcj : ∀ x ∈ d.cache, x.length ≤ j + 1 := fun x hx => by have := hz.c x hx; omega
  have hs := hz.s
  have hf := hz.f
  unfold deedR
  split
  · by_cases hr : refuseR d x.node x.a = 0
    · have hA : ¬ refA d x.node x.a := fun q => by rw [refuseR_a q] at hr; cases hr
      have h1 : ¬ x.node < 0 := fun q => hA (.inr (.inl q))
      obtain ⟨n, hn⟩ : ∃ n : Nat, x.node = n := ⟨x.node.toNat, by omega⟩
      rw [hn] at hr ⊢
      have hD := refuse_done hr
      rw [hD.ok]
      exact act_size hD hz
    · unfold doR
      rw [if_neg hr]
      exact hz.mono (by omega)
  split
  · unfold crashR'
    split
    · exact hz.mono (by omega)
    · refine ⟨?_, by show d.fen.length ≤ j + 1; omega, set_len hcj (by simp)⟩
      show (if _ then d.s else keepL _ _ d.s _).length ≤ 40
      split
      · exact hs
      · rw [keepL_len]; exact hs
  split
  · unfold startR
    split
    · exact hz.mono (by omega)
    · exact ⟨hs, by show d.fen.length ≤ j + 1; omega, set_len hcj (by simp)⟩
  · exact hz.mono (by omega)
end Go.Proofs.Ytllijcnbjbfabaa

namespace Go.Proofs.Ytllijcnbjbfabaa
open Go.RowKit
set_option linter.unusedSimpArgs false
set_option linter.unusedVariables false

theorem ac1_lk {P : Program} {ops : Array Oper} {h : FuncId} {d : Option Tmp} {l : List Oper} {fr : Fr} {st : St} {args args' : List V} {r : V} {K : Fr → St → Prop} (f : Nat → Nat) (hz : Fzs st f args args') (hc : Con P h args' (· = r)) (hk : aops P ops l (fr.put d r) (st.lockF f) K) : ac1 P ops h args d l fr st K := by
  unfold ac1
  exact acall_lk f hz hc hk
theorem lockF_c {st : St} {f : Nat → Nat} : (st.lockF f).c = st.c := rfl
def bX : ByteArray := ⟨#[120]⟩
def bA : ByteArray := ⟨#[97]⟩
def bE : ByteArray := ⟨#[]⟩
def wD0 : Dev := ⟨[bE, bX], [[], []], [0, 0], 1, []⟩
def wD1 : Dev := ⟨[bE, bX], [[], []], [16, 0], 2, []⟩
def wD2 : Dev := ⟨[bE, bX], [[], []], [16, 33], 3, []⟩
def wD3 : Dev := ⟨[bE, bX], [[⟨1, bA⟩], []], [16, 33], 3, []⟩
def wD4 : Dev := ⟨[bE, bX], [[⟨1, bA⟩], []], [16, 33], 3, [16]⟩
def wLost : Dev := ⟨[bE, bX], [[], []], [16, 33], 3, []⟩
def wKept : Dev := ⟨[bE, bA], [[], []], [16, 33], 3, []⟩
def wFen : Dev := ⟨[bE, bX], [[], []], [16, 33], 3, [16]⟩
theorem wok {d : Dev} (h : checkB d = true) (hs : d.s.length ≤ 40) (hf : d.fen.length ≤ 3) (hc : ∀ x ∈ d.cache, x.length ≤ 3) : DevOk d := may_ok ((checkB_iff d).1 h) (j := 3) ⟨hs, hf, hc⟩ (by omega)
theorem acok {k s key : Int} {b : ByteArray} (h1 : -128 ≤ k ∧ k ≤ 127) (h2 : 0 ≤ s ∧ s ≤ 100) (h3 : b.size ≤ 100) (h4 : 0 ≤ key ∧ key ≤ 100) : AcOk ⟨k, s, b, key⟩ := ⟨h1, by dsimp only; omega, by dsimp only; omega, by dsimp only; omega⟩
set_option maxRecDepth 100000 in
set_option maxHeartbeats 16000000 in
theorem wakes6_con : PCon Try.prog 18 [] (.bool true) := by
  refine ⟨?_, fun _ h => by cases h⟩
  refine con_of_awp Try.func18 rfl mixed (by decide) rfl (by kernel_rfl) rfl ?_
  have k0 : DevOk wD0 := wok (by kernel_rfl) (by decide) (by decide) (by decide)
  have k1 : DevOk wD1 := wok (by kernel_rfl) (by decide) (by decide) (by decide)
  have k2 : DevOk wD2 := wok (by kernel_rfl) (by decide) (by decide) (by decide)
  have k3 : DevOk wD3 := wok (by kernel_rfl) (by decide) (by decide) (by decide)
  have k4 : DevOk wD4 := wok (by kernel_rfl) (by decide) (by decide) (by decide)
  have h0 : Con Try.prog 19 [.int .i64 2, .sl [[.str ⟨#[]⟩], [.str ⟨#[120]⟩]] false] (· = .tup [devV wD0, .int .i64 0]) := by
    have := (dNew_con 2 [bE, bX] false (by decide) (fun i h => by match i, h with | 0, _ => exact (show (0 : Nat) ≤ 9223372036854775807 by decide) | 1, _ => exact (show (1 : Nat) ≤ 9223372036854775807 by decide))).1
    rw [show newR' 2 [bE, bX] = (wD0, 0) by kernel_rfl] at this
    exact this
  have h1 : PCon Try.prog 20 [devV wD0, .int .i64 0, .agg [.int .i8 6, .int .i64 0, .str ⟨#[]⟩, .int .i64 0]] (.tup [devV wD1, .str ⟨#[16, 0, 0, 0, 0, 0]⟩, .int .i64 0]) := by
    have := dDo_con wD0 k0 0 ⟨6, 0, bE, 0⟩ (acok (by decide) (by decide) (by decide) (by decide))
    rw [show doR wD0 0 ⟨6, 0, bE, 0⟩ = (wD1, ⟨#[16, 0, 0, 0, 0, 0]⟩, 0) by kernel_rfl] at this
    exact this
  have h2 : PCon Try.prog 20 [devV wD1, .int .i64 1, .agg [.int .i8 6, .int .i64 0, .str ⟨#[]⟩, .int .i64 0]] (.tup [devV wD2, .str ⟨#[33, 0, 0, 0, 0, 0]⟩, .int .i64 0]) := by
    have := dDo_con wD1 k1 1 ⟨6, 0, bE, 0⟩ (acok (by decide) (by decide) (by decide) (by decide))
    rw [show doR wD1 1 ⟨6, 0, bE, 0⟩ = (wD2, ⟨#[33, 0, 0, 0, 0, 0]⟩, 0) by kernel_rfl] at this
    exact this
  have h3 : PCon Try.prog 20 [devV wD2, .int .i64 0, .agg [.int .i8 3, .int .i64 1, .str ⟨#[97]⟩, .int .i64 0]] (.tup [devV wD3, .str ⟨#[]⟩, .int .i64 0]) := by
    have := dDo_con wD2 k2 0 ⟨3, 1, bA, 0⟩ (acok (by decide) (by decide) (by decide) (by decide))
    rw [show doR wD2 0 ⟨3, 1, bA, 0⟩ = (wD3, ⟨#[]⟩, 0) by kernel_rfl] at this
    exact this
  have h4 : PCon Try.prog 52 [devV wD3, .int .i64 0, .int .u64 0] (.tup [devV wLost, .int .i64 0]) := by
    have := dCrash_con wD3 k3 0 0 (by decide) (by decide)
    rw [show crashR' wD3 0 0 = (wLost, 0) by kernel_rfl] at this
    exact this
  have h5 : PCon Try.prog 52 [devV wD3, .int .i64 0, .int .u64 1] (.tup [devV wKept, .int .i64 0]) := by
    have := dCrash_con wD3 k3 0 1 (by decide) (by decide)
    rw [show crashR' wD3 0 1 = (wKept, 0) by kernel_rfl] at this
    exact this
  have h6 : PCon Try.prog 20 [devV wD3, .int .i64 1, .agg [.int .i8 5, .int .i64 0, .str ⟨#[]⟩, .int .i64 16]] (.tup [devV wD4, .str ⟨#[]⟩, .int .i64 0]) := by
    have := dDo_con wD3 k3 1 ⟨5, 0, bE, 16⟩ (acok (by decide) (by decide) (by decide) (by decide))
    rw [show doR wD3 1 ⟨5, 0, bE, 16⟩ = (wD4, ⟨#[]⟩, 0) by kernel_rfl] at this
    exact this
  have h7 : PCon Try.prog 52 [devV wD4, .int .i64 0, .int .u64 1] (.tup [devV wFen, .int .i64 0]) := by
    have := dCrash_con wD4 k4 0 1 (by decide) (by decide)
    rw [show crashR' wD4 0 1 = (wFen, 0) by kernel_rfl] at this
    exact this
  have h8 : PCon Try.prog 20 [devV wD4, .int .i64 0, .agg [.int .i8 1, .int .i64 0, .str ⟨#[]⟩, .int .i64 0]] (.tup [devV wD4, .str ⟨#[]⟩, .int .i64 61]) := by
    have := dDo_con wD4 k4 0 ⟨1, 0, bE, 0⟩ (acok (by decide) (by decide) (by decide) (by decide))
    rw [show doR wD4 0 ⟨1, 0, bE, 0⟩ = (wD4, ⟨#[]⟩, 61) by kernel_rfl] at this
    exact this
  have hpl : Plain (.sl [[.str ⟨#[]⟩], [.str ⟨#[120]⟩]] false) := (plain_tx [bE, bX] false).2 trivial
  have l1 : wLost.s.length = 2 := rfl
  have l2 : wKept.s.length = 2 := rfl
  have l3 : wFen.s.length = 2 := rfl
  have g1 : wLost.s[1]? = some ⟨#[120]⟩ := rfl
  have g2 : wKept.s[1]? = some ⟨#[97]⟩ := rfl
  have g3 : wFen.s[1]? = some ⟨#[120]⟩ := rfl
  (repeat' (first | with_reducible (first | refine agr_d (fun hc => ?_) fun hc => ?_ | refine agr_n (fun hc => ?_) fun hc => ?_ | refine acd_d (fun hc => ?_) fun hc => ?_ | refine acd_n (fun hc => ?_) fun hc => ?_ | refine dgr_d (fun hc => ?_) fun hc => ?_ | refine dgr_n (fun hc => ?_) fun hc => ?_ | refine dl_sound _ _ [] [] [] _ _ (fun _ h => absurd h List.not_mem_nil) ?_ | refine conEnd_p (.inl rfl) ?_ | refine conEnd_p (.inr rfl) ?_ | refine ac1_lk mny (fzs_two (.plain _ (.int _ _)) (fz_row (sz := 1) (lk := 0) (es := [[.str ⟨#[]⟩], [.str ⟨#[120]⟩]]) ?_ ?_ ?_ hpl)) h0 ?_ | refine dc1_p h1 ?_ | refine ac1_p h1 ?_ | refine dc1_p h2 ?_ | refine ac1_p h2 ?_ | refine dc1_p h3 ?_ | refine ac1_p h3 ?_ | refine dc1_p h4 ?_ | refine ac1_p h4 ?_ | refine dc1_p h5 ?_ | refine ac1_p h5 ?_ | refine dc1_p h6 ?_ | refine ac1_p h6 ?_ | refine dc1_p h7 ?_ | refine ac1_p h7 ?_ | refine dc1_p h8 ?_ | refine ac1_p h8 ?_) | simp (disch := omega) only [go_sem, devV, l1, l2, l3, g1, g2, g3, tl_eq, lockF_c, Nat.reduceAdd, Nat.reduceSub, Nat.reduceMul, Nat.reduceLeDiff, Nat.reduceLT, Nat.reduceEqDiff, Int.reduceLT, Int.reduceLE, Int.reduceToNat, Int.reduceAdd, Int.reduceSub, Int.reduceMul, Int.reduceEq, Int.reduceNeg, reduceCtorEq, true_and, and_true, Int.toNat_natCast, List.getElem?_map, Option.map_some, List.length_map, List.length_take, List.length_drop, List.length_append, Nat.sub_zero, Int.toNat_zero, List.length_replicate, Bool.true_or, Bool.or_true, Bool.false_or, Bool.or_false, false_implies, implies_true]))
end Go.Proofs.Ytllijcnbjbfabaa

namespace Go.Proofs.Ytllijcnbjbfabaa
open Go.RowKit
set_option linter.unusedSimpArgs false
set_option linter.unusedVariables false

/-- a deed that came in -/
structure DeedIn (x : Deed) : Prop where
  k : -128 ≤ x.a.k ∧ x.a.k ≤ 127
  s : -9223372036854775808 ≤ x.a.s ∧ x.a.s ≤ 9223372036854775807
  key : -9223372036854775808 ≤ x.a.key ∧ x.a.key ≤ 9223372036854775807
  kept : 0 ≤ x.kept ∧ x.kept < 18446744073709551616
theorem plain_de (l : List Deed) (b : Bool) : Plain (.sl (l.map deV) b) ↔ True := ⟨fun _ => trivial, fun _ => .sl _ _ fun r hr x hx => by
  obtain ⟨p, _, rfl⟩ := List.mem_map.1 hr
  simp only [deV, List.mem_cons, List.not_mem_nil, or_false] at hx
  rcases hx with rfl | rfl | rfl | rfl | rfl | rfl | rfl
  all_goals first | exact .int _ _ | exact .str _⟩
theorem great6_p (l : List Deed) (fl : Bool) (hl : l.length ≤ 9223372036854775807) : PCon Try.prog 23 [.sl (l.map deV) fl] (.bool (greatD l)) :=
  ⟨great6_con l fl hl, fun x hx => by
    obtain rfl : x = _ := by simpa using hx
    exact (plain_de l fl).2 trivial⟩
theorem not_great {l : List Deed} (h : greatD l = false) : l.length ≤ 100 ∧ ∀ x ∈ l, x.a.b.size ≤ 2000 := by
  unfold greatD at h
  rw [Bool.or_eq_false_iff, List.any_eq_false, decide_eq_false_iff_not] at h
  refine ⟨by omega, fun x hx => ?_⟩
  have := h.1 x (by rw [List.take_of_length_le (by omega)]; exact hx)
  simp only [decide_eq_true_eq] at this
  omega
theorem deed_in {x : Deed} (h : DeedIn x) (hb : x.a.b.size ≤ 2000) : DeedOk x := ⟨⟨h.k, h.s, by omega, h.key⟩, h.kept⟩
theorem newR_cases (nodes : Int) (ss : List ByteArray) : newR' nodes ss = (noD, 2) ∨ ∃ n : Nat, nodes = n ∧ n ≤ 16 ∧ newR' nodes ss = (newD n ss, 0) ∧ MayD (newD n ss) := by
  unfold newR'
  by_cases h : nodes < 1 ∨ 16 < nodes
  · rw [if_pos h]; exact .inl rfl
  · rw [if_neg h]
    by_cases hc : checkB (newD nodes.toNat ss) = true
    · rw [if_pos hc]
      exact .inr ⟨nodes.toNat, by omega, by omega, rfl, (checkB_iff _).1 hc⟩
    · rw [if_neg hc]; exact .inl rfl
theorem noD_ok : DevOk noD := ⟨by simp, by simp, fun i h => by simp at h, by simp, fun i h => by simp at h, by simp, by simp, fun i h => by simp at h, fun i h => by simp at h⟩
theorem newD_sz {n : Nat} {ss : List ByteArray} (h : ss.length ≤ 40) (j : Nat) : Sz (newD n ss) j := ⟨h, by simp, fun x hx => by
  obtain rfl : x = [] := List.eq_of_mem_replicate hx
  simp⟩
set_option maxRecDepth 100000 in
set_option maxHeartbeats 16000000 in
theorem Plays_con (nodes : Int) (ss : List ByteArray) (fl : Bool) (l : List Deed) (fm : Bool) (hss : ∀ x ∈ ss, x.size ≤ 9223372036854775807) (hsl : ss.length ≤ 9223372036854775807) (hl : l.length ≤ 9223372036854775807) (hx : ∀ x ∈ l, DeedIn x) :
    Con Try.prog 6 [.int .i64 nodes, .sl (ss.map txV) fl, .sl (l.map deV) fm] (· = .bool true) := by
  refine con_of_awp Try.func6 rfl mixed (by decide) rfl (by kernel_rfl) rfl ?_
  have hW := wakes6_con
  have hG := great6_p l fm hl
  by_cases h40 : 40 < ss.length
  · have h40' : (40 : Int) < (ss.length : Int) := by omega
    (repeat' (first | with_reducible (first | refine agr_d (fun hc => ?_) fun hc => ?_ | refine agr_n (fun hc => ?_) fun hc => ?_ | refine acd_d (fun hc => ?_) fun hc => ?_ | refine acd_n (fun hc => ?_) fun hc => ?_ | refine dgr_d (fun hc => ?_) fun hc => ?_ | refine dgr_n (fun hc => ?_) fun hc => ?_ | refine dl_sound _ _ [] [] [] _ _ (fun _ h => absurd h List.not_mem_nil) ?_ | refine conEnd_p (.inl rfl) ?_ | refine conEnd_p (.inr rfl) ?_ | refine dc1_p hW ?_ | refine ac1_p hW ?_) | simp (disch := omega) only [go_sem, h40', Nat.reduceAdd, Nat.reduceSub, Nat.reduceMul, Nat.reduceLeDiff, Nat.reduceLT, Nat.reduceEqDiff, Int.reduceLT, Int.reduceLE, Int.reduceToNat, Int.reduceAdd, Int.reduceSub, Int.reduceMul, Int.reduceEq, Int.reduceNeg, reduceCtorEq, true_and, and_true, Int.toNat_natCast, List.getElem?_map, Option.map_some, List.length_map, List.length_take, List.length_drop, List.length_append, Nat.sub_zero, Int.toNat_zero, List.length_replicate, Bool.true_or, Bool.or_true, Bool.false_or, Bool.or_false, false_implies, implies_true]))
  have h40' : ¬ (40 : Int) < (ss.length : Int) := by omega
  cases hg : greatD l with
  | true =>
    rw [hg] at hG
    (repeat' (first | with_reducible (first | refine agr_d (fun hc => ?_) fun hc => ?_ | refine agr_n (fun hc => ?_) fun hc => ?_ | refine acd_d (fun hc => ?_) fun hc => ?_ | refine acd_n (fun hc => ?_) fun hc => ?_ | refine dgr_d (fun hc => ?_) fun hc => ?_ | refine dgr_n (fun hc => ?_) fun hc => ?_ | refine dl_sound _ _ [] [] [] _ _ (fun _ h => absurd h List.not_mem_nil) ?_ | refine conEnd_p (.inl rfl) ?_ | refine conEnd_p (.inr rfl) ?_ | refine dc1_p hG ?_ | refine ac1_p hG ?_ | refine dc1_p hW ?_ | refine ac1_p hW ?_) | simp (disch := omega) only [go_sem, h40', Nat.reduceAdd, Nat.reduceSub, Nat.reduceMul, Nat.reduceLeDiff, Nat.reduceLT, Nat.reduceEqDiff, Int.reduceLT, Int.reduceLE, Int.reduceToNat, Int.reduceAdd, Int.reduceSub, Int.reduceMul, Int.reduceEq, Int.reduceNeg, reduceCtorEq, true_and, and_true, Int.toNat_natCast, List.getElem?_map, Option.map_some, List.length_map, List.length_take, List.length_drop, List.length_append, Nat.sub_zero, Int.toNat_zero, List.length_replicate, Bool.true_or, Bool.or_true, Bool.false_or, Bool.or_false, false_implies, implies_true]))
  | false =>
  rw [hg] at hG
  obtain ⟨hl100, hb⟩ := not_great hg
  have hss' : ∀ i (h : i < ss.length), ss[i].size ≤ 9223372036854775807 := fun i h => hss _ (List.getElem_mem h)
  have hN := dNew_con nodes ss fl (by omega) hss'
  have hM := New_con nodes ss fl (by omega) hss'
  rcases newR_cases nodes ss with e | ⟨n, _, hn16, e, hmay⟩
  · obtain ⟨nd, hnd, hok⟩ : ∃ nd, noD = nd ∧ DevOk nd := ⟨_, rfl, noD_ok⟩
    rw [e, hnd] at hN hM
    have hS := SameD_con nd hok
    (repeat' (first | with_reducible (first | refine agr_d (fun hc => ?_) fun hc => ?_ | refine agr_n (fun hc => ?_) fun hc => ?_ | refine acd_d (fun hc => ?_) fun hc => ?_ | refine acd_n (fun hc => ?_) fun hc => ?_ | refine dgr_d (fun hc => ?_) fun hc => ?_ | refine dgr_n (fun hc => ?_) fun hc => ?_ | refine dl_sound _ _ [] [] [] _ _ (fun _ h => absurd h List.not_mem_nil) ?_ | refine dc1_p hG ?_ | refine ac1_p hG ?_ | refine dc1_p hN ?_ | refine ac1_p hN ?_ | refine dc1_p hM ?_ | refine ac1_p hM ?_ | refine dc1_p hS ?_ | refine ac1_p hS ?_) | simp (disch := omega) only [go_sem, h40', devV, pairV, Nat.reduceAdd, Nat.reduceSub, Nat.reduceMul, Nat.reduceLeDiff, Nat.reduceLT, Nat.reduceEqDiff, Int.reduceLT, Int.reduceLE, Int.reduceToNat, Int.reduceAdd, Int.reduceSub, Int.reduceMul, Int.reduceEq, Int.reduceNeg, reduceCtorEq, true_and, and_true, Int.toNat_natCast, List.getElem?_map, Option.map_some, List.length_map, List.length_take, List.length_drop, List.length_append, Nat.sub_zero, Int.toNat_zero, List.length_replicate, Bool.true_or, Bool.or_true, Bool.false_or, Bool.or_false, false_implies, implies_true]))
    refine awp_for 0 (fun j fr st => ev fr (.tmp 8) = .int .i64 2 ∧ ev fr (.tmp 2) = .sl (l.map deV) fm ∧ ev fr (.tmp 11) = .int .i64 0) ?_ ?_
    · refine ⟨?_, ?_, ?_⟩ <;> simp (disch := omega) only [go_sem, Nat.reduceAdd, Nat.reduceSub, Nat.reduceMul, Nat.reduceLeDiff, Nat.reduceLT, Nat.reduceEqDiff, Int.reduceLT, Int.reduceLE, Int.reduceToNat, Int.reduceAdd, Int.reduceSub, Int.reduceMul, Int.reduceEq, Int.reduceNeg, reduceCtorEq, true_and, and_true, Int.toNat_natCast, List.getElem?_map, Option.map_some, List.length_map, List.length_take, List.length_drop, List.length_append, Nat.sub_zero, Int.toNat_zero, List.length_replicate, Bool.true_or, Bool.or_true, Bool.false_or, Bool.or_false, false_implies, implies_true] <;> rfl
    rintro j fr st hj ⟨h8, h2, h11⟩
    by_cases hlt : 0 < l.length
    · have hlt' : (0 : Int) < (l.length : Int) := by omega
      (repeat' (first | with_reducible (first | refine agr_d (fun hc => ?_) fun hc => ?_ | refine agr_n (fun hc => ?_) fun hc => ?_ | refine acd_d (fun hc => ?_) fun hc => ?_ | refine acd_n (fun hc => ?_) fun hc => ?_ | refine dgr_d (fun hc => ?_) fun hc => ?_ | refine dgr_n (fun hc => ?_) fun hc => ?_ | refine dl_sound _ _ [] [] [] _ _ (fun _ h => absurd h List.not_mem_nil) ?_ | refine conEnd_p (.inl rfl) ?_ | refine conEnd_p (.inr rfl) ?_ | refine dc1_p hW ?_ | refine ac1_p hW ?_) | simp (disch := omega) only [go_sem, h8, h2, h11, hlt', Nat.reduceAdd, Nat.reduceSub, Nat.reduceMul, Nat.reduceLeDiff, Nat.reduceLT, Nat.reduceEqDiff, Int.reduceLT, Int.reduceLE, Int.reduceToNat, Int.reduceAdd, Int.reduceSub, Int.reduceMul, Int.reduceEq, Int.reduceNeg, reduceCtorEq, true_and, and_true, Int.toNat_natCast, List.getElem?_map, Option.map_some, List.length_map, List.length_take, List.length_drop, List.length_append, Nat.sub_zero, Int.toNat_zero, List.length_replicate, Bool.true_or, Bool.or_true, Bool.false_or, Bool.or_false, false_implies, implies_true]))
    · have hlt' : ¬ (0 : Int) < (l.length : Int) := by omega
      (repeat' (first | with_reducible (first | refine agr_d (fun hc => ?_) fun hc => ?_ | refine agr_n (fun hc => ?_) fun hc => ?_ | refine acd_d (fun hc => ?_) fun hc => ?_ | refine acd_n (fun hc => ?_) fun hc => ?_ | refine dgr_d (fun hc => ?_) fun hc => ?_ | refine dgr_n (fun hc => ?_) fun hc => ?_ | refine dl_sound _ _ [] [] [] _ _ (fun _ h => absurd h List.not_mem_nil) ?_ | refine conEnd_p (.inl rfl) ?_ | refine conEnd_p (.inr rfl) ?_ | refine dc1_p hW ?_ | refine ac1_p hW ?_) | simp (disch := omega) only [go_sem, h8, h2, h11, hlt', Nat.reduceAdd, Nat.reduceSub, Nat.reduceMul, Nat.reduceLeDiff, Nat.reduceLT, Nat.reduceEqDiff, Int.reduceLT, Int.reduceLE, Int.reduceToNat, Int.reduceAdd, Int.reduceSub, Int.reduceMul, Int.reduceEq, Int.reduceNeg, reduceCtorEq, true_and, and_true, Int.toNat_natCast, List.getElem?_map, Option.map_some, List.length_map, List.length_take, List.length_drop, List.length_append, Nat.sub_zero, Int.toNat_zero, List.length_replicate, Bool.true_or, Bool.or_true, Bool.false_or, Bool.or_false, false_implies, implies_true]))
  rw [e] at hN hM
  have hz0 : Sz (newD n ss) 0 := newD_sz (by omega) 0
  generalize newD n ss = d0 at *
  have hS := SameD_con d0 (may_ok hmay hz0 (by omega))
  (repeat' (first | with_reducible (first | refine agr_d (fun hc => ?_) fun hc => ?_ | refine agr_n (fun hc => ?_) fun hc => ?_ | refine acd_d (fun hc => ?_) fun hc => ?_ | refine acd_n (fun hc => ?_) fun hc => ?_ | refine dgr_d (fun hc => ?_) fun hc => ?_ | refine dgr_n (fun hc => ?_) fun hc => ?_ | refine dl_sound _ _ [] [] [] _ _ (fun _ h => absurd h List.not_mem_nil) ?_ | refine dc1_p hG ?_ | refine ac1_p hG ?_ | refine dc1_p hN ?_ | refine ac1_p hN ?_ | refine dc1_p hM ?_ | refine ac1_p hM ?_ | refine dc1_p hS ?_ | refine ac1_p hS ?_) | simp (disch := omega) only [go_sem, h40', devV, pairV, Nat.reduceAdd, Nat.reduceSub, Nat.reduceMul, Nat.reduceLeDiff, Nat.reduceLT, Nat.reduceEqDiff, Int.reduceLT, Int.reduceLE, Int.reduceToNat, Int.reduceAdd, Int.reduceSub, Int.reduceMul, Int.reduceEq, Int.reduceNeg, reduceCtorEq, true_and, and_true, Int.toNat_natCast, List.getElem?_map, Option.map_some, List.length_map, List.length_take, List.length_drop, List.length_append, Nat.sub_zero, Int.toNat_zero, List.length_replicate, Bool.true_or, Bool.or_true, Bool.false_or, Bool.or_false, false_implies, implies_true]))
  refine awp_for l.length (fun j fr st => ∃ d, MayD d ∧ Sz d j ∧ ev fr (.tmp 8) = .int .i64 0 ∧ ev fr (.tmp 2) = .sl (l.map deV) fm ∧ ev fr (.tmp 11) = .int .i64 j ∧ ev fr (.tmp 7) = .ptr 0 0 0 ∧ ev fr (.tmp 9) = .ptr 2 0 0 ∧ st.get 0 = some (devB d) ∧ st.get 2 = some (devB d) ∧ 2 < st.c) ?_ ?_
  · refine ⟨d0, hmay, hz0, ?_, ?_, ?_, ?_, ?_, ?_, ?_, ?_⟩ <;> first | (simp (disch := omega) only [go_sem, Nat.reduceAdd, Nat.reduceSub, Nat.reduceMul, Nat.reduceLeDiff, Nat.reduceLT, Nat.reduceEqDiff, Int.reduceLT, Int.reduceLE, Int.reduceToNat, Int.reduceAdd, Int.reduceSub, Int.reduceMul, Int.reduceEq, Int.reduceNeg, reduceCtorEq, true_and, and_true, Int.toNat_natCast, List.getElem?_map, Option.map_some, List.length_map, List.length_take, List.length_drop, List.length_append, Nat.sub_zero, Int.toNat_zero, List.length_replicate, Bool.true_or, Bool.or_true, Bool.false_or, Bool.or_false, false_implies, implies_true]; done) | (simp (disch := omega) only [go_sem, Nat.reduceAdd, Nat.reduceSub, Nat.reduceMul, Nat.reduceLeDiff, Nat.reduceLT, Nat.reduceEqDiff, Int.reduceLT, Int.reduceLE, Int.reduceToNat, Int.reduceAdd, Int.reduceSub, Int.reduceMul, Int.reduceEq, Int.reduceNeg, reduceCtorEq, true_and, and_true, Int.toNat_natCast, List.getElem?_map, Option.map_some, List.length_map, List.length_take, List.length_drop, List.length_append, Nat.sub_zero, Int.toNat_zero, List.length_replicate, Bool.true_or, Bool.or_true, Bool.false_or, Bool.or_false, false_implies, implies_true] <;> rfl) | (show 2 < _; omega)
  rintro j fr st hj ⟨d, hm, hz, h8, h2, h11, h7, h9, q0, q1, hc⟩
  by_cases hlt : j < l.length
  · have hgj : l[j]? = some l[j] := List.getElem?_eq_getElem hlt
    have hxj := deed_in (hx l[j] (List.getElem_mem hlt)) (hb l[j] (List.getElem_mem hlt))
    have hd : DevOk d := may_ok hm hz (by omega)
    have hm' : MayD (deedR d l[j]).1 := deed_may hm
    have hz' : Sz (deedR d l[j]).1 (j + 1) := deed_size hz
    have hd' := may_ok hm' hz' (by omega)
    have c1 := does_con d hd l[j] hxj
    have c2 := his_con d hd l[j] hxj
    have c3 := SameD_con _ hd'
    have c4 := dCheck_con _ hd'
    rw [chk_yes hm'] at c4
    simp only [deV] at c1 c2
    generalize deedR d l[j] = o at *
    obtain ⟨d', s', e'⟩ := o
    dsimp only at *
    have hlt' : (j : Int) < (l.length : Int) := by omega
    (repeat' (first | with_reducible (first | refine agr_d (fun hc => ?_) fun hc => ?_ | refine agr_n (fun hc => ?_) fun hc => ?_ | refine acd_d (fun hc => ?_) fun hc => ?_ | refine acd_n (fun hc => ?_) fun hc => ?_ | refine dgr_d (fun hc => ?_) fun hc => ?_ | refine dgr_n (fun hc => ?_) fun hc => ?_ | refine dl_sound _ _ [] [] [] _ _ (fun _ h => absurd h List.not_mem_nil) ?_ | refine conEnd_p (.inl rfl) ?_ | refine conEnd_p (.inr rfl) ?_ | refine dc1_p c1 ?_ | refine ac1_p c1 ?_ | refine dc1_p c2 ?_ | refine ac1_p c2 ?_ | refine dc1_p c3 ?_ | refine ac1_p c3 ?_ | refine dc1_p c4 ?_ | refine ac1_p c4 ?_) | simp (disch := omega) only [go_sem, h8, h2, h11, h7, h9, q0, q1, hgj, devB, devV, deV, doV, hlt', tl_eq, List.size_toArray, List.length_cons, List.length_nil, Nat.reduceAdd, Nat.reduceSub, Nat.reduceMul, Nat.reduceLeDiff, Nat.reduceLT, Nat.reduceEqDiff, Int.reduceLT, Int.reduceLE, Int.reduceToNat, Int.reduceAdd, Int.reduceSub, Int.reduceMul, Int.reduceEq, Int.reduceNeg, reduceCtorEq, true_and, and_true, Int.toNat_natCast, List.getElem?_map, Option.map_some, List.length_map, List.length_take, List.length_drop, List.length_append, Nat.sub_zero, Int.toNat_zero, List.length_replicate, Bool.true_or, Bool.or_true, Bool.false_or, Bool.or_false, false_implies, implies_true]))
    refine ⟨j + 1, by omega, by omega, d', hm', hz', ?_⟩
    exact ⟨rfl, rfl, rfl⟩
  · have hlt' : ¬ (j : Int) < (l.length : Int) := by omega
    (repeat' (first | with_reducible (first | refine agr_d (fun hc => ?_) fun hc => ?_ | refine agr_n (fun hc => ?_) fun hc => ?_ | refine acd_d (fun hc => ?_) fun hc => ?_ | refine acd_n (fun hc => ?_) fun hc => ?_ | refine dgr_d (fun hc => ?_) fun hc => ?_ | refine dgr_n (fun hc => ?_) fun hc => ?_ | refine dl_sound _ _ [] [] [] _ _ (fun _ h => absurd h List.not_mem_nil) ?_ | refine conEnd_p (.inl rfl) ?_ | refine conEnd_p (.inr rfl) ?_ | refine dc1_p hW ?_ | refine ac1_p hW ?_) | simp (disch := omega) only [go_sem, h8, h2, h11, hlt', Nat.reduceAdd, Nat.reduceSub, Nat.reduceMul, Nat.reduceLeDiff, Nat.reduceLT, Nat.reduceEqDiff, Int.reduceLT, Int.reduceLE, Int.reduceToNat, Int.reduceAdd, Int.reduceSub, Int.reduceMul, Int.reduceEq, Int.reduceNeg, reduceCtorEq, true_and, and_true, Int.toNat_natCast, List.getElem?_map, Option.map_some, List.length_map, List.length_take, List.length_drop, List.length_append, Nat.sub_zero, Int.toNat_zero, List.length_replicate, Bool.true_or, Bool.or_true, Bool.false_or, Bool.or_false, false_implies, implies_true]))
end Go.Proofs.Ytllijcnbjbfabaa

namespace Go.Proofs.Ytllijcnbjbfabaa
open Go.RowKit
set_option linter.unusedSimpArgs false
set_option linter.unusedVariables false

def allS (w : World) : Stab := fun g _ => g < w.heap.size
theorem reads_vr {w : World} {sz c : Nat} {A : Option Addr} {xs : List Value} {es : List (List V)} (h : Reads w w.heap.size sz A es.length xs) (hrow : ∀ r ∈ es, r.length = sz) (h0 : 0 < sz)
    (hx : ∀ i (hi : i < es.length) j (hj : j < es[i].length), ∃ u, xs[i * sz + j]? = some u ∧ u.oneCell' = true ∧ VR noMu (allS w) w es[i][j] u) (hc : es.length ≤ c) : VR noMu (allS w) w (.sl es false) (.slice A es.length c) := by
  rcases Nat.eq_zero_or_pos es.length with hn | hn
  · have : es = [] := List.length_eq_zero_iff.1 hn
    subst this
    exact .sl0 false _ _ (by simp)
  · obtain ⟨ad, rfl, hb, hcell⟩ := h.2 hn
    have hsp : ad = ⟨ad.block, ad.off, none⟩ := by
      obtain ⟨u, h1, _⟩ := hx 0 hn 0 (by rw [hrow _ (List.getElem_mem hn)]; exact h0)
      have h2 := hcell _ _ h1
      simp only [Nat.zero_mul, Nat.add_zero] at h2
      have h3 : ad.add 0 = ad := rfl
      rw [h3] at h2
      unfold World.cell? at h2
      cases hs : ad.spot with
      | none => rw [← hs]
      | some z =>
        rw [hs] at h2
        split at h2
        · simp at h2
        · cases h2
    rw [hsp]
    refine .sl1 es false ad.block ad.off c sz (fun i j => (xs[i * sz + j]?).getD Go.undef) hn hc (by simp) (fun i hi => hrow _ (List.getElem_mem hi)) (fun i j _ _ => hb) (fun i j hi hj => ?_) (fun i j hi hj => ?_) (fun i hi j hj => ?_)
    · obtain ⟨u, h1, h2, h3⟩ := hx i hi j (by rw [hrow _ (List.getElem_mem hi)]; exact hj)
      have := hcell _ _ h1
      rw [hsp, add_none] at this
      rw [h1, Nat.add_assoc]
      exact this
    · obtain ⟨u, h1, h2, h3⟩ := hx i hi j (by rw [hrow _ (List.getElem_mem hi)]; exact hj)
      rw [h1]; exact h2
    · obtain ⟨u, h1, h2, h3⟩ := hx i hi j hj
      rw [h1]; exact h3
/-- a contract that says true, as a walk -/
theorem walk_of_con {g : FuncId} {args : List V} {vs : List Value} {w : World} (h : Con Try.prog g args (· = .bool true)) (hv : VRs noMu (allS w) w args vs) :
    Calls Try.prog g vs.toArray w fun e w' => e = .returned (.bool true) ∧ Below w.heap.size w w' := by
  refine (h.2 w (allS w) vs (fun _ _ h => h) hv).mono ?_
  rintro e w' ⟨v, r, S', rfl, rfl, _, hr, _, _, _, hB⟩
  rw [VR.bool_inv hr]
  exact ⟨rfl, hB⟩
end Go.Proofs.Ytllijcnbjbfabaa

namespace Go.Proofs.Ytllijcnbjbfabaa
open Go.ChangeShapes Go.WideShapes Go.ChangeAt Go.RowKit Go.Joins Go.Deep
set_option linter.unusedSimpArgs false
set_option linter.unusedVariables false

theorem flat_len {α β : Type} (f : α → List β) (sz : Nat) (hf : ∀ x, (f x).length = sz) (l : List α) : (l.flatMap f).length = l.length * sz := by
  induction l with
  | nil => simp
  | cons x l ih => rw [List.flatMap_cons, List.length_append, hf, ih, List.length_cons, Nat.succ_mul]; omega
theorem flat_get {α β : Type} (f : α → List β) (sz : Nat) (hf : ∀ x, (f x).length = sz) (l : List α) (i j : Nat) (hi : i < l.length) (hj : j < sz) : (l.flatMap f)[i * sz + j]? = (f l[i])[j]? := by
  induction l generalizing i with
  | nil => simp at hi
  | cons x l ih =>
    rw [List.flatMap_cons]
    cases i with
    | zero =>
      rw [Nat.zero_mul, Nat.zero_add, List.getElem?_append_left (by rw [hf]; exact hj)]
      rfl
    | succ i =>
      rw [List.getElem?_append_right (by rw [hf, Nat.succ_mul]; omega), hf, show (i + 1) * sz + j - sz = i * sz + j by rw [Nat.succ_mul]; omega]
      exact ih i (by simpa using hi)
theorem flat_map {α β : Type} (f : α → β) (l : List α) : (l.flatMap fun s => [f s]) = l.map f := by
  induction l with
  | nil => rfl
  | cons x l ih => rw [List.flatMap_cons, ih]; rfl
/-- a slice of rows, read cell by cell -/
theorem rows_vr {α : Type} {w : World} {c sz : Nat} {A : Option Addr} (l : List α) (f : α → List Value) (g : α → List V) (hf : ∀ x, (f x).length = sz) (hg : ∀ x, (g x).length = sz) (h0 : 0 < sz) (hone : ∀ x, ∀ u ∈ f x, u.oneCell' = true)
    (hv : ∀ x j (h1 : j < (g x).length) (h2 : j < (f x).length), VR noMu (allS w) w (g x)[j] (f x)[j]) (h : Reads w w.heap.size sz A l.length (l.flatMap f)) (hc : l.length ≤ c) : VR noMu (allS w) w (.sl (l.map g) false) (.slice A l.length c) := by
  have := reads_vr (es := l.map g) (sz := sz) (c := c) (A := A) (xs := l.flatMap f) (w := w) (by rw [List.length_map]; exact h) (fun r hr => by obtain ⟨p, _, rfl⟩ := List.mem_map.1 hr; exact hg p) h0 (fun i hi j hj => ?_) (by rw [List.length_map]; exact hc)
  · rw [List.length_map] at this
    exact this
  · rw [List.length_map] at hi
    simp only [List.getElem_map] at hj ⊢
    have hj' : j < (f l[i]).length := by rw [hf, ← hg l[i]]; exact hj
    exact ⟨(f l[i])[j], by rw [flat_get f sz hf l i j hi (by rw [← hg l[i]]; exact hj), List.getElem?_eq_getElem hj'], hone _ _ (List.getElem_mem hj'), hv _ _ hj hj'⟩
def deRow (x : Deed) : List Value := [.int .i64 x.d, .int .i64 x.node, .int .i8 x.a.k, .int .i64 x.a.s, .string x.a.b, .int .i64 x.a.key, .int .u64 x.kept]
def IsDeeds (W : World) (A : Option Addr) (zs : List Deed) (c : Nat) : Prop :=
  Reads W W.heap.size 7 A zs.length (zs.flatMap deRow) ∧ (∀ x ∈ zs, DeedIn x) ∧ zs.length ≤ c ∧ c ≤ maxLen
theorem wf_i8d {n : Int} (h : (Lit.int .i8 n).wf = true) : -128 ≤ n ∧ n ≤ 127 := by
  have h1 : IntKind.i8.min = -128 := rfl
  have h2 : IntKind.i8.max = 127 := rfl
  simp only [Lit.wf, Bool.and_eq_true, decide_eq_true_eq] at h
  omega
theorem wf_u64 {n : Int} (h : (Lit.int .u64 n).wf = true) : 0 ≤ n ∧ n < 18446744073709551616 := by
  have h1 : IntKind.u64.min = 0 := rfl
  have h2 : IntKind.u64.max = 18446744073709551615 := rfl
  simp only [Lit.wf, Bool.and_eq_true, decide_eq_true_eq] at h
  omega
theorem len4 {α : Type} {l : List α} (h : l.length = 4) : ∃ a b c d, l = [a, b, c, d] := by
  match l, h with
  | [a, b, c, d], _ => exact ⟨a, b, c, d, rfl⟩
theorem len7 {α : Type} {l : List α} (h : l.length = 7) : ∃ a b c d e f g, l = [a, b, c, d, e, f, g] := by
  match l, h with
  | [a, b, c, d, e, f, g], _ => exact ⟨a, b, c, d, e, f, g, rfl⟩
set_option maxRecDepth 100000 in
theorem deed_of_cells {H : Type} {enc : TypeId × Value → H} {w : World} {base n : Nat} {spare : Nat → Bool} {held : Bool} {cs : List Value} {y : DataW H × List MemPlace}
    (h : DataW.trod enc Try.prog w base spare held n 66 cs = some y) : ∃ x : Deed, cs = deRow x ∧ DeedIn x := by
  have k0 : Try.prog.cellsOf 3 = 1 := by kernel_rfl
  have k1 : Try.prog.cellsOf 43 = 4 := by kernel_rfl
  have k2 : Try.prog.cellsOf 25 = 1 := by kernel_rfl
  have k3 : Try.prog.cellsOf 66 = 7 := by kernel_rfl
  have k4 : Try.prog.cellsOf 9 = 1 := by kernel_rfl
  obtain ⟨xs, n1, _, _, hl, hxl, hf⟩ := DataW.trod_struct Try.underlying66 h
  rw [k3] at hl
  obtain ⟨c0, c1, c2, c3, c4, c5, c6, rfl⟩ := len7 hl
  obtain ⟨x0, x1, x2, x3, rfl⟩ := len4 (show xs.length = 4 from hxl)
  have f0 : DataW.trod enc Try.prog w base spare held n1 3 (List.take (Try.prog.cellsOf 3) [c0, c1, c2, c3, c4, c5, c6]) = some x0 := hf 0 _ rfl
  have f1 : DataW.trod enc Try.prog w base spare held n1 3 (List.take (Try.prog.cellsOf 3) [c1, c2, c3, c4, c5, c6]) = some x1 := hf 1 _ rfl
  have f2 : DataW.trod enc Try.prog w base spare held n1 43 (List.take (Try.prog.cellsOf 43) [c2, c3, c4, c5, c6]) = some x2 := hf 2 _ rfl
  have f3 : DataW.trod enc Try.prog w base spare held n1 25 (List.take (Try.prog.cellsOf 25) [c6]) = some x3 := hf 3 _ rfl
  rw [k0] at f0 f1
  rw [k1] at f2
  rw [k2] at f3
  obtain ⟨n0, e0, _, w0⟩ := DataW.trod_int Try.underlying3 f0
  obtain ⟨m0, e1, _, w1⟩ := DataW.trod_int Try.underlying3 f1
  obtain ⟨u0, e3, _, w3⟩ := DataW.trod_int Try.underlying25 f3
  obtain ⟨ys, n2, _, _, hl2, hyl, hg⟩ := DataW.trod_struct Try.underlying43 f2
  obtain ⟨y0, y1, y2, y3, rfl⟩ := len4 (show ys.length = 4 from hyl)
  have g0 : DataW.trod enc Try.prog w base spare held n2 41 (List.take (Try.prog.cellsOf 41) [c2, c3, c4, c5]) = some y0 := hg 0 _ rfl
  have g1 : DataW.trod enc Try.prog w base spare held n2 3 (List.take (Try.prog.cellsOf 3) [c3, c4, c5]) = some y1 := hg 1 _ rfl
  have g2 : DataW.trod enc Try.prog w base spare held n2 9 (List.take (Try.prog.cellsOf 9) [c4, c5]) = some y2 := hg 2 _ rfl
  have g3 : DataW.trod enc Try.prog w base spare held n2 3 (List.take (Try.prog.cellsOf 3) [c5]) = some y3 := hg 3 _ rfl
  rw [k0] at g1 g3
  rw [k4] at g2
  have k5 : Try.prog.cellsOf 41 = 1 := by kernel_rfl
  rw [k5] at g0
  obtain ⟨a0, r0, _, v0⟩ := DataW.trod_int Try.underlying41 g0
  obtain ⟨a1, r1, _, v1⟩ := DataW.trod_int Try.underlying3 g1
  obtain ⟨a2, r2, _, v2⟩ := DataW.trod_string Try.underlying9 g2
  obtain ⟨a3, r3, _, v3⟩ := DataW.trod_int Try.underlying3 g3
  injection e0 with e0
  injection e1 with e1
  injection e3 with e3
  injection r0 with r0
  injection r1 with r1
  injection r2 with r2
  injection r3 with r3
  subst e0 e1 e3 r0 r1 r2 r3
  exact ⟨⟨n0, m0, ⟨a0, a1, a2, a3⟩, u0⟩, rfl, wf_i8d v0, wf_i64 v1, wf_i64 v3, wf_u64 w3⟩
set_option maxRecDepth 100000 in
theorem open_deeds_arg {H : Type} {enc : TypeId × Value → H} {w : World} {base : Nat} {held : Bool} {r : Reach} {b0 : Nat} {v : Value} {d : DataW H} {p : List MemPlace}
    (hv : Value.okWide Try.prog w r b0 62 v) (h : DataW.Trod enc Try.prog w base (fun _ => true) held 62 v d p) :
    ∃ (A : Option Addr) (zs : List Deed) (c : Nat), v = .slice A zs.length c ∧ IsDeeds w A zs c := by
  obtain ⟨a, len, cap, rfl⟩ := okWide_slice Try.underlying62 hv
  obtain ⟨fuel, hf⟩ := h
  have k3 : Try.prog.cellsOf 66 = 7 := by kernel_rfl
  rcases open_slice Try.underlying62 hf with ⟨hcs, _⟩ | ⟨x, l, c, m, n, D, Pl, hcs, _, hl, hm, hmm, _, hi⟩
  · simp [Value.cells] at hcs
    obtain ⟨rfl, rfl, rfl⟩ := hcs
    exact ⟨none, [], 0, rfl, Reads.none_, by simp, by simp, by unfold maxLen; omega⟩
  · simp [Value.cells] at hcs
    obtain ⟨rfl, rfl, rfl⟩ := hcs
    simp only [if_true] at hmm
    have key : ∀ i, i < len → ∃ q : Deed, DeedIn q ∧ ∀ j, j < 7 → w.cell? (x.add (i * 7 + j)) = (deRow q)[j]? := by
      intro i hil
      obtain ⟨cs, h1, h2⟩ := hi i (by omega)
      rw [k3] at h1
      obtain ⟨q, rfl, hq⟩ := deed_of_cells h2
      obtain ⟨_, _, hat⟩ := World.cells?_some h1
      refine ⟨q, hq, fun j hj => ?_⟩
      rw [← Go.Deep.add_add]
      exact hat j hj
    obtain ⟨zs, hzl, hz⟩ := exists_list len _ key
    refine ⟨some x, zs, cap, by rw [hzl], ⟨by rw [flat_len deRow 7 (fun _ => rfl)], fun hn => ⟨x, rfl, ?_, fun j u hu => ?_⟩⟩, ?_, by omega, hm⟩
    · obtain ⟨q, _, hq⟩ := key 0 (by omega)
      have := World.block_lt_of_cell? _ _ ((hq 0 (by omega)).trans rfl)
      rwa [block_of_add] at this
    · have hj : j < zs.length * 7 := by
        rcases Nat.lt_or_ge j (zs.length * 7) with h1 | h1
        · exact h1
        · rw [List.getElem?_eq_none (by rw [flat_len deRow 7 (fun _ => rfl)]; exact h1)] at hu; cases hu
      have hi2 : j / 7 < zs.length := by omega
      have hzz := (hz (j / 7) zs[j / 7] (List.getElem?_eq_getElem hi2)).2 (j % 7) (by omega)
      have e : j = j / 7 * 7 + j % 7 := by omega
      rw [e, flat_get deRow 7 (fun _ => rfl) zs _ _ hi2 (by omega)] at hu
      rw [e, hzz, hu]
    · intro q hq
      obtain ⟨i, hil, rfl⟩ := List.getElem_of_mem hq
      exact (hz i _ (List.getElem?_eq_getElem hil)).1
theorem deeds_vr {w : World} {c : Nat} {A : Option Addr} {l : List Deed} (h : IsDeeds w A l c) : VR noMu (allS w) w (.sl (l.map deV) false) (.slice A l.length c) :=
  rows_vr l deRow deV (sz := 7) (fun _ => rfl) (fun _ => rfl) (by decide) (fun x u hu => by
    simp only [deRow, List.mem_cons, List.not_mem_nil, or_false] at hu
    rcases hu with rfl | rfl | rfl | rfl | rfl | rfl | rfl <;> rfl) (fun x j h1 h2 => by
    match j, h1 with
    | 0, _ => exact .int _ _
    | 1, _ => exact .int _ _
    | 2, _ => exact .int _ _
    | 3, _ => exact .int _ _
    | 4, _ => exact .str _
    | 5, _ => exact .int _ _
    | 6, _ => exact .int _ _) h.1 h.2.2.1
theorem strs_vr {w : World} {c : Nat} {A : Option Addr} {l : List ByteArray} (h : IsStrs w A l c) : VR noMu (allS w) w (.sl (l.map txV) false) (.slice A l.length c) := by
  refine rows_vr l (fun s => [Value.string s]) txV (sz := 1) (fun _ => rfl) (fun _ => rfl) (by decide) (fun x u hu => ?_) (fun x j h1 h2 => ?_) ?_ h.2.2.1
  · obtain rfl : u = _ := by simpa using hu
    rfl
  · match j, h1 with
    | 0, _ => exact .str _
  · rw [show (l.flatMap fun s => [Value.string s]) = scells l from flat_map _ l]
    exact h.1
end Go.Proofs.Ytllijcnbjbfabaa

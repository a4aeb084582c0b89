/- device.Do, by the calculus: put; flush. -/
import Derived.Test.YtllijcnbjbfabaaDevM30
import Derived.Test.YtllijcnbjbfabaaDevM01
import Derived.Test.YtllijcnbjbfabaaDevM28
namespace Go.Proofs.Ytllijcnbjbfabaa
open Go.RowKit
set_option linter.unusedSimpArgs false
set_option linter.unusedVariables false

set_option maxRecDepth 100000 in
set_option maxHeartbeats 16000000 in
theorem dDo_3 (d : Dev) (hd : DevOk d) (node : Nat) (a : Ac) (ha : AcOk a) (h : Done d node a) (hk : a.k = 3) : Con Try.prog 20 [devV d, .int .i64 node, acV a] (· = doV (doR d node a)) := by
  have hR := refuses_con d hd node a ha
  rw [refuseR_0 h.A h.B h.C h.D] at hR
  simp only [acV, hk] at hR
  rw [h.ok]
  have hcn := h.c
  have hcl := hd.ci node hcn
  have hcd : d.cache.getD node [] = d.cache[node] := getD_at hcn
  refine con_of_awp Try.func20 rfl mixed (by decide) rfl (by kernel_rfl) rfl ?_
  (repeat' (first | with_reducible (first | refine agr_d (fun hc => ?_) fun hc => ?_ | refine agr_n (fun hc => ?_) fun hc => ?_ | refine acd_d (fun hc => ?_) fun hc => ?_ | refine acd_n (fun hc => ?_) fun hc => ?_ | refine dgr_d (fun hc => ?_) fun hc => ?_ | refine dgr_n (fun hc => ?_) fun hc => ?_ | refine dl_sound _ _ [] [] [] _ _ (fun _ h => absurd h List.not_mem_nil) ?_ | refine ac1_sc mny (fzs_three (fz_tpm (sz := 5) (lk := 0) ?_ (by (simp only [List.nil_append, List.cons_append, List.append_nil, List.forall_mem_cons, List.not_mem_nil, false_implies, implies_true, and_true, true_and, plain_agg, plain_tp, plain_fn, plain_tup, plain_int, plain_bool, plain_str, plain_nilp, plain_nilfn, plain_undef, plain_dev, plain_pr, plain_tx, plain_in, plain_cc]))) (.plain _ (.int _ _)) (.plain _ (by (simp only [List.nil_append, List.cons_append, List.append_nil, List.forall_mem_cons, List.not_mem_nil, false_implies, implies_true, and_true, true_and, plain_agg, plain_tp, plain_fn, plain_tup, plain_int, plain_bool, plain_str, plain_nilp, plain_nilfn, plain_undef, plain_dev, plain_pr, plain_tx, plain_in, plain_cc])))) hR (.int _ _) ?_) | simp (disch := omega) only [go_sem, devV, doV, hk, Nat.reduceAdd, Nat.reduceSub, Nat.reduceMul, Nat.reduceLeDiff, Nat.reduceLT, Nat.reduceEqDiff, Int.reduceLT, Int.reduceLE, Int.reduceToNat, Int.reduceAdd, Int.reduceSub, Int.reduceMul, Int.reduceEq, Int.reduceNeg, reduceCtorEq, true_and, and_true, Int.toNat_natCast, List.getElem?_map, Option.map_some, List.length_map, List.length_take, List.length_drop, List.length_append, Nat.sub_zero, Int.toNat_zero, List.length_replicate, Bool.true_or, Bool.or_true, Bool.false_or, Bool.or_false, false_implies, implies_true]))
  refine ac1_i (cut_con d hd 3 _ (by simp (disch := omega) only [go_sem, Nat.reduceAdd, Nat.reduceSub, Nat.reduceMul, Nat.reduceLeDiff, Nat.reduceLT, Nat.reduceEqDiff, Int.reduceLT, Int.reduceLE, Int.reduceToNat, Int.reduceAdd, Int.reduceSub, Int.reduceMul, Int.reduceEq, Int.reduceNeg, reduceCtorEq, true_and, and_true, Int.toNat_natCast, List.getElem?_map, Option.map_some, List.length_map, List.length_take, List.length_drop, List.length_append, Nat.sub_zero, Int.toNat_zero, List.length_replicate, Bool.true_or, Bool.or_true, Bool.false_or, Bool.or_false, false_implies, implies_true] <;> rfl) (by simp (disch := omega) only [go_sem, Nat.reduceAdd, Nat.reduceSub, Nat.reduceMul, Nat.reduceLeDiff, Nat.reduceLT, Nat.reduceEqDiff, Int.reduceLT, Int.reduceLE, Int.reduceToNat, Int.reduceAdd, Int.reduceSub, Int.reduceMul, Int.reduceEq, Int.reduceNeg, reduceCtorEq, true_and, and_true, Int.toNat_natCast, List.getElem?_map, Option.map_some, List.length_map, List.length_take, List.length_drop, List.length_append, Nat.sub_zero, Int.toNat_zero, List.length_replicate, Bool.true_or, Bool.or_true, Bool.false_or, Bool.or_false, false_implies, implies_true]) node hcn a.s) ?_
  rintro _ ⟨g, c⟩ ⟨bl, rfl, h1, h2, h3, h4⟩
  dsimp only at h1 h2 h3 h4
  have q1 : g 1 = some ⟨[[.int .i8 3, .int .i64 a.s, .str a.b, .int .i64 a.key]], 4, 0⟩ := (h4 1 (by simp)).trans (by simp (disch := omega) only [go_sem, hk, Nat.reduceAdd, Nat.reduceSub, Nat.reduceMul, Nat.reduceLeDiff, Nat.reduceLT, Nat.reduceEqDiff, Int.reduceLT, Int.reduceLE, Int.reduceToNat, Int.reduceAdd, Int.reduceSub, Int.reduceMul, Int.reduceEq, Int.reduceNeg, reduceCtorEq, true_and, and_true, Int.toNat_natCast, List.getElem?_map, Option.map_some, List.length_map, List.length_take, List.length_drop, List.length_append, Nat.sub_zero, Int.toNat_zero, List.length_replicate, Bool.true_or, Bool.or_true, Bool.false_or, Bool.or_false, false_implies, implies_true] <;> rfl)
  have q2 : g 2 = some ⟨[[.sl [] true, .sl [] true, .sl [] true, .int .i64 0, .sl [] true]], 5, 0⟩ := (h4 2 (by simp)).trans (by simp (disch := omega) only [go_sem, Nat.reduceAdd, Nat.reduceSub, Nat.reduceMul, Nat.reduceLeDiff, Nat.reduceLT, Nat.reduceEqDiff, Int.reduceLT, Int.reduceLE, Int.reduceToNat, Int.reduceAdd, Int.reduceSub, Int.reduceMul, Int.reduceEq, Int.reduceNeg, reduceCtorEq, true_and, and_true, Int.toNat_natCast, List.getElem?_map, Option.map_some, List.length_map, List.length_take, List.length_drop, List.length_append, Nat.sub_zero, Int.toNat_zero, List.length_replicate, Bool.true_or, Bool.or_true, Bool.false_or, Bool.or_false, false_implies, implies_true] <;> rfl)
  have q3 : g 3 = some (devB d) := (h4 3 (by simp)).trans (by simp (disch := omega) only [go_sem, Nat.reduceAdd, Nat.reduceSub, Nat.reduceMul, Nat.reduceLeDiff, Nat.reduceLT, Nat.reduceEqDiff, Int.reduceLT, Int.reduceLE, Int.reduceToNat, Int.reduceAdd, Int.reduceSub, Int.reduceMul, Int.reduceEq, Int.reduceNeg, reduceCtorEq, true_and, and_true, Int.toNat_natCast, List.getElem?_map, Option.map_some, List.length_map, List.length_take, List.length_drop, List.length_append, Nat.sub_zero, Int.toNat_zero, List.length_replicate, Bool.true_or, Bool.or_true, Bool.false_or, Bool.or_false, false_implies, implies_true] <;> rfl)
  have h1' : 4 ≤ bl := Nat.le_trans (by simp) h1
  clear h4
  cases hpn : placeN d.cache[node] a.s with
  | none =>
    have hpr : placeR d.cache[node] a.s = -1 := by rw [placeR, hpn]
    rw [hpr]
    have hact : actD d node a = ({ d with cache := d.cache.set node (d.cache[node] ++ [⟨a.s, a.b⟩]) }, ⟨#[]⟩) := by
      unfold actD
      simp only [hk, hcd, hpn]
      rfl
    rw [hact]
    have hnc : ¬ d.cache[node].length + 1 = d.cache[node].length := by omega
    have happ : d.cache[node].map prV ++ [[V.int .i64 a.s, V.str a.b]] = (d.cache[node] ++ [(⟨a.s, a.b⟩ : Pr)]).map prV := by rw [List.map_append]; rfl
    have hgt : ((d.cache[node] ++ [(⟨a.s, a.b⟩ : Pr)]).map prV)[d.cache[node].length]? = some (prV ⟨a.s, a.b⟩) := by simp
    have hgt2 : (d.cache[node] ++ [(⟨a.s, a.b⟩ : Pr)])[d.cache[node].length]? = some ⟨a.s, a.b⟩ := by simp
    have hset : ((d.cache[node] ++ [(⟨a.s, a.b⟩ : Pr)]).map prV).set d.cache[node].length [V.int .i64 a.s, V.str a.b] = (d.cache[node] ++ [(⟨a.s, a.b⟩ : Pr)]).map prV := by
      rw [List.map_append, List.set_append_right _ _ (by simp), List.length_map, Nat.sub_self]
      rfl
    (repeat' (first | with_reducible (first | refine agr_d (fun hc => ?_) fun hc => ?_ | refine agr_n (fun hc => ?_) fun hc => ?_ | refine acd_d (fun hc => ?_) fun hc => ?_ | refine acd_n (fun hc => ?_) fun hc => ?_ | refine dgr_d (fun hc => ?_) fun hc => ?_ | refine dgr_n (fun hc => ?_) fun hc => ?_ | refine dl_sound _ _ [] [] [] _ _ (fun _ h => absurd h List.not_mem_nil) ?_) | simp (disch := omega) only [go_sem, devV, devB, doV, hk, q1, q2, q3, h3, happ, hgt, hgt2, hnc, hset, Nat.reduceAdd, Nat.reduceSub, Nat.reduceMul, Nat.reduceLeDiff, Nat.reduceLT, Nat.reduceEqDiff, Int.reduceLT, Int.reduceLE, Int.reduceToNat, Int.reduceAdd, Int.reduceSub, Int.reduceMul, Int.reduceEq, Int.reduceNeg, reduceCtorEq, true_and, and_true, Int.toNat_natCast, List.getElem?_map, Option.map_some, List.length_map, List.length_take, List.length_drop, List.length_append, Nat.sub_zero, Int.toNat_zero, List.length_replicate, Bool.true_or, Bool.or_true, Bool.false_or, Bool.or_false, false_implies, implies_true]))
    refine ac1_i (keep_con (.sl (d.s.map txV) false) (.sl (d.cache.map ccV) false) (.sl (d.keys.map inV) false) (.sl (d.fen.map inV) false) _ d.next 3 _ ?_ ?_ (d.cache.map ccV) (.inl ⟨false, rfl⟩) (fun r hr => by obtain ⟨p, _, rfl⟩ := List.mem_map.1 hr; rfl) (by simpa using hd.c) node (by simpa using hcn) (.inr ⟨_, _, _, _, rfl⟩)) ?_
    · simp (disch := omega) only [go_sem, q3, Nat.reduceAdd, Nat.reduceSub, Nat.reduceMul, Nat.reduceLeDiff, Nat.reduceLT, Nat.reduceEqDiff, Int.reduceLT, Int.reduceLE, Int.reduceToNat, Int.reduceAdd, Int.reduceSub, Int.reduceMul, Int.reduceEq, Int.reduceNeg, reduceCtorEq, true_and, and_true, Int.toNat_natCast, List.getElem?_map, Option.map_some, List.length_map, List.length_take, List.length_drop, List.length_append, Nat.sub_zero, Int.toNat_zero, List.length_replicate, Bool.true_or, Bool.or_true, Bool.false_or, Bool.or_false, false_implies, implies_true] <;> rfl
    · first | omega | (simp (disch := omega) only [go_sem, Nat.reduceAdd, Nat.reduceSub, Nat.reduceMul, Nat.reduceLeDiff, Nat.reduceLT, Nat.reduceEqDiff, Int.reduceLT, Int.reduceLE, Int.reduceToNat, Int.reduceAdd, Int.reduceSub, Int.reduceMul, Int.reduceEq, Int.reduceNeg, reduceCtorEq, true_and, and_true, Int.toNat_natCast, List.getElem?_map, Option.map_some, List.length_map, List.length_take, List.length_drop, List.length_append, Nat.sub_zero, Int.toNat_zero, List.length_replicate, Bool.true_or, Bool.or_true, Bool.false_or, Bool.or_false, false_implies, implies_true] <;> omega)
    rintro _ ⟨g3, c3⟩ ⟨rfl, bC, n1, n2, n3, n4, n5⟩
    dsimp only at n1 n2 n3 n4 n5
    rw [List.length_map] at n4
    have t2 := (n5 2 (by omega) (by omega)).trans (by simp (disch := omega) only [go_sem, q2, Nat.reduceAdd, Nat.reduceSub, Nat.reduceMul, Nat.reduceLeDiff, Nat.reduceLT, Nat.reduceEqDiff, Int.reduceLT, Int.reduceLE, Int.reduceToNat, Int.reduceAdd, Int.reduceSub, Int.reduceMul, Int.reduceEq, Int.reduceNeg, reduceCtorEq, true_and, and_true, Int.toNat_natCast, List.getElem?_map, Option.map_some, List.length_map, List.length_take, List.length_drop, List.length_append, Nat.sub_zero, Int.toNat_zero, List.length_replicate, Bool.true_or, Bool.or_true, Bool.false_or, Bool.or_false, false_implies, implies_true] <;> rfl : _ = some ⟨[[.sl [] true, .sl [] true, .sl [] true, .int .i64 0, .sl [] true]], 5, 0⟩)
    have tl := (n5 (c + 1 + 1 + 1) (by omega) (by omega)).trans (by simp (disch := omega) only [go_sem, hset, Nat.reduceAdd, Nat.reduceSub, Nat.reduceMul, Nat.reduceLeDiff, Nat.reduceLT, Nat.reduceEqDiff, Int.reduceLT, Int.reduceLE, Int.reduceToNat, Int.reduceAdd, Int.reduceSub, Int.reduceMul, Int.reduceEq, Int.reduceNeg, reduceCtorEq, true_and, and_true, Int.toNat_natCast, List.getElem?_map, Option.map_some, List.length_map, List.length_take, List.length_drop, List.length_append, Nat.sub_zero, Int.toNat_zero, List.length_replicate, Bool.true_or, Bool.or_true, Bool.false_or, Bool.or_false, false_implies, implies_true] : _ = some ⟨(d.cache[node] ++ [(⟨a.s, a.b⟩ : Pr)]).map prV, 2, 0⟩)
    have hlC : c + 1 + 1 + 1 ≠ bC := by omega
    have hC4 : 4 ≤ bC := by omega
    (repeat' (first | with_reducible (first | refine agr_d (fun hc => ?_) fun hc => ?_ | refine agr_n (fun hc => ?_) fun hc => ?_ | refine acd_d (fun hc => ?_) fun hc => ?_ | refine acd_n (fun hc => ?_) fun hc => ?_ | refine dgr_d (fun hc => ?_) fun hc => ?_ | refine dgr_n (fun hc => ?_) fun hc => ?_ | refine dl_sound _ _ [] [] [] _ _ (fun _ h => absurd h List.not_mem_nil) ?_) | simp (disch := omega) only [go_sem, devV, devB, doV, hk, t2, tl, n3, n4, Nat.reduceAdd, Nat.reduceSub, Nat.reduceMul, Nat.reduceLeDiff, Nat.reduceLT, Nat.reduceEqDiff, Int.reduceLT, Int.reduceLE, Int.reduceToNat, Int.reduceAdd, Int.reduceSub, Int.reduceMul, Int.reduceEq, Int.reduceNeg, reduceCtorEq, true_and, and_true, Int.toNat_natCast, List.getElem?_map, Option.map_some, List.length_map, List.length_take, List.length_drop, List.length_append, Nat.sub_zero, Int.toNat_zero, List.length_replicate, Bool.true_or, Bool.or_true, Bool.false_or, Bool.or_false, false_implies, implies_true]))
    refine conEnd_f (.inl rfl) ?_
    simp (disch := omega) only [go_sem, t2, tl, n3, n4, Nat.reduceAdd, Nat.reduceSub, Nat.reduceMul, Nat.reduceLeDiff, Nat.reduceLT, Nat.reduceEqDiff, Int.reduceLT, Int.reduceLE, Int.reduceToNat, Int.reduceAdd, Int.reduceSub, Int.reduceMul, Int.reduceEq, Int.reduceNeg, reduceCtorEq, true_and, and_true, Int.toNat_natCast, List.getElem?_map, Option.map_some, List.length_map, List.length_take, List.length_drop, List.length_append, Nat.sub_zero, Int.toNat_zero, List.length_replicate, Bool.true_or, Bool.or_true, Bool.false_or, Bool.or_false, false_implies, implies_true]
    refine ⟨mny, _, fz_tup3 (fz_dev (d := { d with cache := d.cache.set node (d.cache[node] ++ [⟨a.s, a.b⟩]) }) rfl (.plain _ ((plain_tx _ _).2 trivial)) (fz_cset (lk := 0) (v := .bs (c + 1 + 1 + 1) 0 (d.cache[node].length + 1) (d.cache[node].length + 1)) hd.c hcn ?_ (fz_row (sz := 2) (lk := 0) (es := (d.cache[node] ++ [(⟨a.s, a.b⟩ : Pr)]).map prV) ?_ (by simp) (by omega) ((plain_pr _ _).2 trivial))) (.plain _ ((plain_in _ _).2 trivial)) (.plain _ ((plain_in _ _).2 trivial))) (.plain _ (.str _)) (.plain _ (.int _ _)), rfl⟩
    · simp (disch := omega) only [go_sem, n3, Nat.reduceAdd, Nat.reduceSub, Nat.reduceMul, Nat.reduceLeDiff, Nat.reduceLT, Nat.reduceEqDiff, Int.reduceLT, Int.reduceLE, Int.reduceToNat, Int.reduceAdd, Int.reduceSub, Int.reduceMul, Int.reduceEq, Int.reduceNeg, reduceCtorEq, true_and, and_true, Int.toNat_natCast, List.getElem?_map, Option.map_some, List.length_map, List.length_take, List.length_drop, List.length_append, Nat.sub_zero, Int.toNat_zero, List.length_replicate, Bool.true_or, Bool.or_true, Bool.false_or, Bool.or_false, false_implies, implies_true]
    · simp (disch := omega) only [go_sem, tl, Nat.reduceAdd, Nat.reduceSub, Nat.reduceMul, Nat.reduceLeDiff, Nat.reduceLT, Nat.reduceEqDiff, Int.reduceLT, Int.reduceLE, Int.reduceToNat, Int.reduceAdd, Int.reduceSub, Int.reduceMul, Int.reduceEq, Int.reduceNeg, reduceCtorEq, true_and, and_true, Int.toNat_natCast, List.getElem?_map, Option.map_some, List.length_map, List.length_take, List.length_drop, List.length_append, Nat.sub_zero, Int.toNat_zero, List.length_replicate, Bool.true_or, Bool.or_true, Bool.false_or, Bool.or_false, false_implies, implies_true]
  | some q =>
    obtain ⟨hq, hqs⟩ := placeN_lt hpn
    have hpr : placeR d.cache[node] a.s = q := by rw [placeR, hpn]
    rw [hpr]
    have hact : actD d node a = ({ d with cache := d.cache.set node (d.cache[node].set q ⟨a.s, a.b⟩) }, ⟨#[]⟩) := by
      unfold actD
      simp only [hk, hcd, hpn]
      rfl
    rw [hact]
    have hqg : d.cache[node][q]? = some d.cache[node][q] := List.getElem?_eq_getElem hq
    have hset : (d.cache[node].map prV).set q [V.int .i64 a.s, V.str a.b] = (d.cache[node].set q ⟨a.s, a.b⟩).map prV := by rw [List.map_set]; rfl
    (repeat' (first | with_reducible (first | refine agr_d (fun hc => ?_) fun hc => ?_ | refine agr_n (fun hc => ?_) fun hc => ?_ | refine acd_d (fun hc => ?_) fun hc => ?_ | refine acd_n (fun hc => ?_) fun hc => ?_ | refine dgr_d (fun hc => ?_) fun hc => ?_ | refine dgr_n (fun hc => ?_) fun hc => ?_ | refine dl_sound _ _ [] [] [] _ _ (fun _ h => absurd h List.not_mem_nil) ?_) | simp (disch := omega) only [go_sem, devV, devB, doV, hk, q1, q2, q3, h3, hqg, hset, Nat.reduceAdd, Nat.reduceSub, Nat.reduceMul, Nat.reduceLeDiff, Nat.reduceLT, Nat.reduceEqDiff, Int.reduceLT, Int.reduceLE, Int.reduceToNat, Int.reduceAdd, Int.reduceSub, Int.reduceMul, Int.reduceEq, Int.reduceNeg, reduceCtorEq, true_and, and_true, Int.toNat_natCast, List.getElem?_map, Option.map_some, List.length_map, List.length_take, List.length_drop, List.length_append, Nat.sub_zero, Int.toNat_zero, List.length_replicate, Bool.true_or, Bool.or_true, Bool.false_or, Bool.or_false, false_implies, implies_true]))
    refine ac1_i (keep_con (.sl (d.s.map txV) false) (.sl (d.cache.map ccV) false) (.sl (d.keys.map inV) false) (.sl (d.fen.map inV) false) _ d.next 3 _ ?_ ?_ (d.cache.map ccV) (.inl ⟨false, rfl⟩) (fun r hr => by obtain ⟨p, _, rfl⟩ := List.mem_map.1 hr; rfl) (by simpa using hd.c) node (by simpa using hcn) (.inr ⟨_, _, _, _, rfl⟩)) ?_
    · simp (disch := omega) only [go_sem, q3, Nat.reduceAdd, Nat.reduceSub, Nat.reduceMul, Nat.reduceLeDiff, Nat.reduceLT, Nat.reduceEqDiff, Int.reduceLT, Int.reduceLE, Int.reduceToNat, Int.reduceAdd, Int.reduceSub, Int.reduceMul, Int.reduceEq, Int.reduceNeg, reduceCtorEq, true_and, and_true, Int.toNat_natCast, List.getElem?_map, Option.map_some, List.length_map, List.length_take, List.length_drop, List.length_append, Nat.sub_zero, Int.toNat_zero, List.length_replicate, Bool.true_or, Bool.or_true, Bool.false_or, Bool.or_false, false_implies, implies_true] <;> rfl
    · first | omega | (simp (disch := omega) only [go_sem, Nat.reduceAdd, Nat.reduceSub, Nat.reduceMul, Nat.reduceLeDiff, Nat.reduceLT, Nat.reduceEqDiff, Int.reduceLT, Int.reduceLE, Int.reduceToNat, Int.reduceAdd, Int.reduceSub, Int.reduceMul, Int.reduceEq, Int.reduceNeg, reduceCtorEq, true_and, and_true, Int.toNat_natCast, List.getElem?_map, Option.map_some, List.length_map, List.length_take, List.length_drop, List.length_append, Nat.sub_zero, Int.toNat_zero, List.length_replicate, Bool.true_or, Bool.or_true, Bool.false_or, Bool.or_false, false_implies, implies_true] <;> omega)
    rintro _ ⟨g3, c3⟩ ⟨rfl, bC, n1, n2, n3, n4, n5⟩
    dsimp only at n1 n2 n3 n4 n5
    rw [List.length_map] at n4
    have t2 := (n5 2 (by omega) (by omega)).trans (by simp (disch := omega) only [go_sem, q2, Nat.reduceAdd, Nat.reduceSub, Nat.reduceMul, Nat.reduceLeDiff, Nat.reduceLT, Nat.reduceEqDiff, Int.reduceLT, Int.reduceLE, Int.reduceToNat, Int.reduceAdd, Int.reduceSub, Int.reduceMul, Int.reduceEq, Int.reduceNeg, reduceCtorEq, true_and, and_true, Int.toNat_natCast, List.getElem?_map, Option.map_some, List.length_map, List.length_take, List.length_drop, List.length_append, Nat.sub_zero, Int.toNat_zero, List.length_replicate, Bool.true_or, Bool.or_true, Bool.false_or, Bool.or_false, false_implies, implies_true] <;> rfl : _ = some ⟨[[.sl [] true, .sl [] true, .sl [] true, .int .i64 0, .sl [] true]], 5, 0⟩)
    have tl := (n5 bl (by omega) (by omega)).trans (by simp (disch := omega) only [go_sem, h3, hset, Nat.reduceAdd, Nat.reduceSub, Nat.reduceMul, Nat.reduceLeDiff, Nat.reduceLT, Nat.reduceEqDiff, Int.reduceLT, Int.reduceLE, Int.reduceToNat, Int.reduceAdd, Int.reduceSub, Int.reduceMul, Int.reduceEq, Int.reduceNeg, reduceCtorEq, true_and, and_true, Int.toNat_natCast, List.getElem?_map, Option.map_some, List.length_map, List.length_take, List.length_drop, List.length_append, Nat.sub_zero, Int.toNat_zero, List.length_replicate, Bool.true_or, Bool.or_true, Bool.false_or, Bool.or_false, false_implies, implies_true] : _ = some ⟨(d.cache[node].set q ⟨a.s, a.b⟩).map prV, 2, 0⟩)
    have hlC : bl ≠ bC := by omega
    have hC4 : 4 ≤ bC := by omega
    (repeat' (first | with_reducible (first | refine agr_d (fun hc => ?_) fun hc => ?_ | refine agr_n (fun hc => ?_) fun hc => ?_ | refine acd_d (fun hc => ?_) fun hc => ?_ | refine acd_n (fun hc => ?_) fun hc => ?_ | refine dgr_d (fun hc => ?_) fun hc => ?_ | refine dgr_n (fun hc => ?_) fun hc => ?_ | refine dl_sound _ _ [] [] [] _ _ (fun _ h => absurd h List.not_mem_nil) ?_) | simp (disch := omega) only [go_sem, devV, devB, doV, hk, t2, tl, n3, n4, Nat.reduceAdd, Nat.reduceSub, Nat.reduceMul, Nat.reduceLeDiff, Nat.reduceLT, Nat.reduceEqDiff, Int.reduceLT, Int.reduceLE, Int.reduceToNat, Int.reduceAdd, Int.reduceSub, Int.reduceMul, Int.reduceEq, Int.reduceNeg, reduceCtorEq, true_and, and_true, Int.toNat_natCast, List.getElem?_map, Option.map_some, List.length_map, List.length_take, List.length_drop, List.length_append, Nat.sub_zero, Int.toNat_zero, List.length_replicate, Bool.true_or, Bool.or_true, Bool.false_or, Bool.or_false, false_implies, implies_true]))
    refine conEnd_f (.inl rfl) ?_
    simp (disch := omega) only [go_sem, t2, tl, n3, n4, Nat.reduceAdd, Nat.reduceSub, Nat.reduceMul, Nat.reduceLeDiff, Nat.reduceLT, Nat.reduceEqDiff, Int.reduceLT, Int.reduceLE, Int.reduceToNat, Int.reduceAdd, Int.reduceSub, Int.reduceMul, Int.reduceEq, Int.reduceNeg, reduceCtorEq, true_and, and_true, Int.toNat_natCast, List.getElem?_map, Option.map_some, List.length_map, List.length_take, List.length_drop, List.length_append, Nat.sub_zero, Int.toNat_zero, List.length_replicate, Bool.true_or, Bool.or_true, Bool.false_or, Bool.or_false, false_implies, implies_true]
    refine ⟨mny, _, fz_tup3 (fz_dev (d := { d with cache := d.cache.set node (d.cache[node].set q ⟨a.s, a.b⟩) }) rfl (.plain _ ((plain_tx _ _).2 trivial)) (fz_cset (lk := 0) (v := .bs bl 0 d.cache[node].length d.cache[node].length) hd.c hcn ?_ (fz_row (sz := 2) (lk := 0) (es := (d.cache[node].set q ⟨a.s, a.b⟩).map prV) ?_ (by simp) (by omega) ((plain_pr _ _).2 trivial))) (.plain _ ((plain_in _ _).2 trivial)) (.plain _ ((plain_in _ _).2 trivial))) (.plain _ (.str _)) (.plain _ (.int _ _)), rfl⟩
    · simp (disch := omega) only [go_sem, n3, Nat.reduceAdd, Nat.reduceSub, Nat.reduceMul, Nat.reduceLeDiff, Nat.reduceLT, Nat.reduceEqDiff, Int.reduceLT, Int.reduceLE, Int.reduceToNat, Int.reduceAdd, Int.reduceSub, Int.reduceMul, Int.reduceEq, Int.reduceNeg, reduceCtorEq, true_and, and_true, Int.toNat_natCast, List.getElem?_map, Option.map_some, List.length_map, List.length_take, List.length_drop, List.length_append, Nat.sub_zero, Int.toNat_zero, List.length_replicate, Bool.true_or, Bool.or_true, Bool.false_or, Bool.or_false, false_implies, implies_true]
    · simp (disch := omega) only [go_sem, tl, Nat.reduceAdd, Nat.reduceSub, Nat.reduceMul, Nat.reduceLeDiff, Nat.reduceLT, Nat.reduceEqDiff, Int.reduceLT, Int.reduceLE, Int.reduceToNat, Int.reduceAdd, Int.reduceSub, Int.reduceMul, Int.reduceEq, Int.reduceNeg, reduceCtorEq, true_and, and_true, Int.toNat_natCast, List.getElem?_map, Option.map_some, List.length_map, List.length_take, List.length_drop, List.length_append, Nat.sub_zero, Int.toNat_zero, List.length_replicate, Bool.true_or, Bool.or_true, Bool.false_or, Bool.or_false, false_implies, implies_true]
set_option maxRecDepth 100000 in
set_option maxHeartbeats 16000000 in
theorem dDo_4 (d : Dev) (hd : DevOk d) (node : Nat) (a : Ac) (ha : AcOk a) (h : Done d node a) (hk : a.k = 4) : Con Try.prog 20 [devV d, .int .i64 node, acV a] (· = doV (doR d node a)) := by
  have hR := refuses_con d hd node a ha
  rw [refuseR_0 h.A h.B h.C h.D] at hR
  simp only [acV, hk] at hR
  rw [h.ok]
  have hcn := h.c
  have hcl := hd.ci node hcn
  have hcd : d.cache.getD node [] = d.cache[node] := getD_at hcn
  have hmay := h.may.ca node h.n
  rw [hcd] at hmay
  refine con_of_awp Try.func20 rfl mixed (by decide) rfl (by kernel_rfl) rfl ?_
  (repeat' (first | with_reducible (first | refine agr_d (fun hc => ?_) fun hc => ?_ | refine agr_n (fun hc => ?_) fun hc => ?_ | refine acd_d (fun hc => ?_) fun hc => ?_ | refine acd_n (fun hc => ?_) fun hc => ?_ | refine dgr_d (fun hc => ?_) fun hc => ?_ | refine dgr_n (fun hc => ?_) fun hc => ?_ | refine dl_sound _ _ [] [] [] _ _ (fun _ h => absurd h List.not_mem_nil) ?_ | refine ac1_sc mny (fzs_three (fz_tpm (sz := 5) (lk := 0) ?_ (by (simp only [List.nil_append, List.cons_append, List.append_nil, List.forall_mem_cons, List.not_mem_nil, false_implies, implies_true, and_true, true_and, plain_agg, plain_tp, plain_fn, plain_tup, plain_int, plain_bool, plain_str, plain_nilp, plain_nilfn, plain_undef, plain_dev, plain_pr, plain_tx, plain_in, plain_cc]))) (.plain _ (.int _ _)) (.plain _ (by (simp only [List.nil_append, List.cons_append, List.append_nil, List.forall_mem_cons, List.not_mem_nil, false_implies, implies_true, and_true, true_and, plain_agg, plain_tp, plain_fn, plain_tup, plain_int, plain_bool, plain_str, plain_nilp, plain_nilfn, plain_undef, plain_dev, plain_pr, plain_tx, plain_in, plain_cc])))) hR (.int _ _) ?_) | simp (disch := omega) only [go_sem, devV, doV, hk, Nat.reduceAdd, Nat.reduceSub, Nat.reduceMul, Nat.reduceLeDiff, Nat.reduceLT, Nat.reduceEqDiff, Int.reduceLT, Int.reduceLE, Int.reduceToNat, Int.reduceAdd, Int.reduceSub, Int.reduceMul, Int.reduceEq, Int.reduceNeg, reduceCtorEq, true_and, and_true, Int.toNat_natCast, List.getElem?_map, Option.map_some, List.length_map, List.length_take, List.length_drop, List.length_append, Nat.sub_zero, Int.toNat_zero, List.length_replicate, Bool.true_or, Bool.or_true, Bool.false_or, Bool.or_false, false_implies, implies_true]))
  refine ac1_i (cut_con d hd 3 _ (by simp (disch := omega) only [go_sem, Nat.reduceAdd, Nat.reduceSub, Nat.reduceMul, Nat.reduceLeDiff, Nat.reduceLT, Nat.reduceEqDiff, Int.reduceLT, Int.reduceLE, Int.reduceToNat, Int.reduceAdd, Int.reduceSub, Int.reduceMul, Int.reduceEq, Int.reduceNeg, reduceCtorEq, true_and, and_true, Int.toNat_natCast, List.getElem?_map, Option.map_some, List.length_map, List.length_take, List.length_drop, List.length_append, Nat.sub_zero, Int.toNat_zero, List.length_replicate, Bool.true_or, Bool.or_true, Bool.false_or, Bool.or_false, false_implies, implies_true] <;> rfl) (by simp (disch := omega) only [go_sem, Nat.reduceAdd, Nat.reduceSub, Nat.reduceMul, Nat.reduceLeDiff, Nat.reduceLT, Nat.reduceEqDiff, Int.reduceLT, Int.reduceLE, Int.reduceToNat, Int.reduceAdd, Int.reduceSub, Int.reduceMul, Int.reduceEq, Int.reduceNeg, reduceCtorEq, true_and, and_true, Int.toNat_natCast, List.getElem?_map, Option.map_some, List.length_map, List.length_take, List.length_drop, List.length_append, Nat.sub_zero, Int.toNat_zero, List.length_replicate, Bool.true_or, Bool.or_true, Bool.false_or, Bool.or_false, false_implies, implies_true]) node hcn a.s) ?_
  rintro _ ⟨g, c⟩ ⟨bl, rfl, h1, h2, h3, h4⟩
  dsimp only at h1 h2 h3 h4
  have q1 : g 1 = some ⟨[[.int .i8 4, .int .i64 a.s, .str a.b, .int .i64 a.key]], 4, 0⟩ := (h4 1 (by simp)).trans (by simp (disch := omega) only [go_sem, hk, Nat.reduceAdd, Nat.reduceSub, Nat.reduceMul, Nat.reduceLeDiff, Nat.reduceLT, Nat.reduceEqDiff, Int.reduceLT, Int.reduceLE, Int.reduceToNat, Int.reduceAdd, Int.reduceSub, Int.reduceMul, Int.reduceEq, Int.reduceNeg, reduceCtorEq, true_and, and_true, Int.toNat_natCast, List.getElem?_map, Option.map_some, List.length_map, List.length_take, List.length_drop, List.length_append, Nat.sub_zero, Int.toNat_zero, List.length_replicate, Bool.true_or, Bool.or_true, Bool.false_or, Bool.or_false, false_implies, implies_true] <;> rfl)
  have q2 : g 2 = some ⟨[[.sl [] true, .sl [] true, .sl [] true, .int .i64 0, .sl [] true]], 5, 0⟩ := (h4 2 (by simp)).trans (by simp (disch := omega) only [go_sem, Nat.reduceAdd, Nat.reduceSub, Nat.reduceMul, Nat.reduceLeDiff, Nat.reduceLT, Nat.reduceEqDiff, Int.reduceLT, Int.reduceLE, Int.reduceToNat, Int.reduceAdd, Int.reduceSub, Int.reduceMul, Int.reduceEq, Int.reduceNeg, reduceCtorEq, true_and, and_true, Int.toNat_natCast, List.getElem?_map, Option.map_some, List.length_map, List.length_take, List.length_drop, List.length_append, Nat.sub_zero, Int.toNat_zero, List.length_replicate, Bool.true_or, Bool.or_true, Bool.false_or, Bool.or_false, false_implies, implies_true] <;> rfl)
  have q3 : g 3 = some (devB d) := (h4 3 (by simp)).trans (by simp (disch := omega) only [go_sem, Nat.reduceAdd, Nat.reduceSub, Nat.reduceMul, Nat.reduceLeDiff, Nat.reduceLT, Nat.reduceEqDiff, Int.reduceLT, Int.reduceLE, Int.reduceToNat, Int.reduceAdd, Int.reduceSub, Int.reduceMul, Int.reduceEq, Int.reduceNeg, reduceCtorEq, true_and, and_true, Int.toNat_natCast, List.getElem?_map, Option.map_some, List.length_map, List.length_take, List.length_drop, List.length_append, Nat.sub_zero, Int.toNat_zero, List.length_replicate, Bool.true_or, Bool.or_true, Bool.false_or, Bool.or_false, false_implies, implies_true] <;> rfl)
  have h1' : 4 ≤ bl := Nat.le_trans (by simp) h1
  clear h4
  cases hl : d.cache[node] with
  | nil =>
    have hact : actD d node a = (d, ⟨#[]⟩) := by
      unfold actD
      simp only [hcd, hl]
      rw [if_neg (by omega), if_neg (by omega), if_neg (by omega), if_pos hk]
    rw [hact]
    rw [hl] at h3
    (repeat' (first | with_reducible (first | refine agr_d (fun hc => ?_) fun hc => ?_ | refine agr_n (fun hc => ?_) fun hc => ?_ | refine acd_d (fun hc => ?_) fun hc => ?_ | refine acd_n (fun hc => ?_) fun hc => ?_ | refine dgr_d (fun hc => ?_) fun hc => ?_ | refine dgr_n (fun hc => ?_) fun hc => ?_ | refine dl_sound _ _ [] [] [] _ _ (fun _ h => absurd h List.not_mem_nil) ?_ | refine conEnd_p (.inl rfl) ?_ | refine conEnd_p (.inr rfl) ?_) | simp (disch := omega) only [go_sem, devV, devB, doV, hk, q1, q2, q3, h3, List.length_nil, List.map_nil, Nat.reduceAdd, Nat.reduceSub, Nat.reduceMul, Nat.reduceLeDiff, Nat.reduceLT, Nat.reduceEqDiff, Int.reduceLT, Int.reduceLE, Int.reduceToNat, Int.reduceAdd, Int.reduceSub, Int.reduceMul, Int.reduceEq, Int.reduceNeg, reduceCtorEq, true_and, and_true, Int.toNat_natCast, List.getElem?_map, Option.map_some, List.length_map, List.length_take, List.length_drop, List.length_append, Nat.sub_zero, Int.toNat_zero, List.length_replicate, Bool.true_or, Bool.or_true, Bool.false_or, Bool.or_false, false_implies, implies_true]))
  | cons x r =>
    have hact : actD d node a = ({ d with s := d.s.set x.n.toNat x.t, cache := d.cache.set node r }, ⟨#[]⟩) := by
      unfold actD
      simp only [hcd, hl]
      rw [if_neg (by omega), if_neg (by omega), if_neg (by omega), if_pos hk]
    rw [hact]
    rw [hl] at h3 hmay hcl
    obtain ⟨⟨hx0, hx1, _⟩, _⟩ := (cachedB_P _ _).1 hmay 0 (by simp) (by simp)
    simp only [List.getElem_cons_zero] at hx0 hx1
    have hsset : (d.s.map txV).set x.n.toNat [.str x.t] = (d.s.set x.n.toNat x.t).map txV := by rw [List.map_set]; rfl
    rw [List.map_cons] at h3
    have hrl : r.length + 1 - 1 = r.length := rfl
    (repeat' (first | with_reducible (first | refine agr_d (fun hc => ?_) fun hc => ?_ | refine agr_n (fun hc => ?_) fun hc => ?_ | refine acd_d (fun hc => ?_) fun hc => ?_ | refine acd_n (fun hc => ?_) fun hc => ?_ | refine dgr_d (fun hc => ?_) fun hc => ?_ | refine dgr_n (fun hc => ?_) fun hc => ?_ | refine dl_sound _ _ [] [] [] _ _ (fun _ h => absurd h List.not_mem_nil) ?_) | simp (disch := omega) only [go_sem, devV, devB, doV, hk, q1, q2, q3, h3, List.length_cons, prV, Nat.reduceAdd, Nat.reduceSub, Nat.reduceMul, Nat.reduceLeDiff, Nat.reduceLT, Nat.reduceEqDiff, Int.reduceLT, Int.reduceLE, Int.reduceToNat, Int.reduceAdd, Int.reduceSub, Int.reduceMul, Int.reduceEq, Int.reduceNeg, reduceCtorEq, true_and, and_true, Int.toNat_natCast, List.getElem?_map, Option.map_some, List.length_map, List.length_take, List.length_drop, List.length_append, Nat.sub_zero, Int.toNat_zero, List.length_replicate, Bool.true_or, Bool.or_true, Bool.false_or, Bool.or_false, false_implies, implies_true]))
    refine ac1_i (write_con (.sl (d.s.map txV) false) (.sl (d.cache.map ccV) false) (.sl (d.keys.map inV) false) (.sl (d.fen.map inV) false) .nilp d.next 3 _ ?_ ?_ (d.s.map txV) (.inl ⟨false, rfl⟩) (fun r hr => by obtain ⟨p, _, rfl⟩ := List.mem_map.1 hr; rfl) (by simpa using hd.s) x hx0 (by simpa using hx1) _ _ 0 ?_ ?_ ?_) ?_
    · simp (disch := omega) only [go_sem, q3, Nat.reduceAdd, Nat.reduceSub, Nat.reduceMul, Nat.reduceLeDiff, Nat.reduceLT, Nat.reduceEqDiff, Int.reduceLT, Int.reduceLE, Int.reduceToNat, Int.reduceAdd, Int.reduceSub, Int.reduceMul, Int.reduceEq, Int.reduceNeg, reduceCtorEq, true_and, and_true, Int.toNat_natCast, List.getElem?_map, Option.map_some, List.length_map, List.length_take, List.length_drop, List.length_append, Nat.sub_zero, Int.toNat_zero, List.length_replicate, Bool.true_or, Bool.or_true, Bool.false_or, Bool.or_false, false_implies, implies_true] <;> rfl
    · first | omega | (simp (disch := omega) only [go_sem, Nat.reduceAdd, Nat.reduceSub, Nat.reduceMul, Nat.reduceLeDiff, Nat.reduceLT, Nat.reduceEqDiff, Int.reduceLT, Int.reduceLE, Int.reduceToNat, Int.reduceAdd, Int.reduceSub, Int.reduceMul, Int.reduceEq, Int.reduceNeg, reduceCtorEq, true_and, and_true, Int.toNat_natCast, List.getElem?_map, Option.map_some, List.length_map, List.length_take, List.length_drop, List.length_append, Nat.sub_zero, Int.toNat_zero, List.length_replicate, Bool.true_or, Bool.or_true, Bool.false_or, Bool.or_false, false_implies, implies_true] <;> omega)
    · simp (disch := omega) only [go_sem, Nat.reduceAdd, Nat.reduceSub, Nat.reduceMul, Nat.reduceLeDiff, Nat.reduceLT, Nat.reduceEqDiff, Int.reduceLT, Int.reduceLE, Int.reduceToNat, Int.reduceAdd, Int.reduceSub, Int.reduceMul, Int.reduceEq, Int.reduceNeg, reduceCtorEq, true_and, and_true, Int.toNat_natCast, List.getElem?_map, Option.map_some, List.length_map, List.length_take, List.length_drop, List.length_append, Nat.sub_zero, Int.toNat_zero, List.length_replicate, Bool.true_or, Bool.or_true, Bool.false_or, Bool.or_false, false_implies, implies_true] <;> rfl
    · first | omega | (simp (disch := omega) only [go_sem, Nat.reduceAdd, Nat.reduceSub, Nat.reduceMul, Nat.reduceLeDiff, Nat.reduceLT, Nat.reduceEqDiff, Int.reduceLT, Int.reduceLE, Int.reduceToNat, Int.reduceAdd, Int.reduceSub, Int.reduceMul, Int.reduceEq, Int.reduceNeg, reduceCtorEq, true_and, and_true, Int.toNat_natCast, List.getElem?_map, Option.map_some, List.length_map, List.length_take, List.length_drop, List.length_append, Nat.sub_zero, Int.toNat_zero, List.length_replicate, Bool.true_or, Bool.or_true, Bool.false_or, Bool.or_false, false_implies, implies_true] <;> omega)
    · first | omega | (simp (disch := omega) only [go_sem, Nat.reduceAdd, Nat.reduceSub, Nat.reduceMul, Nat.reduceLeDiff, Nat.reduceLT, Nat.reduceEqDiff, Int.reduceLT, Int.reduceLE, Int.reduceToNat, Int.reduceAdd, Int.reduceSub, Int.reduceMul, Int.reduceEq, Int.reduceNeg, reduceCtorEq, true_and, and_true, Int.toNat_natCast, List.getElem?_map, Option.map_some, List.length_map, List.length_take, List.length_drop, List.length_append, Nat.sub_zero, Int.toNat_zero, List.length_replicate, Bool.true_or, Bool.or_true, Bool.false_or, Bool.or_false, false_implies, implies_true] <;> omega)
    rintro _ ⟨g', c'⟩ ⟨rfl, bS, k1, k2, k3, k4, k5⟩
    dsimp only at k1 k2 k3 k4 k5
    have r2 := (k5 2 (by omega) (by omega)).trans (by simp (disch := omega) only [go_sem, q2, Nat.reduceAdd, Nat.reduceSub, Nat.reduceMul, Nat.reduceLeDiff, Nat.reduceLT, Nat.reduceEqDiff, Int.reduceLT, Int.reduceLE, Int.reduceToNat, Int.reduceAdd, Int.reduceSub, Int.reduceMul, Int.reduceEq, Int.reduceNeg, reduceCtorEq, true_and, and_true, Int.toNat_natCast, List.getElem?_map, Option.map_some, List.length_map, List.length_take, List.length_drop, List.length_append, Nat.sub_zero, Int.toNat_zero, List.length_replicate, Bool.true_or, Bool.or_true, Bool.false_or, Bool.or_false, false_implies, implies_true] <;> rfl : _ = some ⟨[[.sl [] true, .sl [] true, .sl [] true, .int .i64 0, .sl [] true]], 5, 0⟩)
    have rl := (k5 bl (by omega) (by omega)).trans (by simp (disch := omega) only [go_sem, h3, Nat.reduceAdd, Nat.reduceSub, Nat.reduceMul, Nat.reduceLeDiff, Nat.reduceLT, Nat.reduceEqDiff, Int.reduceLT, Int.reduceLE, Int.reduceToNat, Int.reduceAdd, Int.reduceSub, Int.reduceMul, Int.reduceEq, Int.reduceNeg, reduceCtorEq, true_and, and_true, Int.toNat_natCast, List.getElem?_map, Option.map_some, List.length_map, List.length_take, List.length_drop, List.length_append, Nat.sub_zero, Int.toNat_zero, List.length_replicate, Bool.true_or, Bool.or_true, Bool.false_or, Bool.or_false, false_implies, implies_true] : _ = some ⟨prV x :: r.map prV, 2, 0⟩)
    have hbS : bl < bS := by omega
    have hbc : bl < c' := by omega
    have hbS4 : 4 ≤ bS := by omega
    clear k1 k5
    rw [List.length_map] at k4
    (repeat' (first | with_reducible (first | refine agr_d (fun hc => ?_) fun hc => ?_ | refine agr_n (fun hc => ?_) fun hc => ?_ | refine acd_d (fun hc => ?_) fun hc => ?_ | refine acd_n (fun hc => ?_) fun hc => ?_ | refine dgr_d (fun hc => ?_) fun hc => ?_ | refine dgr_n (fun hc => ?_) fun hc => ?_ | refine dl_sound _ _ [] [] [] _ _ (fun _ h => absurd h List.not_mem_nil) ?_) | simp (disch := omega) only [go_sem, devV, devB, doV, hk, r2, rl, k3, k4, hsset, hrl, List.length_cons, Nat.reduceAdd, Nat.reduceSub, Nat.reduceMul, Nat.reduceLeDiff, Nat.reduceLT, Nat.reduceEqDiff, Int.reduceLT, Int.reduceLE, Int.reduceToNat, Int.reduceAdd, Int.reduceSub, Int.reduceMul, Int.reduceEq, Int.reduceNeg, reduceCtorEq, true_and, and_true, Int.toNat_natCast, List.getElem?_map, Option.map_some, List.length_map, List.length_take, List.length_drop, List.length_append, Nat.sub_zero, Int.toNat_zero, List.length_replicate, Bool.true_or, Bool.or_true, Bool.false_or, Bool.or_false, false_implies, implies_true]))
    refine ac1_i (keep_con (.bs bS 0 d.s.length d.s.length) (.sl (d.cache.map ccV) false) (.sl (d.keys.map inV) false) (.sl (d.fen.map inV) false) _ d.next 3 _ ?_ ?_ (d.cache.map ccV) (.inl ⟨false, rfl⟩) (fun r hr => by obtain ⟨p, _, rfl⟩ := List.mem_map.1 hr; rfl) (by simpa using hd.c) node (by simpa using hcn) (.inr ⟨_, _, _, _, rfl⟩)) ?_
    · simp (disch := omega) only [go_sem, k4, Nat.reduceAdd, Nat.reduceSub, Nat.reduceMul, Nat.reduceLeDiff, Nat.reduceLT, Nat.reduceEqDiff, Int.reduceLT, Int.reduceLE, Int.reduceToNat, Int.reduceAdd, Int.reduceSub, Int.reduceMul, Int.reduceEq, Int.reduceNeg, reduceCtorEq, true_and, and_true, Int.toNat_natCast, List.getElem?_map, Option.map_some, List.length_map, List.length_take, List.length_drop, List.length_append, Nat.sub_zero, Int.toNat_zero, List.length_replicate, Bool.true_or, Bool.or_true, Bool.false_or, Bool.or_false, false_implies, implies_true]
    · first | omega | (simp (disch := omega) only [go_sem, Nat.reduceAdd, Nat.reduceSub, Nat.reduceMul, Nat.reduceLeDiff, Nat.reduceLT, Nat.reduceEqDiff, Int.reduceLT, Int.reduceLE, Int.reduceToNat, Int.reduceAdd, Int.reduceSub, Int.reduceMul, Int.reduceEq, Int.reduceNeg, reduceCtorEq, true_and, and_true, Int.toNat_natCast, List.getElem?_map, Option.map_some, List.length_map, List.length_take, List.length_drop, List.length_append, Nat.sub_zero, Int.toNat_zero, List.length_replicate, Bool.true_or, Bool.or_true, Bool.false_or, Bool.or_false, false_implies, implies_true] <;> omega)
    rintro _ ⟨g3, c3⟩ ⟨rfl, bC, n1, n2, n3, n4, n5⟩
    dsimp only at n1 n2 n3 n4 n5
    rw [List.length_map] at n4
    have t2 := (n5 2 (by omega) (by omega)).trans r2
    have tS := (n5 bS (by omega) (by omega)).trans k3
    have tl := (n5 bl (by omega) (by omega)).trans rl
    have hSC : bS ≠ bC := by omega
    have hlC : bl ≠ bC := by omega
    have hC4 : 4 ≤ bC := by omega
    (repeat' (first | with_reducible (first | refine agr_d (fun hc => ?_) fun hc => ?_ | refine agr_n (fun hc => ?_) fun hc => ?_ | refine acd_d (fun hc => ?_) fun hc => ?_ | refine acd_n (fun hc => ?_) fun hc => ?_ | refine dgr_d (fun hc => ?_) fun hc => ?_ | refine dgr_n (fun hc => ?_) fun hc => ?_ | refine dl_sound _ _ [] [] [] _ _ (fun _ h => absurd h List.not_mem_nil) ?_) | simp (disch := omega) only [go_sem, devV, devB, doV, hk, t2, tS, tl, n3, n4, hsset, Nat.reduceAdd, Nat.reduceSub, Nat.reduceMul, Nat.reduceLeDiff, Nat.reduceLT, Nat.reduceEqDiff, Int.reduceLT, Int.reduceLE, Int.reduceToNat, Int.reduceAdd, Int.reduceSub, Int.reduceMul, Int.reduceEq, Int.reduceNeg, reduceCtorEq, true_and, and_true, Int.toNat_natCast, List.getElem?_map, Option.map_some, List.length_map, List.length_take, List.length_drop, List.length_append, Nat.sub_zero, Int.toNat_zero, List.length_replicate, Bool.true_or, Bool.or_true, Bool.false_or, Bool.or_false, false_implies, implies_true]))
    refine conEnd_f (.inl rfl) ?_
    simp (disch := omega) only [go_sem, t2, tS, tl, n3, n4, hsset, Nat.reduceAdd, Nat.reduceSub, Nat.reduceMul, Nat.reduceLeDiff, Nat.reduceLT, Nat.reduceEqDiff, Int.reduceLT, Int.reduceLE, Int.reduceToNat, Int.reduceAdd, Int.reduceSub, Int.reduceMul, Int.reduceEq, Int.reduceNeg, reduceCtorEq, true_and, and_true, Int.toNat_natCast, List.getElem?_map, Option.map_some, List.length_map, List.length_take, List.length_drop, List.length_append, Nat.sub_zero, Int.toNat_zero, List.length_replicate, Bool.true_or, Bool.or_true, Bool.false_or, Bool.or_false, false_implies, implies_true]
    refine ⟨mny, _, fz_tup3 (fz_dev (d := { d with s := d.s.set x.n.toNat x.t, cache := d.cache.set node r }) rfl (fz_row (sz := 1) (lk := 0) (es := (d.s.set x.n.toNat x.t).map txV) ?_ (by simp) (by have := hd.s; omega) ((plain_tx _ _).2 trivial)) (fz_cset (lk := 0) (v := .bs bl 1 r.length r.length) hd.c hcn ?_ (fz_part (lk := 0) (l := x :: r) ?_ ?_ ?_ ?_)) (.plain _ ((plain_in _ _).2 trivial)) (.plain _ ((plain_in _ _).2 trivial))) (.plain _ (.str _)) (.plain _ (.int _ _)), rfl⟩
    · simp (disch := omega) only [go_sem, tS, hsset, Nat.reduceAdd, Nat.reduceSub, Nat.reduceMul, Nat.reduceLeDiff, Nat.reduceLT, Nat.reduceEqDiff, Int.reduceLT, Int.reduceLE, Int.reduceToNat, Int.reduceAdd, Int.reduceSub, Int.reduceMul, Int.reduceEq, Int.reduceNeg, reduceCtorEq, true_and, and_true, Int.toNat_natCast, List.getElem?_map, Option.map_some, List.length_map, List.length_take, List.length_drop, List.length_append, Nat.sub_zero, Int.toNat_zero, List.length_replicate, Bool.true_or, Bool.or_true, Bool.false_or, Bool.or_false, false_implies, implies_true]
    · simp (disch := omega) only [go_sem, n3, Nat.reduceAdd, Nat.reduceSub, Nat.reduceMul, Nat.reduceLeDiff, Nat.reduceLT, Nat.reduceEqDiff, Int.reduceLT, Int.reduceLE, Int.reduceToNat, Int.reduceAdd, Int.reduceSub, Int.reduceMul, Int.reduceEq, Int.reduceNeg, reduceCtorEq, true_and, and_true, Int.toNat_natCast, List.getElem?_map, Option.map_some, List.length_map, List.length_take, List.length_drop, List.length_append, Nat.sub_zero, Int.toNat_zero, List.length_replicate, Bool.true_or, Bool.or_true, Bool.false_or, Bool.or_false, false_implies, implies_true]
    · simp (disch := omega) only [go_sem, tl, Nat.reduceAdd, Nat.reduceSub, Nat.reduceMul, Nat.reduceLeDiff, Nat.reduceLT, Nat.reduceEqDiff, Int.reduceLT, Int.reduceLE, Int.reduceToNat, Int.reduceAdd, Int.reduceSub, Int.reduceMul, Int.reduceEq, Int.reduceNeg, reduceCtorEq, true_and, and_true, Int.toNat_natCast, List.getElem?_map, Option.map_some, List.length_map, List.length_take, List.length_drop, List.length_append, Nat.sub_zero, Int.toNat_zero, List.length_replicate, Bool.true_or, Bool.or_true, Bool.false_or, Bool.or_false, false_implies, implies_true]
    · simp; omega
    · simp at hcl ⊢; omega
    · simp
end Go.Proofs.Ytllijcnbjbfabaa

namespace Go.Proofs.Ytllijcnbjbfabaa
open Go.RowKit
set_option linter.unusedSimpArgs false
set_option linter.unusedVariables false

theorem six_le (n : Nat) : (six n).map (fun x => Value.int .u8 x) = bcells (leBytes 6 n) := by
  have e : ∀ m : Nat, (((UInt8.ofNat (m % 256)).toNat : Nat) : Int) = (m : Int) % 256 := fun m => by
    rw [UInt8.toNat_ofNat']
    omega
  have d : ∀ m : Nat, ((m / 256 : Nat) : Int) = (m : Int) / 256 := fun m => by omega
  simp only [six, leBytes, bcells, List.map_cons, List.map_nil, e, d]
theorem nPut_fc (n : Int) (h0 : 0 ≤ n) (h1 : n ≤ 1099511627776) : FCon Try.prog 63 [.sl [] true, .int .i64 6, .sl [[.int .i64 n]] false] (.tup [.sl ((six n).map fun x => [.int .u8 x]) false, .int .i64 0]) := by
  have hpl : Plain (.tup [.sl ((six n).map fun x => [V.int .u8 x]) false, .int .i64 0]) := .tup _ fun x hx => by
    simp only [List.mem_cons, List.not_mem_nil, or_false] at hx
    rcases hx with rfl | rfl
    · exact .sl _ _ fun r hr x hx => by
        obtain ⟨p, _, rfl⟩ := List.mem_map.1 hr
        obtain rfl : x = .int .u8 p := by simpa using hx
        exact .int _ _
    · exact .int _ _
  refine ⟨⟨_, Try.func63, by decide, rfl⟩, fun w S vargs hS hv => ?_⟩
  obtain ⟨u1, us, rfl, e1, hv⟩ := vrs_cons hv
  obtain ⟨u2, us, rfl, e2, hv⟩ := vrs_cons hv
  obtain ⟨u3, us, rfl, e3, hv⟩ := vrs_cons hv
  obtain rfl := vrs_nil hv
  obtain rfl := vr_int e2
  obtain ⟨A1, c1, rfl, r1⟩ := vr_in (l := []) hS e1
  obtain ⟨A3, c3, rfl, r3⟩ := vr_in (l := [n]) hS e3
  have hps : putS [] 6 [n] = some (leBytes 6 n.toNat) := by
    rw [show (6 : Int) = ((6 : Nat) : Int) from rfl, putS_ok (by omega) (by omega) fun j hj => ?_]
    · simp [putAll]
    · obtain rfl : j = 0 := by simpa using hj
      simp only [List.getElem_cons_zero]
      refine decide_eq_true ?_
      have : mostW 6 = 1099511627776 := by decide
      simp [this]
      omega
  have hput := Put_any A1 A3 c1 c3 6 [] [n] w (by simp) ⟨by simp [bcells], fun h => absurd h (by simp)⟩ r3
  rw [hps] at hput
  refine hput.mono ?_
  rintro e w' ⟨v, rfl, hrow, hB⟩
  obtain ⟨m, rfl⟩ : ∃ m : Nat, n = m := ⟨n.toNat, by omega⟩
  refine ⟨_, fun g i => w.heap.size ≤ g ∧ g < w'.heap.size, rfl, hpl, .tup _ [v, .int .i64 0] rfl fun j hj hj' => ?_, fun _ _ h => h, hB⟩
  match j, hj with
  | 0, _ =>
    simp only [List.getElem_cons_zero]
    refine vr_own hrow _ (by simp [six, leBytes]) (fun r hr => by obtain ⟨p, _, rfl⟩ := List.mem_map.1 hr; rfl) (fun i hi j hj => ?_) (fun g i h3 h4 => ⟨h3, h4⟩)
    have hi' : i < (six (m : Int)).length := by simpa using hi
    have hj0 : j = 0 := by simpa using hj
    subst hj0
    refine ⟨.int .u8 (six (m : Int))[i], ?_, rfl, ?_⟩
    · rw [Nat.mul_one, Nat.add_zero, Int.toNat_natCast, ← six_le, List.getElem?_map, List.getElem?_eq_getElem hi']
      rfl
    · simp only [List.getElem_map, List.getElem_cons_zero]
      exact .int _ _
  | 1, _ => exact .int _ _
end Go.Proofs.Ytllijcnbjbfabaa

namespace Go.Proofs.Ytllijcnbjbfabaa
open Go.RowKit
set_option linter.unusedSimpArgs false
set_option linter.unusedVariables false

theorem fenceR_len (l : List Int) (k : Int) : (fenceR l k).length ≤ 2 * l.length + 1 := by
  have := fenceA_len l k l.length
  unfold fenceR
  dsimp only
  split
  · omega
  · simp; omega
theorem fzo_tup2 {st : St} {f : Nat → Nat} {a b a' b' : V} (h1 : FzO st f a a') (h2 : FzO st f b b') : FzO st f (.tup [a, b]) (.tup [a', b']) := .tup _ _ rfl fun j hj hj' => by
  match j, hj with
  | 0, _ => exact h1
  | 1, _ => exact h2
section
variable {P : Program} {ops : Array Oper} {h : FuncId} {d : Option Tmp} {l : List Oper} {fr : Fr} {st : St} {r x y : V} {b n cap sz lk : Nat} {es : List (List V)}
theorem ac1_fr1 {K : Fr → St → Prop} (hx : Plain y) (hg : st.get b = some ⟨es, sz, lk⟩) (hn : n = es.length) (hp : Plain (.sl es false)) (hc : FCon P h [.sl es false, y] r) (hk : aops P ops l (fr.put d r) st K) : ac1 P ops h [.bs b 0 n cap, y] d l fr st K := by
  subst hn
  exact ac1_fr (fun _ => es.length) (fzs_two (Fz.rows hg (Nat.le_refl _) hp) (.plain _ hx)) hc hk
theorem ac1_fr3 {K : Fr → St → Prop} (hx : Plain x) (hy : Plain y) (hg : st.get b = some ⟨es, sz, lk⟩) (hn : n = es.length) (hp : Plain (.sl es false)) (hc : FCon P h [x, y, .sl es false] r) (hk : aops P ops l (fr.put d r) st K) : ac1 P ops h [x, y, .bs b 0 n cap] d l fr st K := by
  subst hn
  exact ac1_fr (fun _ => es.length) (fzs_three (.plain _ hx) (.plain _ hy) (Fz.rows hg (Nat.le_refl _) hp)) hc hk
end
set_option maxRecDepth 100000 in
set_option maxHeartbeats 8000000 in
theorem fence_fc (l : List Int) (fl : Bool) (k : Int) (hl : l.length ≤ 1000000) : FCon Try.prog 42 [.sl (l.map inV) fl, .int .i64 k] (.sl ((fenceR l k).map inV) false) := by
  refine fcon_of_awp Try.func42 rfl mixed (by decide) rfl (by kernel_rfl) rfl ?_
  (repeat' (first | with_reducible (first | refine agr_d (fun hc => ?_) fun hc => ?_ | refine agr_n (fun hc => ?_) fun hc => ?_ | refine acd_d (fun hc => ?_) fun hc => ?_ | refine acd_n (fun hc => ?_) fun hc => ?_ | refine dgr_d (fun hc => ?_) fun hc => ?_ | refine dgr_n (fun hc => ?_) fun hc => ?_ | refine dl_sound _ _ [] [] [] _ _ (fun _ h => absurd h List.not_mem_nil) ?_) | simp (disch := omega) only [go_sem, Nat.reduceAdd, Nat.reduceSub, Nat.reduceMul, Nat.reduceLeDiff, Nat.reduceLT, Nat.reduceEqDiff, Int.reduceLT, Int.reduceLE, Int.reduceToNat, Int.reduceAdd, Int.reduceSub, Int.reduceMul, Int.reduceEq, Int.reduceNeg, reduceCtorEq, true_and, and_true, Int.toNat_natCast, List.getElem?_map, Option.map_some, List.length_map, List.length_take, List.length_drop, List.length_append, Nat.sub_zero, Int.toNat_zero, List.length_replicate, Bool.true_or, Bool.or_true, Bool.false_or, Bool.or_false, false_implies, implies_true]))
  refine awp_for l.length (fun j fr st => ∃ o dn, fenceA l k j = (o, dn) ∧ ev fr (.tmp 0) = .sl (l.map inV) fl ∧ ev fr (.tmp 1) = .int .i64 k ∧ ev fr (.tmp 7) = .int .i64 j ∧ ev fr (.tmp 6) = .bool dn ∧
    ((j = 0 ∧ ev fr (.tmp 5) = .sl [] true ∧ o = []) ∨ ∃ b, b < st.c ∧ ev fr (.tmp 5) = .bs b 0 o.length o.length ∧ st.get b = some ⟨o.map inV, 1, 0⟩)) ?_ ?_
  · refine ⟨[], false, rfl, ?_, ?_, ?_, ?_, .inl ⟨rfl, ?_, rfl⟩⟩ <;> simp (disch := omega) only [go_sem, Nat.reduceAdd, Nat.reduceSub, Nat.reduceMul, Nat.reduceLeDiff, Nat.reduceLT, Nat.reduceEqDiff, Int.reduceLT, Int.reduceLE, Int.reduceToNat, Int.reduceAdd, Int.reduceSub, Int.reduceMul, Int.reduceEq, Int.reduceNeg, reduceCtorEq, true_and, and_true, Int.toNat_natCast, List.getElem?_map, Option.map_some, List.length_map, List.length_take, List.length_drop, List.length_append, Nat.sub_zero, Int.toNat_zero, List.length_replicate, Bool.true_or, Bool.or_true, Bool.false_or, Bool.or_false, false_implies, implies_true] <;> rfl
  rintro j fr st hj ⟨o, dn, hp, h0, h1, h7, h6, h5⟩
  have hlen := fenceA_len l k j
  rw [hp] at hlen
  by_cases hlt : j < l.length
  · have hg : l[j]? = some l[j] := List.getElem?_eq_getElem hlt
    have hs : fenceA l k (j + 1) = (if k < l[j] ∧ (dn || decide (l[j] = k)) = false then (o ++ [k] ++ [l[j]], true) else (o ++ [l[j]], dn || decide (l[j] = k))) := by
      show (match l[j]? with | none => _ | some x => _) = _
      rw [hg, hp]
    clear hp
    rcases h5 with ⟨rfl, h5, rfl⟩ | ⟨b, hbc, h5, hb⟩
    · cases dn
      · (repeat' (first | with_reducible (first | refine agr_d (fun hc => ?_) fun hc => ?_ | refine agr_n (fun hc => ?_) fun hc => ?_ | refine acd_d (fun hc => ?_) fun hc => ?_ | refine acd_n (fun hc => ?_) fun hc => ?_ | refine dgr_d (fun hc => ?_) fun hc => ?_ | refine dgr_n (fun hc => ?_) fun hc => ?_ | refine dl_sound _ _ [] [] [] _ _ (fun _ h => absurd h List.not_mem_nil) ?_) | simp (disch := omega) only [go_sem, h0, h1, h7, h6, h5, hg, Nat.reduceAdd, Nat.reduceSub, Nat.reduceMul, Nat.reduceLeDiff, Nat.reduceLT, Nat.reduceEqDiff, Int.reduceLT, Int.reduceLE, Int.reduceToNat, Int.reduceAdd, Int.reduceSub, Int.reduceMul, Int.reduceEq, Int.reduceNeg, reduceCtorEq, true_and, and_true, Int.toNat_natCast, List.getElem?_map, Option.map_some, List.length_map, List.length_take, List.length_drop, List.length_append, Nat.sub_zero, Int.toNat_zero, List.length_replicate, Bool.true_or, Bool.or_true, Bool.false_or, Bool.or_false, false_implies, implies_true]))
        all_goals first | rw [if_pos (by simp; omega)] at hs | rw [if_neg (by simp; omega)] at hs
        all_goals refine ⟨1, by omega, by omega, _, _, hs, rfl, by first | (simp [hc]; done) | (simp; assumption), .inr ⟨_, ?_, bs_eq (by simp), ?_⟩⟩
        all_goals first | omega | (simp [inV, St.del_c]; done)
      · (repeat' (first | with_reducible (first | refine agr_d (fun hc => ?_) fun hc => ?_ | refine agr_n (fun hc => ?_) fun hc => ?_ | refine acd_d (fun hc => ?_) fun hc => ?_ | refine acd_n (fun hc => ?_) fun hc => ?_ | refine dgr_d (fun hc => ?_) fun hc => ?_ | refine dgr_n (fun hc => ?_) fun hc => ?_ | refine dl_sound _ _ [] [] [] _ _ (fun _ h => absurd h List.not_mem_nil) ?_) | simp (disch := omega) only [go_sem, h0, h1, h7, h6, h5, hg, Nat.reduceAdd, Nat.reduceSub, Nat.reduceMul, Nat.reduceLeDiff, Nat.reduceLT, Nat.reduceEqDiff, Int.reduceLT, Int.reduceLE, Int.reduceToNat, Int.reduceAdd, Int.reduceSub, Int.reduceMul, Int.reduceEq, Int.reduceNeg, reduceCtorEq, true_and, and_true, Int.toNat_natCast, List.getElem?_map, Option.map_some, List.length_map, List.length_take, List.length_drop, List.length_append, Nat.sub_zero, Int.toNat_zero, List.length_replicate, Bool.true_or, Bool.or_true, Bool.false_or, Bool.or_false, false_implies, implies_true]))
        all_goals rw [if_neg (by simp)] at hs
        all_goals refine ⟨1, by omega, by omega, _, _, hs, rfl, by simp, .inr ⟨_, ?_, bs_eq (by simp), ?_⟩⟩
        all_goals first | omega | (simp [inV, St.del_c]; done)
    · have ho : o.length ≤ 2 * j := hlen
      cases dn
      · (repeat' (first | with_reducible (first | refine agr_d (fun hc => ?_) fun hc => ?_ | refine agr_n (fun hc => ?_) fun hc => ?_ | refine acd_d (fun hc => ?_) fun hc => ?_ | refine acd_n (fun hc => ?_) fun hc => ?_ | refine dgr_d (fun hc => ?_) fun hc => ?_ | refine dgr_n (fun hc => ?_) fun hc => ?_ | refine dl_sound _ _ [] [] [] _ _ (fun _ h => absurd h List.not_mem_nil) ?_) | simp (disch := omega) only [go_sem, h0, h1, h7, h6, h5, hg, hb, Nat.reduceAdd, Nat.reduceSub, Nat.reduceMul, Nat.reduceLeDiff, Nat.reduceLT, Nat.reduceEqDiff, Int.reduceLT, Int.reduceLE, Int.reduceToNat, Int.reduceAdd, Int.reduceSub, Int.reduceMul, Int.reduceEq, Int.reduceNeg, reduceCtorEq, true_and, and_true, Int.toNat_natCast, List.getElem?_map, Option.map_some, List.length_map, List.length_take, List.length_drop, List.length_append, Nat.sub_zero, Int.toNat_zero, List.length_replicate, Bool.true_or, Bool.or_true, Bool.false_or, Bool.or_false, false_implies, implies_true]))
        all_goals first | rw [if_pos (by simp; omega)] at hs | rw [if_neg (by simp; omega)] at hs
        all_goals refine ⟨j + 1, by omega, by omega, _, _, hs, rfl, by first | (simp [hc]; done) | (simp; assumption), .inr ⟨_, ?_, bs_eq (by simp), ?_⟩⟩
        all_goals first | omega | (simp [inV, St.del_c]; done)
      · (repeat' (first | with_reducible (first | refine agr_d (fun hc => ?_) fun hc => ?_ | refine agr_n (fun hc => ?_) fun hc => ?_ | refine acd_d (fun hc => ?_) fun hc => ?_ | refine acd_n (fun hc => ?_) fun hc => ?_ | refine dgr_d (fun hc => ?_) fun hc => ?_ | refine dgr_n (fun hc => ?_) fun hc => ?_ | refine dl_sound _ _ [] [] [] _ _ (fun _ h => absurd h List.not_mem_nil) ?_) | simp (disch := omega) only [go_sem, h0, h1, h7, h6, h5, hg, hb, Nat.reduceAdd, Nat.reduceSub, Nat.reduceMul, Nat.reduceLeDiff, Nat.reduceLT, Nat.reduceEqDiff, Int.reduceLT, Int.reduceLE, Int.reduceToNat, Int.reduceAdd, Int.reduceSub, Int.reduceMul, Int.reduceEq, Int.reduceNeg, reduceCtorEq, true_and, and_true, Int.toNat_natCast, List.getElem?_map, Option.map_some, List.length_map, List.length_take, List.length_drop, List.length_append, Nat.sub_zero, Int.toNat_zero, List.length_replicate, Bool.true_or, Bool.or_true, Bool.false_or, Bool.or_false, false_implies, implies_true]))
        all_goals rw [if_neg (by simp)] at hs
        all_goals refine ⟨j + 1, by omega, by omega, _, _, hs, rfl, by simp, .inr ⟨_, ?_, bs_eq (by simp), ?_⟩⟩
        all_goals first | omega | (simp [inV, St.del_c]; done)
  · obtain rfl : j = l.length := by omega
    have hr : fenceR l k = if dn = true then o else o ++ [k] := by
      unfold fenceR
      rw [hp]
    rcases h5 with ⟨h00, h5, rfl⟩ | ⟨b, hbc, h5, hb⟩
    · cases dn
      · (repeat' (first | with_reducible (first | refine agr_d (fun hc => ?_) fun hc => ?_ | refine agr_n (fun hc => ?_) fun hc => ?_ | refine acd_d (fun hc => ?_) fun hc => ?_ | refine acd_n (fun hc => ?_) fun hc => ?_ | refine dgr_d (fun hc => ?_) fun hc => ?_ | refine dgr_n (fun hc => ?_) fun hc => ?_ | refine dl_sound _ _ [] [] [] _ _ (fun _ h => absurd h List.not_mem_nil) ?_) | simp (disch := omega) only [go_sem, h0, h1, h7, h6, h5, Nat.reduceAdd, Nat.reduceSub, Nat.reduceMul, Nat.reduceLeDiff, Nat.reduceLT, Nat.reduceEqDiff, Int.reduceLT, Int.reduceLE, Int.reduceToNat, Int.reduceAdd, Int.reduceSub, Int.reduceMul, Int.reduceEq, Int.reduceNeg, reduceCtorEq, true_and, and_true, Int.toNat_natCast, List.getElem?_map, Option.map_some, List.length_map, List.length_take, List.length_drop, List.length_append, Nat.sub_zero, Int.toNat_zero, List.length_replicate, Bool.true_or, Bool.or_true, Bool.false_or, Bool.or_false, false_implies, implies_true]))
        refine fconEnd_v (.inl rfl) ?_
        simp (disch := omega) only [go_sem, Nat.reduceAdd, Nat.reduceSub, Nat.reduceMul, Nat.reduceLeDiff, Nat.reduceLT, Nat.reduceEqDiff, Int.reduceLT, Int.reduceLE, Int.reduceToNat, Int.reduceAdd, Int.reduceSub, Int.reduceMul, Int.reduceEq, Int.reduceNeg, reduceCtorEq, true_and, and_true, Int.toNat_natCast, List.getElem?_map, Option.map_some, List.length_map, List.length_take, List.length_drop, List.length_append, Nat.sub_zero, Int.toNat_zero, List.length_replicate, Bool.true_or, Bool.or_true, Bool.false_or, Bool.or_false, false_implies, implies_true]
        refine fzo_end (by rw [St.get_new]; exact if_pos rfl) ?_ ?_ (by rw [hr]; rfl)
        · rfl
        · exact sc_in [k]
      · have : l = [] := List.eq_nil_of_length_eq_zero h00
        subst this
        simp [fenceA] at hp
    · have ho : o.length ≤ 2 * l.length := hlen
      cases dn
      · (repeat' (first | with_reducible (first | refine agr_d (fun hc => ?_) fun hc => ?_ | refine agr_n (fun hc => ?_) fun hc => ?_ | refine acd_d (fun hc => ?_) fun hc => ?_ | refine acd_n (fun hc => ?_) fun hc => ?_ | refine dgr_d (fun hc => ?_) fun hc => ?_ | refine dgr_n (fun hc => ?_) fun hc => ?_ | refine dl_sound _ _ [] [] [] _ _ (fun _ h => absurd h List.not_mem_nil) ?_) | simp (disch := omega) only [go_sem, h0, h1, h7, h6, h5, hb, Nat.reduceAdd, Nat.reduceSub, Nat.reduceMul, Nat.reduceLeDiff, Nat.reduceLT, Nat.reduceEqDiff, Int.reduceLT, Int.reduceLE, Int.reduceToNat, Int.reduceAdd, Int.reduceSub, Int.reduceMul, Int.reduceEq, Int.reduceNeg, reduceCtorEq, true_and, and_true, Int.toNat_natCast, List.getElem?_map, Option.map_some, List.length_map, List.length_take, List.length_drop, List.length_append, Nat.sub_zero, Int.toNat_zero, List.length_replicate, Bool.true_or, Bool.or_true, Bool.false_or, Bool.or_false, false_implies, implies_true]))
        refine fconEnd_v (.inl rfl) ?_
        simp (disch := omega) only [go_sem, Nat.reduceAdd, Nat.reduceSub, Nat.reduceMul, Nat.reduceLeDiff, Nat.reduceLT, Nat.reduceEqDiff, Int.reduceLT, Int.reduceLE, Int.reduceToNat, Int.reduceAdd, Int.reduceSub, Int.reduceMul, Int.reduceEq, Int.reduceNeg, reduceCtorEq, true_and, and_true, Int.toNat_natCast, List.getElem?_map, Option.map_some, List.length_map, List.length_take, List.length_drop, List.length_append, Nat.sub_zero, Int.toNat_zero, List.length_replicate, Bool.true_or, Bool.or_true, Bool.false_or, Bool.or_false, false_implies, implies_true]
        refine fzo_end (sz := 1) (lk := 0) (es := (o ++ [k]).map inV) (by simp [inV, St.get_new, St.del_c]) ?_ (sc_in _) (by rw [hr]; rfl)
        simp
      · (repeat' (first | with_reducible (first | refine agr_d (fun hc => ?_) fun hc => ?_ | refine agr_n (fun hc => ?_) fun hc => ?_ | refine acd_d (fun hc => ?_) fun hc => ?_ | refine acd_n (fun hc => ?_) fun hc => ?_ | refine dgr_d (fun hc => ?_) fun hc => ?_ | refine dgr_n (fun hc => ?_) fun hc => ?_ | refine dl_sound _ _ [] [] [] _ _ (fun _ h => absurd h List.not_mem_nil) ?_) | simp (disch := omega) only [go_sem, h0, h1, h7, h6, h5, hb, Nat.reduceAdd, Nat.reduceSub, Nat.reduceMul, Nat.reduceLeDiff, Nat.reduceLT, Nat.reduceEqDiff, Int.reduceLT, Int.reduceLE, Int.reduceToNat, Int.reduceAdd, Int.reduceSub, Int.reduceMul, Int.reduceEq, Int.reduceNeg, reduceCtorEq, true_and, and_true, Int.toNat_natCast, List.getElem?_map, Option.map_some, List.length_map, List.length_take, List.length_drop, List.length_append, Nat.sub_zero, Int.toNat_zero, List.length_replicate, Bool.true_or, Bool.or_true, Bool.false_or, Bool.or_false, false_implies, implies_true]))
        refine fconEnd_v (.inl rfl) ?_
        simp (disch := omega) only [go_sem, Nat.reduceAdd, Nat.reduceSub, Nat.reduceMul, Nat.reduceLeDiff, Nat.reduceLT, Nat.reduceEqDiff, Int.reduceLT, Int.reduceLE, Int.reduceToNat, Int.reduceAdd, Int.reduceSub, Int.reduceMul, Int.reduceEq, Int.reduceNeg, reduceCtorEq, true_and, and_true, Int.toNat_natCast, List.getElem?_map, Option.map_some, List.length_map, List.length_take, List.length_drop, List.length_append, Nat.sub_zero, Int.toNat_zero, List.length_replicate, Bool.true_or, Bool.or_true, Bool.false_or, Bool.or_false, false_implies, implies_true]
        refine fzo_end (es := o.map inV) (by first | exact hb | (simp; exact hb)) ?_ (sc_in _) (by rw [hr]; rfl)
        simp

set_option maxRecDepth 100000 in
set_option maxHeartbeats 4000000 in
theorem put6_fc (n : Int) (h0 : 0 ≤ n) (h1 : n ≤ 1099511627776) : FCon Try.prog 43 [.sl [] true, .int .i64 6, .sl [[.int .i64 n]] false] (.tup [.sl ((six n).map fun x => [.int .u8 x]) false, .int .i64 0]) := by
  refine fcon_of_awp Try.func43 rfl mixed (by decide) rfl (by kernel_rfl) rfl ?_
  have hm := most6_con
  have hf := fits6_con n h0 h1
  (repeat' (first | with_reducible (first | refine agr_d (fun hc => ?_) fun hc => ?_ | refine agr_n (fun hc => ?_) fun hc => ?_ | refine acd_d (fun hc => ?_) fun hc => ?_ | refine acd_n (fun hc => ?_) fun hc => ?_ | refine dgr_d (fun hc => ?_) fun hc => ?_ | refine dgr_n (fun hc => ?_) fun hc => ?_ | refine dl_sound _ _ [] [] [] _ _ (fun _ h => absurd h List.not_mem_nil) ?_ | refine dc1_p hm ?_ | refine ac1_p hm ?_ | refine dc1_p hf ?_ | refine ac1_p hf ?_ | refine awp_unroll 8 ?_) | simp (disch := omega) only [go_sem, Nat.reduceAdd, Nat.reduceSub, Nat.reduceMul, Nat.reduceLeDiff, Nat.reduceLT, Nat.reduceEqDiff, Int.reduceLT, Int.reduceLE, Int.reduceToNat, Int.reduceAdd, Int.reduceSub, Int.reduceMul, Int.reduceEq, Int.reduceNeg, reduceCtorEq, true_and, and_true, Int.toNat_natCast, List.getElem?_map, Option.map_some, List.length_map, List.length_take, List.length_drop, List.length_append, Nat.sub_zero, Int.toNat_zero, List.length_replicate, Bool.true_or, Bool.or_true, Bool.false_or, Bool.or_false, false_implies, implies_true]))
  refine fconEnd_v (.inl rfl) ?_
  simp (disch := omega) only [go_sem, wrap8, Nat.reduceAdd, Nat.reduceSub, Nat.reduceMul, Nat.reduceLeDiff, Nat.reduceLT, Nat.reduceEqDiff, Int.reduceLT, Int.reduceLE, Int.reduceToNat, Int.reduceAdd, Int.reduceSub, Int.reduceMul, Int.reduceEq, Int.reduceNeg, reduceCtorEq, true_and, and_true, Int.toNat_natCast, List.getElem?_map, Option.map_some, List.length_map, List.length_take, List.length_drop, List.length_append, Nat.sub_zero, Int.toNat_zero, List.length_replicate, Bool.true_or, Bool.or_true, Bool.false_or, Bool.or_false, false_implies, implies_true]
  refine ⟨fun _ => 6, fzo_tup2 (FzO.rows (es := (six n).map fun x => [V.int .u8 x]) (sz := 1) (lk := 0) ?_ (by simp [six]) (fun r hr x hx => ?_)) (.sc _ (.int _ _))⟩
  · rw [St.get_new]
    exact if_pos rfl
  · obtain ⟨p, _, rfl⟩ := List.mem_map.1 hr
    simp only [List.mem_cons, List.not_mem_nil, or_false] at hx
    rw [hx]
    exact .int _ _
end Go.Proofs.Ytllijcnbjbfabaa

namespace Go.Proofs.Ytllijcnbjbfabaa
open Go.RowKit
set_option linter.unusedSimpArgs false
set_option linter.unusedVariables false

set_option maxRecDepth 100000 in
set_option maxHeartbeats 16000000 in
theorem dDo_6 (d : Dev) (hd : DevOk d) (node : Nat) (a : Ac) (ha : AcOk a) (h : Done d node a) (hk : a.k = 6) : Con Try.prog 20 [devV d, .int .i64 node, acV a] (· = doV (doR d node a)) := by
  have hR := refuses_con d hd node a ha
  rw [refuseR_0 h.A h.B h.C h.D] at hR
  simp only [acV, hk] at hR
  rw [h.ok]
  have hcn := h.c
  have hn := h.n
  have hn0 := h.may.n0
  have hn1 := h.may.n1
  have hk1 := h.may.k1
  have hact : actD d node a = ({ d with keys := d.keys.set node (16 * d.next + node), next := d.next + 1, cache := d.cache.set node [] }, key6 (16 * d.next + node)) := by
    unfold actD
    dsimp only
    rw [if_neg (by omega), if_neg (by omega), if_neg (by omega), if_neg (by omega), if_neg (by omega)]
  rw [hact]
  have hnx : d.next < 68719476736 := by
    have : ¬ (68719476736 : Int) ≤ d.next := fun q => h.B (.inr (.inr ⟨hk, q⟩))
    omega
  have hkset : (d.keys.map inV).set node [V.int .i64 (16 * d.next + node)] = (d.keys.set node (16 * d.next + node)).map inV := by rw [List.map_set]; rfl
  have hkg2 : (d.keys.set node (16 * d.next + (node : Int)))[node]? = some (16 * d.next + (node : Int)) := by rw [List.getElem?_set_self hn]
  have hpq : Plain (.sl [[.int .i64 (16 * d.next + (node : Int))]] false) := (plain_in [16 * d.next + (node : Int)] false).2 trivial
  have hW := nPut_fc (16 * d.next + node) (by omega) (by omega)
  refine con_of_awp Try.func20 rfl mixed (by decide) rfl (by kernel_rfl) rfl ?_
  (repeat' (first | with_reducible (first | refine agr_d (fun hc => ?_) fun hc => ?_ | refine agr_n (fun hc => ?_) fun hc => ?_ | refine acd_d (fun hc => ?_) fun hc => ?_ | refine acd_n (fun hc => ?_) fun hc => ?_ | refine dgr_d (fun hc => ?_) fun hc => ?_ | refine dgr_n (fun hc => ?_) fun hc => ?_ | refine dl_sound _ _ [] [] [] _ _ (fun _ h => absurd h List.not_mem_nil) ?_ | refine ac1_sc mny (fzs_three (fz_tpm (sz := 5) (lk := 0) ?_ (by (simp only [List.nil_append, List.cons_append, List.append_nil, List.forall_mem_cons, List.not_mem_nil, false_implies, implies_true, and_true, true_and, plain_agg, plain_tp, plain_fn, plain_tup, plain_int, plain_bool, plain_str, plain_nilp, plain_nilfn, plain_undef, plain_dev, plain_pr, plain_tx, plain_in, plain_cc]))) (.plain _ (.int _ _)) (.plain _ (by (simp only [List.nil_append, List.cons_append, List.append_nil, List.forall_mem_cons, List.not_mem_nil, false_implies, implies_true, and_true, true_and, plain_agg, plain_tp, plain_fn, plain_tup, plain_int, plain_bool, plain_str, plain_nilp, plain_nilfn, plain_undef, plain_dev, plain_pr, plain_tx, plain_in, plain_cc])))) hR (.int _ _) ?_) | simp (disch := omega) only [go_sem, devV, doV, hk, Nat.reduceAdd, Nat.reduceSub, Nat.reduceMul, Nat.reduceLeDiff, Nat.reduceLT, Nat.reduceEqDiff, Int.reduceLT, Int.reduceLE, Int.reduceToNat, Int.reduceAdd, Int.reduceSub, Int.reduceMul, Int.reduceEq, Int.reduceNeg, reduceCtorEq, true_and, and_true, Int.toNat_natCast, List.getElem?_map, Option.map_some, List.length_map, List.length_take, List.length_drop, List.length_append, Nat.sub_zero, Int.toNat_zero, List.length_replicate, Bool.true_or, Bool.or_true, Bool.false_or, Bool.or_false, false_implies, implies_true]))
  refine ac1_i (cut_con d hd 3 _ (by simp (disch := omega) only [go_sem, Nat.reduceAdd, Nat.reduceSub, Nat.reduceMul, Nat.reduceLeDiff, Nat.reduceLT, Nat.reduceEqDiff, Int.reduceLT, Int.reduceLE, Int.reduceToNat, Int.reduceAdd, Int.reduceSub, Int.reduceMul, Int.reduceEq, Int.reduceNeg, reduceCtorEq, true_and, and_true, Int.toNat_natCast, List.getElem?_map, Option.map_some, List.length_map, List.length_take, List.length_drop, List.length_append, Nat.sub_zero, Int.toNat_zero, List.length_replicate, Bool.true_or, Bool.or_true, Bool.false_or, Bool.or_false, false_implies, implies_true] <;> rfl) (by simp (disch := omega) only [go_sem, Nat.reduceAdd, Nat.reduceSub, Nat.reduceMul, Nat.reduceLeDiff, Nat.reduceLT, Nat.reduceEqDiff, Int.reduceLT, Int.reduceLE, Int.reduceToNat, Int.reduceAdd, Int.reduceSub, Int.reduceMul, Int.reduceEq, Int.reduceNeg, reduceCtorEq, true_and, and_true, Int.toNat_natCast, List.getElem?_map, Option.map_some, List.length_map, List.length_take, List.length_drop, List.length_append, Nat.sub_zero, Int.toNat_zero, List.length_replicate, Bool.true_or, Bool.or_true, Bool.false_or, Bool.or_false, false_implies, implies_true]) node hcn a.s) ?_
  rintro _ ⟨g, c⟩ ⟨bl, rfl, h1, h2, h3, h4⟩
  dsimp only at h1 h2 h3 h4
  have q1 : g 1 = some ⟨[[.int .i8 6, .int .i64 a.s, .str a.b, .int .i64 a.key]], 4, 0⟩ := (h4 1 (by simp)).trans (by simp (disch := omega) only [go_sem, hk, Nat.reduceAdd, Nat.reduceSub, Nat.reduceMul, Nat.reduceLeDiff, Nat.reduceLT, Nat.reduceEqDiff, Int.reduceLT, Int.reduceLE, Int.reduceToNat, Int.reduceAdd, Int.reduceSub, Int.reduceMul, Int.reduceEq, Int.reduceNeg, reduceCtorEq, true_and, and_true, Int.toNat_natCast, List.getElem?_map, Option.map_some, List.length_map, List.length_take, List.length_drop, List.length_append, Nat.sub_zero, Int.toNat_zero, List.length_replicate, Bool.true_or, Bool.or_true, Bool.false_or, Bool.or_false, false_implies, implies_true] <;> rfl)
  have q2 : g 2 = some ⟨[[.sl [] true, .sl [] true, .sl [] true, .int .i64 0, .sl [] true]], 5, 0⟩ := (h4 2 (by simp)).trans (by simp (disch := omega) only [go_sem, Nat.reduceAdd, Nat.reduceSub, Nat.reduceMul, Nat.reduceLeDiff, Nat.reduceLT, Nat.reduceEqDiff, Int.reduceLT, Int.reduceLE, Int.reduceToNat, Int.reduceAdd, Int.reduceSub, Int.reduceMul, Int.reduceEq, Int.reduceNeg, reduceCtorEq, true_and, and_true, Int.toNat_natCast, List.getElem?_map, Option.map_some, List.length_map, List.length_take, List.length_drop, List.length_append, Nat.sub_zero, Int.toNat_zero, List.length_replicate, Bool.true_or, Bool.or_true, Bool.false_or, Bool.or_false, false_implies, implies_true] <;> rfl)
  have q3 : g 3 = some (devB d) := (h4 3 (by simp)).trans (by simp (disch := omega) only [go_sem, Nat.reduceAdd, Nat.reduceSub, Nat.reduceMul, Nat.reduceLeDiff, Nat.reduceLT, Nat.reduceEqDiff, Int.reduceLT, Int.reduceLE, Int.reduceToNat, Int.reduceAdd, Int.reduceSub, Int.reduceMul, Int.reduceEq, Int.reduceNeg, reduceCtorEq, true_and, and_true, Int.toNat_natCast, List.getElem?_map, Option.map_some, List.length_map, List.length_take, List.length_drop, List.length_append, Nat.sub_zero, Int.toNat_zero, List.length_replicate, Bool.true_or, Bool.or_true, Bool.false_or, Bool.or_false, false_implies, implies_true] <;> rfl)
  have h1' : 4 ≤ bl := Nat.le_trans (by simp) h1
  clear h4
  (repeat' (first | with_reducible (first | refine agr_d (fun hc => ?_) fun hc => ?_ | refine agr_n (fun hc => ?_) fun hc => ?_ | refine acd_d (fun hc => ?_) fun hc => ?_ | refine acd_n (fun hc => ?_) fun hc => ?_ | refine dgr_d (fun hc => ?_) fun hc => ?_ | refine dgr_n (fun hc => ?_) fun hc => ?_ | refine dl_sound _ _ [] [] [] _ _ (fun _ h => absurd h List.not_mem_nil) ?_) | simp (disch := omega) only [go_sem, devV, devB, doV, hk, q1, q2, q3, h3, Nat.reduceAdd, Nat.reduceSub, Nat.reduceMul, Nat.reduceLeDiff, Nat.reduceLT, Nat.reduceEqDiff, Int.reduceLT, Int.reduceLE, Int.reduceToNat, Int.reduceAdd, Int.reduceSub, Int.reduceMul, Int.reduceEq, Int.reduceNeg, reduceCtorEq, true_and, and_true, Int.toNat_natCast, List.getElem?_map, Option.map_some, List.length_map, List.length_take, List.length_drop, List.length_append, Nat.sub_zero, Int.toNat_zero, List.length_replicate, Bool.true_or, Bool.or_true, Bool.false_or, Bool.or_false, false_implies, implies_true]))
  refine ac1_i (named_con (.sl (d.s.map txV) false) (.sl (d.cache.map ccV) false) (.sl (d.keys.map inV) false) (.sl (d.fen.map inV) false) d.next (16 * d.next + node) 3 _ ?_ ?_ (d.keys.map inV) (.inl ⟨false, rfl⟩) (fun r hr => by obtain ⟨p, _, rfl⟩ := List.mem_map.1 hr; rfl) (by simpa using hd.k) node (by simpa using hn)) ?_
  · simp (disch := omega) only [go_sem, q3, Nat.reduceAdd, Nat.reduceSub, Nat.reduceMul, Nat.reduceLeDiff, Nat.reduceLT, Nat.reduceEqDiff, Int.reduceLT, Int.reduceLE, Int.reduceToNat, Int.reduceAdd, Int.reduceSub, Int.reduceMul, Int.reduceEq, Int.reduceNeg, reduceCtorEq, true_and, and_true, Int.toNat_natCast, List.getElem?_map, Option.map_some, List.length_map, List.length_take, List.length_drop, List.length_append, Nat.sub_zero, Int.toNat_zero, List.length_replicate, Bool.true_or, Bool.or_true, Bool.false_or, Bool.or_false, false_implies, implies_true] <;> rfl
  · first | omega | (simp (disch := omega) only [go_sem, Nat.reduceAdd, Nat.reduceSub, Nat.reduceMul, Nat.reduceLeDiff, Nat.reduceLT, Nat.reduceEqDiff, Int.reduceLT, Int.reduceLE, Int.reduceToNat, Int.reduceAdd, Int.reduceSub, Int.reduceMul, Int.reduceEq, Int.reduceNeg, reduceCtorEq, true_and, and_true, Int.toNat_natCast, List.getElem?_map, Option.map_some, List.length_map, List.length_take, List.length_drop, List.length_append, Nat.sub_zero, Int.toNat_zero, List.length_replicate, Bool.true_or, Bool.or_true, Bool.false_or, Bool.or_false, false_implies, implies_true] <;> omega)
  rintro _ ⟨g', c'⟩ ⟨rfl, bK, k1, k2, k3, k4, k5⟩
  dsimp only at k1 k2 k3 k4 k5
  rw [List.length_map] at k4
  rw [hkset] at k3
  have r2 := (k5 2 (by omega) (by omega)).trans (by simp (disch := omega) only [go_sem, q2, Nat.reduceAdd, Nat.reduceSub, Nat.reduceMul, Nat.reduceLeDiff, Nat.reduceLT, Nat.reduceEqDiff, Int.reduceLT, Int.reduceLE, Int.reduceToNat, Int.reduceAdd, Int.reduceSub, Int.reduceMul, Int.reduceEq, Int.reduceNeg, reduceCtorEq, true_and, and_true, Int.toNat_natCast, List.getElem?_map, Option.map_some, List.length_map, List.length_take, List.length_drop, List.length_append, Nat.sub_zero, Int.toNat_zero, List.length_replicate, Bool.true_or, Bool.or_true, Bool.false_or, Bool.or_false, false_implies, implies_true] <;> rfl : _ = some ⟨[[.sl [] true, .sl [] true, .sl [] true, .int .i64 0, .sl [] true]], 5, 0⟩)
  have hK4 : 4 ≤ bK := by omega
  clear k1 k5
  (repeat' (first | with_reducible (first | refine agr_d (fun hc => ?_) fun hc => ?_ | refine agr_n (fun hc => ?_) fun hc => ?_ | refine acd_d (fun hc => ?_) fun hc => ?_ | refine acd_n (fun hc => ?_) fun hc => ?_ | refine dgr_d (fun hc => ?_) fun hc => ?_ | refine dgr_n (fun hc => ?_) fun hc => ?_ | refine dl_sound _ _ [] [] [] _ _ (fun _ h => absurd h List.not_mem_nil) ?_) | simp (disch := omega) only [go_sem, devV, devB, doV, hk, r2, k3, k4, Nat.reduceAdd, Nat.reduceSub, Nat.reduceMul, Nat.reduceLeDiff, Nat.reduceLT, Nat.reduceEqDiff, Int.reduceLT, Int.reduceLE, Int.reduceToNat, Int.reduceAdd, Int.reduceSub, Int.reduceMul, Int.reduceEq, Int.reduceNeg, reduceCtorEq, true_and, and_true, Int.toNat_natCast, List.getElem?_map, Option.map_some, List.length_map, List.length_take, List.length_drop, List.length_append, Nat.sub_zero, Int.toNat_zero, List.length_replicate, Bool.true_or, Bool.or_true, Bool.false_or, Bool.or_false, false_implies, implies_true]))
  refine ac1_i (keep_con (.sl (d.s.map txV) false) (.sl (d.cache.map ccV) false) (.bs bK 0 d.keys.length d.keys.length) (.sl (d.fen.map inV) false) _ (d.next + 1) 3 _ ?_ ?_ (d.cache.map ccV) (.inl ⟨false, rfl⟩) (fun r hr => by obtain ⟨p, _, rfl⟩ := List.mem_map.1 hr; rfl) (by simpa using hd.c) node (by simpa using hcn) (.inl ⟨_, _, rfl⟩)) ?_
  · simp (disch := omega) only [go_sem, k4, Nat.reduceAdd, Nat.reduceSub, Nat.reduceMul, Nat.reduceLeDiff, Nat.reduceLT, Nat.reduceEqDiff, Int.reduceLT, Int.reduceLE, Int.reduceToNat, Int.reduceAdd, Int.reduceSub, Int.reduceMul, Int.reduceEq, Int.reduceNeg, reduceCtorEq, true_and, and_true, Int.toNat_natCast, List.getElem?_map, Option.map_some, List.length_map, List.length_take, List.length_drop, List.length_append, Nat.sub_zero, Int.toNat_zero, List.length_replicate, Bool.true_or, Bool.or_true, Bool.false_or, Bool.or_false, false_implies, implies_true]
  · first | omega | (simp (disch := omega) only [go_sem, Nat.reduceAdd, Nat.reduceSub, Nat.reduceMul, Nat.reduceLeDiff, Nat.reduceLT, Nat.reduceEqDiff, Int.reduceLT, Int.reduceLE, Int.reduceToNat, Int.reduceAdd, Int.reduceSub, Int.reduceMul, Int.reduceEq, Int.reduceNeg, reduceCtorEq, true_and, and_true, Int.toNat_natCast, List.getElem?_map, Option.map_some, List.length_map, List.length_take, List.length_drop, List.length_append, Nat.sub_zero, Int.toNat_zero, List.length_replicate, Bool.true_or, Bool.or_true, Bool.false_or, Bool.or_false, false_implies, implies_true] <;> omega)
  rintro _ ⟨g3, c3⟩ ⟨rfl, bC, n1, n2, n3, n4, n5⟩
  dsimp only at n1 n2 n3 n4 n5
  rw [List.length_map] at n4
  have t2 := (n5 2 (by omega) (by omega)).trans (by simp (disch := omega) only [go_sem, r2, Nat.reduceAdd, Nat.reduceSub, Nat.reduceMul, Nat.reduceLeDiff, Nat.reduceLT, Nat.reduceEqDiff, Int.reduceLT, Int.reduceLE, Int.reduceToNat, Int.reduceAdd, Int.reduceSub, Int.reduceMul, Int.reduceEq, Int.reduceNeg, reduceCtorEq, true_and, and_true, Int.toNat_natCast, List.getElem?_map, Option.map_some, List.length_map, List.length_take, List.length_drop, List.length_append, Nat.sub_zero, Int.toNat_zero, List.length_replicate, Bool.true_or, Bool.or_true, Bool.false_or, Bool.or_false, false_implies, implies_true] : _ = some ⟨[[.sl [] true, .sl [] true, .sl [] true, .int .i64 0, .sl [] true]], 5, 0⟩)
  have tK := (n5 bK (by omega) (by omega)).trans (by simp (disch := omega) only [go_sem, k3, Nat.reduceAdd, Nat.reduceSub, Nat.reduceMul, Nat.reduceLeDiff, Nat.reduceLT, Nat.reduceEqDiff, Int.reduceLT, Int.reduceLE, Int.reduceToNat, Int.reduceAdd, Int.reduceSub, Int.reduceMul, Int.reduceEq, Int.reduceNeg, reduceCtorEq, true_and, and_true, Int.toNat_natCast, List.getElem?_map, Option.map_some, List.length_map, List.length_take, List.length_drop, List.length_append, Nat.sub_zero, Int.toNat_zero, List.length_replicate, Bool.true_or, Bool.or_true, Bool.false_or, Bool.or_false, false_implies, implies_true] : _ = some ⟨(d.keys.set node (16 * d.next + (node : Int))).map inV, 1, 0⟩)
  have hKC : bK ≠ bC := by omega
  have hC4 : 4 ≤ bC := by omega
  (repeat' (first | with_reducible (first | refine agr_d (fun hc => ?_) fun hc => ?_ | refine agr_n (fun hc => ?_) fun hc => ?_ | refine acd_d (fun hc => ?_) fun hc => ?_ | refine acd_n (fun hc => ?_) fun hc => ?_ | refine dgr_d (fun hc => ?_) fun hc => ?_ | refine dgr_n (fun hc => ?_) fun hc => ?_ | refine dl_sound _ _ [] [] [] _ _ (fun _ h => absurd h List.not_mem_nil) ?_ | refine ac1_fr3 (sz := 1) (lk := 0) (.sl [] true (by simp)) (.int _ _) ?_ ?_ hpq hW ?_) | simp (disch := omega) only [go_sem, devV, devB, doV, hk, t2, tK, n3, n4, hkg2, six, bytesOf, List.length_set, Nat.reduceAdd, Nat.reduceSub, Nat.reduceMul, Nat.reduceLeDiff, Nat.reduceLT, Nat.reduceEqDiff, Int.reduceLT, Int.reduceLE, Int.reduceToNat, Int.reduceAdd, Int.reduceSub, Int.reduceMul, Int.reduceEq, Int.reduceNeg, reduceCtorEq, true_and, and_true, Int.toNat_natCast, List.getElem?_map, Option.map_some, List.length_map, List.length_take, List.length_drop, List.length_append, Nat.sub_zero, Int.toNat_zero, List.length_replicate, Bool.true_or, Bool.or_true, Bool.false_or, Bool.or_false, false_implies, implies_true]))
  refine conEnd_f (.inl rfl) ?_
  simp (disch := omega) only [go_sem, t2, tK, n3, n4, Nat.reduceAdd, Nat.reduceSub, Nat.reduceMul, Nat.reduceLeDiff, Nat.reduceLT, Nat.reduceEqDiff, Int.reduceLT, Int.reduceLE, Int.reduceToNat, Int.reduceAdd, Int.reduceSub, Int.reduceMul, Int.reduceEq, Int.reduceNeg, reduceCtorEq, true_and, and_true, Int.toNat_natCast, List.getElem?_map, Option.map_some, List.length_map, List.length_take, List.length_drop, List.length_append, Nat.sub_zero, Int.toNat_zero, List.length_replicate, Bool.true_or, Bool.or_true, Bool.false_or, Bool.or_false, false_implies, implies_true]
  refine ⟨mny, _, fz_tup3 (fz_dev (d := { d with keys := d.keys.set node (16 * d.next + node), next := d.next + 1, cache := d.cache.set node [] }) rfl (.plain _ ((plain_tx _ _).2 trivial)) (fz_cset (lk := 0) (v := .sl [] true) hd.c hcn ?_ (.weak [] true (.sl _ _ (by simp)))) (fz_row (sz := 1) (lk := 0) (es := (d.keys.set node (16 * d.next + node)).map inV) ?_ (by simp) (by have := hd.k; omega) ((plain_in _ _).2 trivial)) (.plain _ ((plain_in _ _).2 trivial))) (.plain _ (.str _)) (.plain _ (.int _ _)), rfl⟩
  · simp (disch := omega) only [go_sem, n3, Nat.reduceAdd, Nat.reduceSub, Nat.reduceMul, Nat.reduceLeDiff, Nat.reduceLT, Nat.reduceEqDiff, Int.reduceLT, Int.reduceLE, Int.reduceToNat, Int.reduceAdd, Int.reduceSub, Int.reduceMul, Int.reduceEq, Int.reduceNeg, reduceCtorEq, true_and, and_true, Int.toNat_natCast, List.getElem?_map, Option.map_some, List.length_map, List.length_take, List.length_drop, List.length_append, Nat.sub_zero, Int.toNat_zero, List.length_replicate, Bool.true_or, Bool.or_true, Bool.false_or, Bool.or_false, false_implies, implies_true]
  · simp (disch := omega) only [go_sem, tK, Nat.reduceAdd, Nat.reduceSub, Nat.reduceMul, Nat.reduceLeDiff, Nat.reduceLT, Nat.reduceEqDiff, Int.reduceLT, Int.reduceLE, Int.reduceToNat, Int.reduceAdd, Int.reduceSub, Int.reduceMul, Int.reduceEq, Int.reduceNeg, reduceCtorEq, true_and, and_true, Int.toNat_natCast, List.getElem?_map, Option.map_some, List.length_map, List.length_take, List.length_drop, List.length_append, Nat.sub_zero, Int.toNat_zero, List.length_replicate, Bool.true_or, Bool.or_true, Bool.false_or, Bool.or_false, false_implies, implies_true]
theorem refuse_done {d : Dev} {node : Nat} {a : Ac} (h : refuseR d node a = 0) : Done d node a := by
  have hA : ¬ refA d node a := fun q => by rw [refuseR_a q] at h; cases h
  have hB : ¬ refB d a := fun q => by rw [refuseR_b hA q] at h; cases h
  have hC : ¬ refC d node a := fun q => by rw [refuseR_c hA hB q] at h; cases h
  have hD : ¬ refD d a := fun q => by rw [refuseR_d hA hB hC q] at h; cases h
  have hm : MayD d := by
    refine (checkB_iff d).1 ?_
    cases hb : checkB d with
    | true => rfl
    | false => exact absurd (.inl hb) hA
  have h2 : ¬ (d.keys.length : Int) ≤ node := fun q => hA (.inr (.inr (.inl q)))
  exact ⟨hm, by omega, hA, hB, hC, hD⟩
theorem dDo_con (d : Dev) (hd : DevOk d) (node : Int) (a : Ac) (ha : AcOk a) : PCon Try.prog 20 [devV d, .int .i64 node, acV a] (doV (doR d node a)) := by
  refine ⟨?_, by (simp only [List.nil_append, List.cons_append, List.append_nil, List.forall_mem_cons, List.not_mem_nil, false_implies, implies_true, and_true, true_and, plain_agg, plain_tp, plain_fn, plain_tup, plain_int, plain_bool, plain_str, plain_nilp, plain_nilfn, plain_undef, plain_dev, plain_pr, plain_tx, plain_in, plain_cc])⟩
  by_cases h : refuseR d node a = 0
  · have hA : ¬ refA d node a := fun q => by rw [refuseR_a q] at h; cases h
    have h1 : ¬ node < 0 := fun q => hA (.inr (.inl q))
    have h3 : ¬ a.k < 1 := fun q => hA (.inr (.inr (.inr (.inl q))))
    have h4 : ¬ 6 < a.k := fun q => hA (.inr (.inr (.inr (.inr q))))
    obtain ⟨n, rfl⟩ : ∃ n : Nat, node = n := ⟨node.toNat, by omega⟩
    have hD := refuse_done h
    have h5 : a.k = 1 ∨ a.k = 2 ∨ a.k = 3 ∨ a.k = 4 ∨ a.k = 5 ∨ a.k = 6 := by omega
    rcases h5 with hk | hk | hk | hk | hk | hk
    · exact dDo_1 d hd n a ha hD hk
    · exact dDo_2 d hd n a ha hD hk
    · exact dDo_3 d hd n a ha hD hk
    · exact dDo_4 d hd n a ha hD hk
    · exact dDo_5 d hd n a ha hD hk
    · exact dDo_6 d hd n a ha hD hk
  · exact dDo_no d hd node a ha h
end Go.Proofs.Ytllijcnbjbfabaa

namespace Go.Proofs.Ytllijcnbjbfabaa
open Go.RowKit
set_option linter.unusedSimpArgs false
set_option linter.unusedVariables false

theorem set_same {α : Type} {l : List α} {i : Nat} {x : α} (h : l[i]? = some x) : l.set i x = l := by
  obtain ⟨hi, rfl⟩ := List.getElem?_eq_some_iff.1 h
  exact List.set_getElem_self hi
set_option maxRecDepth 100000 in
set_option maxHeartbeats 32000000 in
theorem Do_3 (d : Dev) (hd : DevOk d) (hm : MayD d) (node : Nat) (hn : node < d.keys.length) (a : Ac) (ha : AcOk a) (hk : a.k = 3) : Con Try.prog 12 [devV d, .int .i64 node, acV a] (· = doV (doR d node a)) := by
  have hA := notA hm hn (by omega) (by omega : a.k ≤ 6)
  have hs1 := ha.s
  have hkr := ha.key
  have hcn : node < d.cache.length := by rw [hm.c]; exact hn
  have hkg : d.keys[node]? = some d.keys[node] := List.getElem?_eq_getElem hn
  have hkd : d.keys.getD node 0 = d.keys[node] := by rw [List.getD_eq_getElem?_getD, hkg]; rfl
  have hcd : d.cache.getD node [] = d.cache[node] := by rw [List.getD_eq_getElem?_getD, List.getElem?_eq_getElem hcn]; rfl
  have hc : PCon Try.prog 36 [devV d] (.int .i64 0) := ⟨by have := Check_con d hd; rw [show chk d = 0 by unfold chk; rw [(checkB_iff d).2 hm]; rfl] at this; exact this, by (simp only [List.nil_append, List.cons_append, List.append_nil, List.forall_mem_cons, List.not_mem_nil, false_implies, implies_true, and_true, true_and, plain_agg, plain_tup, plain_int, plain_bool, plain_str, plain_nilp, plain_nilfn, plain_undef, plain_dev, plain_pr, plain_tx, plain_in, plain_cc])⟩
  have hF : Con Try.prog 38 [devV d, .sl [[.int .i64 d.keys[node]]] false] (· = .bool (fencedB d [d.keys[node]])) := Fenced_con _ _ _ _ d false false [d.keys[node]] (by have := hd.f; omega) (by simp)
  have hpd : Plain (devV d) := (plain_dev d).2 trivial
  have hpk : Plain (.sl [[.int .i64 d.keys[node]]] false) := (plain_in [d.keys[node]] false).2 trivial
  have hcl := hd.ci node hcn
  have hgc := given_c d a.key (by omega)
  refine con_of_awp Try.func12 rfl mixed (by decide) rfl (by kernel_rfl) rfl ?_
  by_cases gb : 512 < a.b.size
  · rw [refuse_b hA (.inl ⟨by omega, gb⟩)]
    (repeat' (first | with_reducible (first | refine agr_d (fun hc => ?_) fun hc => ?_ | refine agr_n (fun hc => ?_) fun hc => ?_ | refine acd_d (fun hc => ?_) fun hc => ?_ | refine acd_n (fun hc => ?_) fun hc => ?_ | refine dgr_d (fun hc => ?_) fun hc => ?_ | refine dgr_n (fun hc => ?_) fun hc => ?_ | refine dl_sound _ _ [] [] [] _ _ (fun _ h => absurd h List.not_mem_nil) ?_ | refine conEnd_p (.inl rfl) ?_ | refine conEnd_p (.inr rfl) ?_ | refine dc1_p hc ?_ | refine ac1_p hc ?_ | refine dc1_p hgc ?_ | refine ac1_p hgc ?_ | refine dc1_sc2 (sz := 1) (lk := 0) hpd ?_ ?_ hpk hF (.bool _) ?_) | simp (disch := omega) only [go_sem, devV, doV, hk, hkg, Nat.reduceAdd, Nat.reduceSub, Nat.reduceMul, Nat.reduceLeDiff, Nat.reduceLT, Nat.reduceEqDiff, Int.reduceLT, Int.reduceLE, Int.reduceToNat, Int.reduceAdd, Int.reduceSub, Int.reduceMul, Int.reduceEq, Int.reduceNeg, reduceCtorEq, true_and, and_true, Int.toNat_natCast, List.getElem?_map, Option.map_some, List.length_map, List.length_take, List.length_drop, List.length_append, Nat.sub_zero, Int.toNat_zero, List.length_replicate, Bool.true_or, Bool.or_true, Bool.false_or, Bool.or_false, false_implies, implies_true]))
  have hB : ¬ refB d a := by rintro (⟨_, h⟩ | ⟨h, _⟩ | ⟨h, _⟩) <;> omega
  have hCd : refC d node a ↔ fencedB d [d.keys[node]] = true := by
    unfold refC
    rw [Int.toNat_natCast, hkd]
    exact ⟨fun h => h.2, fun h => ⟨by omega, h⟩⟩
  cases hfb : fencedB d [d.keys[node]] with
  | true =>
    rw [hfb] at hF
    rw [refuse_c hA hB (hCd.2 hfb)]
    (repeat' (first | with_reducible (first | refine agr_d (fun hc => ?_) fun hc => ?_ | refine agr_n (fun hc => ?_) fun hc => ?_ | refine acd_d (fun hc => ?_) fun hc => ?_ | refine acd_n (fun hc => ?_) fun hc => ?_ | refine dgr_d (fun hc => ?_) fun hc => ?_ | refine dgr_n (fun hc => ?_) fun hc => ?_ | refine dl_sound _ _ [] [] [] _ _ (fun _ h => absurd h List.not_mem_nil) ?_ | refine conEnd_p (.inl rfl) ?_ | refine conEnd_p (.inr rfl) ?_ | refine dc1_p hc ?_ | refine ac1_p hc ?_ | refine dc1_p hgc ?_ | refine ac1_p hgc ?_ | refine dc1_sc2 (sz := 1) (lk := 0) hpd ?_ ?_ hpk hF (.bool _) ?_) | simp (disch := omega) only [go_sem, devV, doV, hk, hkg, Nat.reduceAdd, Nat.reduceSub, Nat.reduceMul, Nat.reduceLeDiff, Nat.reduceLT, Nat.reduceEqDiff, Int.reduceLT, Int.reduceLE, Int.reduceToNat, Int.reduceAdd, Int.reduceSub, Int.reduceMul, Int.reduceEq, Int.reduceNeg, reduceCtorEq, true_and, and_true, Int.toNat_natCast, List.getElem?_map, Option.map_some, List.length_map, List.length_take, List.length_drop, List.length_append, Nat.sub_zero, Int.toNat_zero, List.length_replicate, Bool.true_or, Bool.or_true, Bool.false_or, Bool.or_false, false_implies, implies_true]))
  | false =>
  rw [hfb] at hF
  have hC : ¬ refC d node a := by rw [hCd, hfb]; simp
  have hDd : refD d a ↔ (a.s < 0 ∨ (d.s.length : Int) ≤ a.s) := ⟨fun h => h.2, fun h => ⟨by omega, h⟩⟩
  by_cases g1 : a.s < 0
  · rw [refuse_d hA hB hC (hDd.2 (.inl g1))]
    (repeat' (first | with_reducible (first | refine agr_d (fun hc => ?_) fun hc => ?_ | refine agr_n (fun hc => ?_) fun hc => ?_ | refine acd_d (fun hc => ?_) fun hc => ?_ | refine acd_n (fun hc => ?_) fun hc => ?_ | refine dgr_d (fun hc => ?_) fun hc => ?_ | refine dgr_n (fun hc => ?_) fun hc => ?_ | refine dl_sound _ _ [] [] [] _ _ (fun _ h => absurd h List.not_mem_nil) ?_ | refine conEnd_p (.inl rfl) ?_ | refine conEnd_p (.inr rfl) ?_ | refine dc1_p hc ?_ | refine ac1_p hc ?_ | refine dc1_p hgc ?_ | refine ac1_p hgc ?_ | refine dc1_sc2 (sz := 1) (lk := 0) hpd ?_ ?_ hpk hF (.bool _) ?_) | simp (disch := omega) only [go_sem, devV, doV, hk, hkg, Nat.reduceAdd, Nat.reduceSub, Nat.reduceMul, Nat.reduceLeDiff, Nat.reduceLT, Nat.reduceEqDiff, Int.reduceLT, Int.reduceLE, Int.reduceToNat, Int.reduceAdd, Int.reduceSub, Int.reduceMul, Int.reduceEq, Int.reduceNeg, reduceCtorEq, true_and, and_true, Int.toNat_natCast, List.getElem?_map, Option.map_some, List.length_map, List.length_take, List.length_drop, List.length_append, Nat.sub_zero, Int.toNat_zero, List.length_replicate, Bool.true_or, Bool.or_true, Bool.false_or, Bool.or_false, false_implies, implies_true]))
  by_cases g2 : (d.s.length : Int) ≤ a.s
  · rw [refuse_d hA hB hC (hDd.2 (.inr g2))]
    (repeat' (first | with_reducible (first | refine agr_d (fun hc => ?_) fun hc => ?_ | refine agr_n (fun hc => ?_) fun hc => ?_ | refine acd_d (fun hc => ?_) fun hc => ?_ | refine acd_n (fun hc => ?_) fun hc => ?_ | refine dgr_d (fun hc => ?_) fun hc => ?_ | refine dgr_n (fun hc => ?_) fun hc => ?_ | refine dl_sound _ _ [] [] [] _ _ (fun _ h => absurd h List.not_mem_nil) ?_ | refine conEnd_p (.inl rfl) ?_ | refine conEnd_p (.inr rfl) ?_ | refine dc1_p hc ?_ | refine ac1_p hc ?_ | refine dc1_p hgc ?_ | refine ac1_p hgc ?_ | refine dc1_sc2 (sz := 1) (lk := 0) hpd ?_ ?_ hpk hF (.bool _) ?_) | simp (disch := omega) only [go_sem, devV, doV, hk, hkg, Nat.reduceAdd, Nat.reduceSub, Nat.reduceMul, Nat.reduceLeDiff, Nat.reduceLT, Nat.reduceEqDiff, Int.reduceLT, Int.reduceLE, Int.reduceToNat, Int.reduceAdd, Int.reduceSub, Int.reduceMul, Int.reduceEq, Int.reduceNeg, reduceCtorEq, true_and, and_true, Int.toNat_natCast, List.getElem?_map, Option.map_some, List.length_map, List.length_take, List.length_drop, List.length_append, Nat.sub_zero, Int.toNat_zero, List.length_replicate, Bool.true_or, Bool.or_true, Bool.false_or, Bool.or_false, false_implies, implies_true]))
  have hD : ¬ refD d a := by rw [hDd]; omega
  have hsl : a.s.toNat < d.s.length := by omega
  have hsg : d.s[a.s.toNat]? = some d.s[a.s.toNat] := List.getElem?_eq_getElem hsl
  rw [do_ok hA hB hC hD]
  (repeat' (first | with_reducible (first | refine agr_d (fun hc => ?_) fun hc => ?_ | refine agr_n (fun hc => ?_) fun hc => ?_ | refine acd_d (fun hc => ?_) fun hc => ?_ | refine acd_n (fun hc => ?_) fun hc => ?_ | refine dgr_d (fun hc => ?_) fun hc => ?_ | refine dgr_n (fun hc => ?_) fun hc => ?_ | refine dl_sound _ _ [] [] [] _ _ (fun _ h => absurd h List.not_mem_nil) ?_ | refine dc1_p hc ?_ | refine ac1_p hc ?_ | refine dc1_p hgc ?_ | refine ac1_p hgc ?_ | refine dc1_sc2 (sz := 1) (lk := 0) hpd ?_ ?_ hpk hF (.bool _) ?_) | simp (disch := omega) only [go_sem, devV, doV, hk, hkg, Nat.reduceAdd, Nat.reduceSub, Nat.reduceMul, Nat.reduceLeDiff, Nat.reduceLT, Nat.reduceEqDiff, Int.reduceLT, Int.reduceLE, Int.reduceToNat, Int.reduceAdd, Int.reduceSub, Int.reduceMul, Int.reduceEq, Int.reduceNeg, reduceCtorEq, true_and, and_true, Int.toNat_natCast, List.getElem?_map, Option.map_some, List.length_map, List.length_take, List.length_drop, List.length_append, Nat.sub_zero, Int.toNat_zero, List.length_replicate, Bool.true_or, Bool.or_true, Bool.false_or, Bool.or_false, false_implies, implies_true]))
  refine ac1_i (copied_con d hd (by omega) _) ?_
  rintro _ ⟨g, c⟩ ⟨bS, bK, bF, bC, bc, rfl, HF, hold⟩
  obtain ⟨o1, o2, o3, o4, o5, o6, o7, hS, hK, hFn, hC1, hci⟩ := HF
  have o4n := o4 node hcn
  have hcin := hci node hcn
  have hcr := cRows_at (bc := bc) hcn
  dsimp only at o1 o7 hS hK hFn hC1 hci hold hcin
  have o1' : 3 ≤ bS := Nat.le_trans (by simp) o1
  have q0 : g 0 = some (devB d) := (hold 0 (by simp)).trans (by simp (disch := omega) only [go_sem, Nat.reduceAdd, Nat.reduceSub, Nat.reduceMul, Nat.reduceLeDiff, Nat.reduceLT, Nat.reduceEqDiff, Int.reduceLT, Int.reduceLE, Int.reduceToNat, Int.reduceAdd, Int.reduceSub, Int.reduceMul, Int.reduceEq, Int.reduceNeg, reduceCtorEq, true_and, and_true, Int.toNat_natCast, List.getElem?_map, Option.map_some, List.length_map, List.length_take, List.length_drop, List.length_append, Nat.sub_zero, Int.toNat_zero, List.length_replicate, Bool.true_or, Bool.or_true, Bool.false_or, Bool.or_false, false_implies, implies_true] <;> rfl)
  have q1 : g 1 = some ⟨[[.int .i8 3, .int .i64 a.s, .str a.b, .int .i64 a.key]], 4, 0⟩ := (hold 1 (by simp)).trans (by simp (disch := omega) only [go_sem, hk, Nat.reduceAdd, Nat.reduceSub, Nat.reduceMul, Nat.reduceLeDiff, Nat.reduceLT, Nat.reduceEqDiff, Int.reduceLT, Int.reduceLE, Int.reduceToNat, Int.reduceAdd, Int.reduceSub, Int.reduceMul, Int.reduceEq, Int.reduceNeg, reduceCtorEq, true_and, and_true, Int.toNat_natCast, List.getElem?_map, Option.map_some, List.length_map, List.length_take, List.length_drop, List.length_append, Nat.sub_zero, Int.toNat_zero, List.length_replicate, Bool.true_or, Bool.or_true, Bool.false_or, Bool.or_false, false_implies, implies_true] <;> rfl)
  have q2 : g 2 = some ⟨[[.sl [] true, .sl [] true, .sl [] true, .int .i64 0, .sl [] true]], 5, 0⟩ := (hold 2 (by simp)).trans (by simp (disch := omega) only [go_sem, Nat.reduceAdd, Nat.reduceSub, Nat.reduceMul, Nat.reduceLeDiff, Nat.reduceLT, Nat.reduceEqDiff, Int.reduceLT, Int.reduceLE, Int.reduceToNat, Int.reduceAdd, Int.reduceSub, Int.reduceMul, Int.reduceEq, Int.reduceNeg, reduceCtorEq, true_and, and_true, Int.toNat_natCast, List.getElem?_map, Option.map_some, List.length_map, List.length_take, List.length_drop, List.length_append, Nat.sub_zero, Int.toNat_zero, List.length_replicate, Bool.true_or, Bool.or_true, Bool.false_or, Bool.or_false, false_implies, implies_true] <;> rfl)
  clear hold o1
  have hP := place_con d.cache[node] false a.s (by omega)
  have hpl : Plain (.sl (d.cache[node].map prV) false) := (plain_pr _ _).2 trivial
  cases hpn : placeN d.cache[node] a.s with
  | none =>
    rw [placeR, hpn] at hP
    have hap : d.cache[node].map prV ++ [[V.int .i64 a.s, V.str a.b]] = (d.cache[node] ++ [(⟨a.s, a.b⟩ : Pr)]).map prV := by simp [prV]
    (repeat' (first | with_reducible (first | refine agr_d (fun hc => ?_) fun hc => ?_ | refine agr_n (fun hc => ?_) fun hc => ?_ | refine acd_d (fun hc => ?_) fun hc => ?_ | refine acd_n (fun hc => ?_) fun hc => ?_ | refine dgr_d (fun hc => ?_) fun hc => ?_ | refine dgr_n (fun hc => ?_) fun hc => ?_ | refine dl_sound _ _ [] [] [] _ _ (fun _ h => absurd h List.not_mem_nil) ?_ | refine ac1_sc1 (sz := 2) (lk := 0) (.int _ _) ?_ ?_ hpl hP (.int _ _) ?_) | simp (disch := omega) only [go_sem, freshV, hk, hsg, q0, q1, q2, hS, hK, hFn, hC1, hcin, hcr, hap, cRows_len, Nat.reduceAdd, Nat.reduceSub, Nat.reduceMul, Nat.reduceLeDiff, Nat.reduceLT, Nat.reduceEqDiff, Int.reduceLT, Int.reduceLE, Int.reduceToNat, Int.reduceAdd, Int.reduceSub, Int.reduceMul, Int.reduceEq, Int.reduceNeg, reduceCtorEq, true_and, and_true, Int.toNat_natCast, List.getElem?_map, Option.map_some, List.length_map, List.length_take, List.length_drop, List.length_append, Nat.sub_zero, Int.toNat_zero, List.length_replicate, Bool.true_or, Bool.or_true, Bool.false_or, Bool.or_false, false_implies, implies_true]))
    refine conEnd_f (.inl rfl) ?_
    simp (disch := omega) only [go_sem, hS, hK, hFn, hC1, hcin, hap, Nat.reduceAdd, Nat.reduceSub, Nat.reduceMul, Nat.reduceLeDiff, Nat.reduceLT, Nat.reduceEqDiff, Int.reduceLT, Int.reduceLE, Int.reduceToNat, Int.reduceAdd, Int.reduceSub, Int.reduceMul, Int.reduceEq, Int.reduceNeg, reduceCtorEq, true_and, and_true, Int.toNat_natCast, List.getElem?_map, Option.map_some, List.length_map, List.length_take, List.length_drop, List.length_append, Nat.sub_zero, Int.toNat_zero, List.length_replicate, Bool.true_or, Bool.or_true, Bool.false_or, Bool.or_false, false_implies, implies_true]
    have hact : actD d node a = ({ d with cache := d.cache.set node (d.cache[node] ++ [(⟨a.s, a.b⟩ : Pr)]) }, ⟨#[]⟩) := by
      unfold actD
      dsimp only
      rw [if_neg (by omega), if_neg (by omega), if_pos hk, hcd, hpn]
    rw [hact]
    refine ⟨mny, _, fz_tup3 (fz_dev (d := { d with cache := d.cache.set node (d.cache[node] ++ [(⟨a.s, a.b⟩ : Pr)]) }) rfl (fz_row (sz := 1) (lk := 0) (es := d.s.map txV) ?_ (by simp) (by have := hd.s; omega) ((plain_tx _ _).2 trivial)) (fz_caches1 (lk := 0) (bc := bc) hd hcn ?_ (fun i h hne => ?_) (fz_row (b := c + 1 + 1 + 10) (n := d.cache[node].length + 1) (cap := d.cache[node].length + 1) (sz := 2) (lk := 0) (es := (d.cache[node] ++ [(⟨a.s, a.b⟩ : Pr)]).map prV) ?_ (by simp) (by omega) ((plain_pr _ _).2 trivial))) (fz_row (sz := 1) (lk := 0) (es := d.keys.map inV) ?_ (by simp) (by have := hd.k; omega) ((plain_in _ _).2 trivial)) (fz_row (sz := 1) (lk := 0) (es := d.fen.map inV) ?_ (by simp) (by have := hd.f; omega) ((plain_in _ _).2 trivial))) (.plain _ (.str _)) (.plain _ (.int _ _)), rfl⟩
    all_goals first | (simp (disch := omega) only [go_sem, hS, hK, hFn, hC1, hcin, hap, Nat.reduceAdd, Nat.reduceSub, Nat.reduceMul, Nat.reduceLeDiff, Nat.reduceLT, Nat.reduceEqDiff, Int.reduceLT, Int.reduceLE, Int.reduceToNat, Int.reduceAdd, Int.reduceSub, Int.reduceMul, Int.reduceEq, Int.reduceNeg, reduceCtorEq, true_and, and_true, Int.toNat_natCast, List.getElem?_map, Option.map_some, List.length_map, List.length_take, List.length_drop, List.length_append, Nat.sub_zero, Int.toNat_zero, List.length_replicate, Bool.true_or, Bool.or_true, Bool.false_or, Bool.or_false, false_implies, implies_true]; done) | (have := o4 i h; have := hci i h; simp (disch := omega) only [go_sem, this, Nat.reduceAdd, Nat.reduceSub, Nat.reduceMul, Nat.reduceLeDiff, Nat.reduceLT, Nat.reduceEqDiff, Int.reduceLT, Int.reduceLE, Int.reduceToNat, Int.reduceAdd, Int.reduceSub, Int.reduceMul, Int.reduceEq, Int.reduceNeg, reduceCtorEq, true_and, and_true, Int.toNat_natCast, List.getElem?_map, Option.map_some, List.length_map, List.length_take, List.length_drop, List.length_append, Nat.sub_zero, Int.toNat_zero, List.length_replicate, Bool.true_or, Bool.or_true, Bool.false_or, Bool.or_false, false_implies, implies_true]; done) | (have := o4 i h; have := hci i h; have : bc i ≠ bc node := (by rcases Nat.lt_or_gt_of_ne hne with h1 | h1 <;> first | exact Nat.ne_of_lt (o5 _ _ h1 hcn) | exact Nat.ne_of_gt (o5 _ _ h1 h)); simp (disch := omega) only [go_sem, hci i h, Nat.reduceAdd, Nat.reduceSub, Nat.reduceMul, Nat.reduceLeDiff, Nat.reduceLT, Nat.reduceEqDiff, Int.reduceLT, Int.reduceLE, Int.reduceToNat, Int.reduceAdd, Int.reduceSub, Int.reduceMul, Int.reduceEq, Int.reduceNeg, reduceCtorEq, true_and, and_true, Int.toNat_natCast, List.getElem?_map, Option.map_some, List.length_map, List.length_take, List.length_drop, List.length_append, Nat.sub_zero, Int.toNat_zero, List.length_replicate, Bool.true_or, Bool.or_true, Bool.false_or, Bool.or_false, false_implies, implies_true]; done) | skip
  | some q =>
    obtain ⟨hq, hqs⟩ := placeN_lt hpn
    have hqg : d.cache[node][q]? = some d.cache[node][q] := List.getElem?_eq_getElem hq
    rw [placeR, hpn] at hP
    have hset : (d.cache[node].map prV).set q [V.int .i64 d.cache[node][q].n, V.str a.b] = (d.cache[node].set q (⟨a.s, a.b⟩ : Pr)).map prV := by rw [List.map_set, hqs]; rfl
    have hself : (cRows d bc d.cache.length).set node [V.bs (bc node) 0 d.cache[node].length d.cache[node].length] = cRows d bc d.cache.length := set_same hcr
    (repeat' (first | with_reducible (first | refine agr_d (fun hc => ?_) fun hc => ?_ | refine agr_n (fun hc => ?_) fun hc => ?_ | refine acd_d (fun hc => ?_) fun hc => ?_ | refine acd_n (fun hc => ?_) fun hc => ?_ | refine dgr_d (fun hc => ?_) fun hc => ?_ | refine dgr_n (fun hc => ?_) fun hc => ?_ | refine dl_sound _ _ [] [] [] _ _ (fun _ h => absurd h List.not_mem_nil) ?_ | refine ac1_sc1 (sz := 2) (lk := 0) (.int _ _) ?_ ?_ hpl hP (.int _ _) ?_) | simp (disch := omega) only [go_sem, freshV, hk, hsg, q0, q1, q2, hS, hK, hFn, hC1, hcin, hcr, hset, hqg, cRows_len, Nat.reduceAdd, Nat.reduceSub, Nat.reduceMul, Nat.reduceLeDiff, Nat.reduceLT, Nat.reduceEqDiff, Int.reduceLT, Int.reduceLE, Int.reduceToNat, Int.reduceAdd, Int.reduceSub, Int.reduceMul, Int.reduceEq, Int.reduceNeg, reduceCtorEq, true_and, and_true, Int.toNat_natCast, List.getElem?_map, Option.map_some, List.length_map, List.length_take, List.length_drop, List.length_append, Nat.sub_zero, Int.toNat_zero, List.length_replicate, Bool.true_or, Bool.or_true, Bool.false_or, Bool.or_false, false_implies, implies_true]))
    refine conEnd_f (.inl rfl) ?_
    simp (disch := omega) only [go_sem, hS, hK, hFn, hC1, hcin, hset, hself, Nat.reduceAdd, Nat.reduceSub, Nat.reduceMul, Nat.reduceLeDiff, Nat.reduceLT, Nat.reduceEqDiff, Int.reduceLT, Int.reduceLE, Int.reduceToNat, Int.reduceAdd, Int.reduceSub, Int.reduceMul, Int.reduceEq, Int.reduceNeg, reduceCtorEq, true_and, and_true, Int.toNat_natCast, List.getElem?_map, Option.map_some, List.length_map, List.length_take, List.length_drop, List.length_append, Nat.sub_zero, Int.toNat_zero, List.length_replicate, Bool.true_or, Bool.or_true, Bool.false_or, Bool.or_false, false_implies, implies_true]
    have hact : actD d node a = ({ d with cache := d.cache.set node (d.cache[node].set q (⟨a.s, a.b⟩ : Pr)) }, ⟨#[]⟩) := by
      unfold actD
      dsimp only
      rw [if_neg (by omega), if_neg (by omega), if_pos hk, hcd, hpn]
    rw [hact]
    refine ⟨mny, _, fz_tup3 (fz_dev (d := { d with cache := d.cache.set node (d.cache[node].set q (⟨a.s, a.b⟩ : Pr)) }) rfl (fz_row (sz := 1) (lk := 0) (es := d.s.map txV) ?_ (by simp) (by have := hd.s; omega) ((plain_tx _ _).2 trivial)) (fz_caches1 (lk := 0) (bc := bc) hd hcn ?_ (fun i h hne => ?_) (fz_row (n := d.cache[node].length) (cap := d.cache[node].length) (b := bc node) (sz := 2) (lk := 0) (es := (d.cache[node].set q (⟨a.s, a.b⟩ : Pr)).map prV) ?_ (by simp) (by omega) ((plain_pr _ _).2 trivial))) (fz_row (sz := 1) (lk := 0) (es := d.keys.map inV) ?_ (by simp) (by have := hd.k; omega) ((plain_in _ _).2 trivial)) (fz_row (sz := 1) (lk := 0) (es := d.fen.map inV) ?_ (by simp) (by have := hd.f; omega) ((plain_in _ _).2 trivial))) (.plain _ (.str _)) (.plain _ (.int _ _)), rfl⟩
    all_goals first | (simp (disch := omega) only [go_sem, hS, hK, hFn, hC1, hcin, hset, hself, Nat.reduceAdd, Nat.reduceSub, Nat.reduceMul, Nat.reduceLeDiff, Nat.reduceLT, Nat.reduceEqDiff, Int.reduceLT, Int.reduceLE, Int.reduceToNat, Int.reduceAdd, Int.reduceSub, Int.reduceMul, Int.reduceEq, Int.reduceNeg, reduceCtorEq, true_and, and_true, Int.toNat_natCast, List.getElem?_map, Option.map_some, List.length_map, List.length_take, List.length_drop, List.length_append, Nat.sub_zero, Int.toNat_zero, List.length_replicate, Bool.true_or, Bool.or_true, Bool.false_or, Bool.or_false, false_implies, implies_true]; done) | (have := o4 i h; have := hci i h; simp (disch := omega) only [go_sem, this, Nat.reduceAdd, Nat.reduceSub, Nat.reduceMul, Nat.reduceLeDiff, Nat.reduceLT, Nat.reduceEqDiff, Int.reduceLT, Int.reduceLE, Int.reduceToNat, Int.reduceAdd, Int.reduceSub, Int.reduceMul, Int.reduceEq, Int.reduceNeg, reduceCtorEq, true_and, and_true, Int.toNat_natCast, List.getElem?_map, Option.map_some, List.length_map, List.length_take, List.length_drop, List.length_append, Nat.sub_zero, Int.toNat_zero, List.length_replicate, Bool.true_or, Bool.or_true, Bool.false_or, Bool.or_false, false_implies, implies_true]; done) | (have := o4 i h; have := hci i h; have : bc i ≠ bc node := (by rcases Nat.lt_or_gt_of_ne hne with h1 | h1 <;> first | exact Nat.ne_of_lt (o5 _ _ h1 hcn) | exact Nat.ne_of_gt (o5 _ _ h1 h)); simp (disch := omega) only [go_sem, hci i h, Nat.reduceAdd, Nat.reduceSub, Nat.reduceMul, Nat.reduceLeDiff, Nat.reduceLT, Nat.reduceEqDiff, Int.reduceLT, Int.reduceLE, Int.reduceToNat, Int.reduceAdd, Int.reduceSub, Int.reduceMul, Int.reduceEq, Int.reduceNeg, reduceCtorEq, true_and, and_true, Int.toNat_natCast, List.getElem?_map, Option.map_some, List.length_map, List.length_take, List.length_drop, List.length_append, Nat.sub_zero, Int.toNat_zero, List.length_replicate, Bool.true_or, Bool.or_true, Bool.false_or, Bool.or_false, false_implies, implies_true]; done) | skip
end Go.Proofs.Ytllijcnbjbfabaa

namespace Go.Proofs.Ytllijcnbjbfabaa
open Go.RowKit
set_option linter.unusedSimpArgs false
set_option linter.unusedVariables false

def badN (d : Dev) (node : Int) : Prop := checkB d = false ∨ node < 0 ∨ (d.keys.length : Int) ≤ node
instance (d : Dev) (node : Int) : Decidable (badN d node) := by unfold badN; exact inferInstance
def startR (d : Dev) (node : Int) : Dev × Int := if badN d node then (d, 2) else ({ d with cache := d.cache.set node.toNat [], keys := d.keys.set node.toNat 0 }, 0)
abbrev pairV (p : Dev × Int) : V := .tup [devV p.1, .int .i64 p.2]
theorem badN_split {d : Dev} {node : Int} (h : ¬ badN d node) : ∃ n : Nat, node = n ∧ n < d.keys.length ∧ MayD d := by
  have hm : MayD d := by
    refine (checkB_iff d).1 ?_
    cases hb : checkB d with
    | true => rfl
    | false => exact absurd (.inl hb) h
  have h1 : ¬ node < 0 := fun h' => h (.inr (.inl h'))
  have h2 : ¬ (d.keys.length : Int) ≤ node := fun h' => h (.inr (.inr h'))
  exact ⟨node.toNat, by omega, by omega, hm⟩
set_option maxRecDepth 100000 in
set_option maxHeartbeats 16000000 in
theorem Start_con (d : Dev) (hd : DevOk d) (node : Int) : PCon Try.prog 64 [devV d, .int .i64 node] (pairV (startR d node)) := by
  refine ⟨?_, by (simp only [List.nil_append, List.cons_append, List.append_nil, List.forall_mem_cons, List.not_mem_nil, false_implies, implies_true, and_true, true_and, plain_agg, plain_tup, plain_int, plain_bool, plain_str, plain_nilp, plain_nilfn, plain_undef, plain_dev, plain_pr, plain_tx, plain_in, plain_cc])⟩
  refine con_of_awp Try.func64 rfl mixed (by decide) rfl (by kernel_rfl) rfl ?_
  have hc : PCon Try.prog 36 [devV d] (.int .i64 (chk d)) := ⟨Check_con d hd, by (simp only [List.nil_append, List.cons_append, List.append_nil, List.forall_mem_cons, List.not_mem_nil, false_implies, implies_true, and_true, true_and, plain_agg, plain_tup, plain_int, plain_bool, plain_str, plain_nilp, plain_nilfn, plain_undef, plain_dev, plain_pr, plain_tx, plain_in, plain_cc])⟩
  by_cases hbad : badN d node
  · rw [show startR d node = (d, 2) from if_pos hbad]
    cases hb : checkB d with
    | false =>
      rw [show chk d = 2 by unfold chk; rw [hb]; rfl] at hc
      (repeat' (first | with_reducible (first | refine agr_d (fun hc => ?_) fun hc => ?_ | refine agr_n (fun hc => ?_) fun hc => ?_ | refine acd_d (fun hc => ?_) fun hc => ?_ | refine acd_n (fun hc => ?_) fun hc => ?_ | refine dgr_d (fun hc => ?_) fun hc => ?_ | refine dgr_n (fun hc => ?_) fun hc => ?_ | refine dl_sound _ _ [] [] [] _ _ (fun _ h => absurd h List.not_mem_nil) ?_ | refine conEnd_p (.inl rfl) ?_ | refine conEnd_p (.inr rfl) ?_ | refine dc1_p hc ?_ | refine ac1_p hc ?_) | simp (disch := omega) only [go_sem, devV, pairV, Nat.reduceAdd, Nat.reduceSub, Nat.reduceMul, Nat.reduceLeDiff, Nat.reduceLT, Nat.reduceEqDiff, Int.reduceLT, Int.reduceLE, Int.reduceToNat, Int.reduceAdd, Int.reduceSub, Int.reduceMul, Int.reduceEq, Int.reduceNeg, reduceCtorEq, true_and, and_true, Int.toNat_natCast, List.getElem?_map, Option.map_some, List.length_map, List.length_take, List.length_drop, List.length_append, Nat.sub_zero, Int.toNat_zero, List.length_replicate, Bool.true_or, Bool.or_true, Bool.false_or, Bool.or_false, false_implies, implies_true]))
    | true =>
      rw [show chk d = 0 by unfold chk; rw [hb]; rfl] at hc
      by_cases g1 : node < 0
      · (repeat' (first | with_reducible (first | refine agr_d (fun hc => ?_) fun hc => ?_ | refine agr_n (fun hc => ?_) fun hc => ?_ | refine acd_d (fun hc => ?_) fun hc => ?_ | refine acd_n (fun hc => ?_) fun hc => ?_ | refine dgr_d (fun hc => ?_) fun hc => ?_ | refine dgr_n (fun hc => ?_) fun hc => ?_ | refine dl_sound _ _ [] [] [] _ _ (fun _ h => absurd h List.not_mem_nil) ?_ | refine conEnd_p (.inl rfl) ?_ | refine conEnd_p (.inr rfl) ?_ | refine dc1_p hc ?_ | refine ac1_p hc ?_) | simp (disch := omega) only [go_sem, devV, pairV, Nat.reduceAdd, Nat.reduceSub, Nat.reduceMul, Nat.reduceLeDiff, Nat.reduceLT, Nat.reduceEqDiff, Int.reduceLT, Int.reduceLE, Int.reduceToNat, Int.reduceAdd, Int.reduceSub, Int.reduceMul, Int.reduceEq, Int.reduceNeg, reduceCtorEq, true_and, and_true, Int.toNat_natCast, List.getElem?_map, Option.map_some, List.length_map, List.length_take, List.length_drop, List.length_append, Nat.sub_zero, Int.toNat_zero, List.length_replicate, Bool.true_or, Bool.or_true, Bool.false_or, Bool.or_false, false_implies, implies_true]))
      by_cases g2 : (d.keys.length : Int) ≤ node
      · (repeat' (first | with_reducible (first | refine agr_d (fun hc => ?_) fun hc => ?_ | refine agr_n (fun hc => ?_) fun hc => ?_ | refine acd_d (fun hc => ?_) fun hc => ?_ | refine acd_n (fun hc => ?_) fun hc => ?_ | refine dgr_d (fun hc => ?_) fun hc => ?_ | refine dgr_n (fun hc => ?_) fun hc => ?_ | refine dl_sound _ _ [] [] [] _ _ (fun _ h => absurd h List.not_mem_nil) ?_ | refine conEnd_p (.inl rfl) ?_ | refine conEnd_p (.inr rfl) ?_ | refine dc1_p hc ?_ | refine ac1_p hc ?_) | simp (disch := omega) only [go_sem, devV, pairV, Nat.reduceAdd, Nat.reduceSub, Nat.reduceMul, Nat.reduceLeDiff, Nat.reduceLT, Nat.reduceEqDiff, Int.reduceLT, Int.reduceLE, Int.reduceToNat, Int.reduceAdd, Int.reduceSub, Int.reduceMul, Int.reduceEq, Int.reduceNeg, reduceCtorEq, true_and, and_true, Int.toNat_natCast, List.getElem?_map, Option.map_some, List.length_map, List.length_take, List.length_drop, List.length_append, Nat.sub_zero, Int.toNat_zero, List.length_replicate, Bool.true_or, Bool.or_true, Bool.false_or, Bool.or_false, false_implies, implies_true]))
      rcases hbad with h | h | h
      · rw [hb] at h; cases h
      · omega
      · omega
  have hbs := badN_split hbad
  rw [show startR d node = _ from if_neg hbad]
  obtain ⟨node, rfl, hn, hm⟩ := hbs
  rw [Int.toNat_natCast]
  have hcn : node < d.cache.length := by rw [hm.c]; exact hn
  have hkg : d.keys[node]? = some d.keys[node] := List.getElem?_eq_getElem hn
  rw [show chk d = 0 by unfold chk; rw [(checkB_iff d).2 hm]; rfl] at hc
  (repeat' (first | with_reducible (first | refine agr_d (fun hc => ?_) fun hc => ?_ | refine agr_n (fun hc => ?_) fun hc => ?_ | refine acd_d (fun hc => ?_) fun hc => ?_ | refine acd_n (fun hc => ?_) fun hc => ?_ | refine dgr_d (fun hc => ?_) fun hc => ?_ | refine dgr_n (fun hc => ?_) fun hc => ?_ | refine dl_sound _ _ [] [] [] _ _ (fun _ h => absurd h List.not_mem_nil) ?_ | refine dc1_p hc ?_ | refine ac1_p hc ?_) | simp (disch := omega) only [go_sem, devV, pairV, Nat.reduceAdd, Nat.reduceSub, Nat.reduceMul, Nat.reduceLeDiff, Nat.reduceLT, Nat.reduceEqDiff, Int.reduceLT, Int.reduceLE, Int.reduceToNat, Int.reduceAdd, Int.reduceSub, Int.reduceMul, Int.reduceEq, Int.reduceNeg, reduceCtorEq, true_and, and_true, Int.toNat_natCast, List.getElem?_map, Option.map_some, List.length_map, List.length_take, List.length_drop, List.length_append, Nat.sub_zero, Int.toNat_zero, List.length_replicate, Bool.true_or, Bool.or_true, Bool.false_or, Bool.or_false, false_implies, implies_true]))
  refine ac1_i (copied_con d hd (by omega) _) ?_
  rintro _ ⟨g, c⟩ ⟨bS, bK, bF, bC, bc, rfl, HF, hold⟩
  obtain ⟨o1, o2, o3, o4, o5, o6, o7, hS, hK, hFn, hC1, hci⟩ := HF
  have o4n := o4 node hcn
  have hcin := hci node hcn
  have hcr := cRows_at (bc := bc) hcn
  dsimp only at o1 o7 hS hK hFn hC1 hci hold hcin
  have o1' : 2 ≤ bS := Nat.le_trans (by simp) o1
  have q0 : g 0 = some (devB d) := (hold 0 (by simp)).trans (by simp (disch := omega) only [go_sem, Nat.reduceAdd, Nat.reduceSub, Nat.reduceMul, Nat.reduceLeDiff, Nat.reduceLT, Nat.reduceEqDiff, Int.reduceLT, Int.reduceLE, Int.reduceToNat, Int.reduceAdd, Int.reduceSub, Int.reduceMul, Int.reduceEq, Int.reduceNeg, reduceCtorEq, true_and, and_true, Int.toNat_natCast, List.getElem?_map, Option.map_some, List.length_map, List.length_take, List.length_drop, List.length_append, Nat.sub_zero, Int.toNat_zero, List.length_replicate, Bool.true_or, Bool.or_true, Bool.false_or, Bool.or_false, false_implies, implies_true] <;> rfl)
  have q1 : g 1 = some ⟨[[.sl [] true, .sl [] true, .sl [] true, .int .i64 0, .sl [] true]], 5, 0⟩ := (hold 1 (by simp)).trans (by simp (disch := omega) only [go_sem, Nat.reduceAdd, Nat.reduceSub, Nat.reduceMul, Nat.reduceLeDiff, Nat.reduceLT, Nat.reduceEqDiff, Int.reduceLT, Int.reduceLE, Int.reduceToNat, Int.reduceAdd, Int.reduceSub, Int.reduceMul, Int.reduceEq, Int.reduceNeg, reduceCtorEq, true_and, and_true, Int.toNat_natCast, List.getElem?_map, Option.map_some, List.length_map, List.length_take, List.length_drop, List.length_append, Nat.sub_zero, Int.toNat_zero, List.length_replicate, Bool.true_or, Bool.or_true, Bool.false_or, Bool.or_false, false_implies, implies_true] <;> rfl)
  clear hold o1
  have hkset : (d.keys.map inV).set node [V.int .i64 0] = (d.keys.set node 0).map inV := by rw [List.map_set]; rfl
  (repeat' (first | with_reducible (first | refine agr_d (fun hc => ?_) fun hc => ?_ | refine agr_n (fun hc => ?_) fun hc => ?_ | refine acd_d (fun hc => ?_) fun hc => ?_ | refine acd_n (fun hc => ?_) fun hc => ?_ | refine dgr_d (fun hc => ?_) fun hc => ?_ | refine dgr_n (fun hc => ?_) fun hc => ?_ | refine dl_sound _ _ [] [] [] _ _ (fun _ h => absurd h List.not_mem_nil) ?_) | simp (disch := omega) only [go_sem, freshV, q0, q1, hS, hK, hFn, hC1, hcin, hcr, hkg, hkset, cRows_len, Nat.reduceAdd, Nat.reduceSub, Nat.reduceMul, Nat.reduceLeDiff, Nat.reduceLT, Nat.reduceEqDiff, Int.reduceLT, Int.reduceLE, Int.reduceToNat, Int.reduceAdd, Int.reduceSub, Int.reduceMul, Int.reduceEq, Int.reduceNeg, reduceCtorEq, true_and, and_true, Int.toNat_natCast, List.getElem?_map, Option.map_some, List.length_map, List.length_take, List.length_drop, List.length_append, Nat.sub_zero, Int.toNat_zero, List.length_replicate, Bool.true_or, Bool.or_true, Bool.false_or, Bool.or_false, false_implies, implies_true]))
  refine conEnd_f (.inl rfl) ?_
  simp (disch := omega) only [go_sem, hS, hK, hFn, hC1, hcin, hkset, Nat.reduceAdd, Nat.reduceSub, Nat.reduceMul, Nat.reduceLeDiff, Nat.reduceLT, Nat.reduceEqDiff, Int.reduceLT, Int.reduceLE, Int.reduceToNat, Int.reduceAdd, Int.reduceSub, Int.reduceMul, Int.reduceEq, Int.reduceNeg, reduceCtorEq, true_and, and_true, Int.toNat_natCast, List.getElem?_map, Option.map_some, List.length_map, List.length_take, List.length_drop, List.length_append, Nat.sub_zero, Int.toNat_zero, List.length_replicate, Bool.true_or, Bool.or_true, Bool.false_or, Bool.or_false, false_implies, implies_true]
  refine ⟨mny, _, fz_tup2 (fz_dev (d := { d with cache := d.cache.set node [], keys := d.keys.set node 0 }) rfl (fz_row (sz := 1) (lk := 0) (es := d.s.map txV) ?_ (by simp) (by have := hd.s; omega) ((plain_tx _ _).2 trivial)) (fz_caches1 (lk := 0) (bc := bc) hd hcn ?_ (fun i h hne => ?_) (.weak [] true (.sl _ _ (by simp)))) (fz_row (sz := 1) (lk := 0) (es := (d.keys.set node 0).map inV) ?_ (by simp) (by have := hd.k; omega) ((plain_in _ _).2 trivial)) (fz_row (sz := 1) (lk := 0) (es := d.fen.map inV) ?_ (by simp) (by have := hd.f; omega) ((plain_in _ _).2 trivial))) (.plain _ (.int _ _)), rfl⟩
  all_goals first | (simp (disch := omega) only [go_sem, hS, hK, hFn, hC1, hcin, hkset, Nat.reduceAdd, Nat.reduceSub, Nat.reduceMul, Nat.reduceLeDiff, Nat.reduceLT, Nat.reduceEqDiff, Int.reduceLT, Int.reduceLE, Int.reduceToNat, Int.reduceAdd, Int.reduceSub, Int.reduceMul, Int.reduceEq, Int.reduceNeg, reduceCtorEq, true_and, and_true, Int.toNat_natCast, List.getElem?_map, Option.map_some, List.length_map, List.length_take, List.length_drop, List.length_append, Nat.sub_zero, Int.toNat_zero, List.length_replicate, Bool.true_or, Bool.or_true, Bool.false_or, Bool.or_false, false_implies, implies_true]; done) | (have := o4 i h; have := hci i h; have : bc i ≠ bc node := (by rcases Nat.lt_or_gt_of_ne hne with h1 | h1 <;> first | exact Nat.ne_of_lt (o5 _ _ h1 hcn) | exact Nat.ne_of_gt (o5 _ _ h1 h)); simp (disch := omega) only [go_sem, hci i h, Nat.reduceAdd, Nat.reduceSub, Nat.reduceMul, Nat.reduceLeDiff, Nat.reduceLT, Nat.reduceEqDiff, Int.reduceLT, Int.reduceLE, Int.reduceToNat, Int.reduceAdd, Int.reduceSub, Int.reduceMul, Int.reduceEq, Int.reduceNeg, reduceCtorEq, true_and, and_true, Int.toNat_natCast, List.getElem?_map, Option.map_some, List.length_map, List.length_take, List.length_drop, List.length_append, Nat.sub_zero, Int.toNat_zero, List.length_replicate, Bool.true_or, Bool.or_true, Bool.false_or, Bool.or_false, false_implies, implies_true]; done)
end Go.Proofs.Ytllijcnbjbfabaa

namespace Go.Proofs.Ytllijcnbjbfabaa
open Go.RowKit
set_option linter.unusedSimpArgs false
set_option linter.unusedVariables false

/-- is a write kept? -/
def kbit (kept : Int) (i : Nat) : Prop := ((BitVec.ofInt 64 (kept.fdiv (2 ^ (min i 64))) &&& BitVec.ofInt 64 1).toNat : Int) = 1
instance (kept : Int) (i : Nat) : Decidable (kbit kept i) := by unfold kbit; exact inferInstance
/-- what is kept of the first writes -/
def keepL (kept : Int) (l : List Pr) (s : List ByteArray) : Nat → List ByteArray
  | 0 => s
  | j + 1 => match l[j]? with
    | none => keepL kept l s j
    | some x => if kbit kept j then (keepL kept l s j).set x.n.toNat x.t else keepL kept l s j
theorem keepL_len (kept : Int) (l : List Pr) (s : List ByteArray) (j : Nat) : (keepL kept l s j).length = s.length := by
  induction j with
  | zero => rfl
  | succ j ih =>
    simp only [keepL]
    split
    · exact ih
    · split
      · rw [List.length_set, ih]
      · exact ih
def crashR' (d : Dev) (node : Int) (kept : Int) : Dev × Int :=
  if badN d node then (d, 2) else
    ({ d with s := if fencedB d [d.keys.getD node.toNat 0] = true then d.s else keepL kept (d.cache.getD node.toNat []) d.s (min (d.cache.getD node.toNat []).length 64), cache := d.cache.set node.toNat [] }, 0)
theorem iif_neg {α : Type} {b : Int} {x y : α} (h : ¬ b < 0) : (if b < 0 then x else y) = y := if_neg h
theorem wrapU {n : Int} (h1 : 0 ≤ n) (h2 : n < 18446744073709551616) : IntKind.u64.wrap n = n := by
  unfold IntKind.wrap
  simp [IntKind.bits, IntKind.signed]
  omega
set_option maxRecDepth 100000 in
set_option maxHeartbeats 16000000 in
theorem Crash_con (d : Dev) (hd : DevOk d) (node : Int) (kept : Int) : PCon Try.prog 14 [devV d, .int .i64 node, .int .u64 kept] (pairV (crashR' d node kept)) := by
  refine ⟨?_, by (simp only [List.nil_append, List.cons_append, List.append_nil, List.forall_mem_cons, List.not_mem_nil, false_implies, implies_true, and_true, true_and, plain_agg, plain_tup, plain_int, plain_bool, plain_str, plain_nilp, plain_nilfn, plain_undef, plain_dev, plain_pr, plain_tx, plain_in, plain_cc])⟩
  refine con_of_awp Try.func14 rfl mixed (by decide) rfl (by kernel_rfl) rfl ?_
  have hc : PCon Try.prog 36 [devV d] (.int .i64 (chk d)) := ⟨Check_con d hd, by (simp only [List.nil_append, List.cons_append, List.append_nil, List.forall_mem_cons, List.not_mem_nil, false_implies, implies_true, and_true, true_and, plain_agg, plain_tup, plain_int, plain_bool, plain_str, plain_nilp, plain_nilfn, plain_undef, plain_dev, plain_pr, plain_tx, plain_in, plain_cc])⟩
  by_cases hbad : badN d node
  · rw [show crashR' d node kept = (d, 2) from if_pos hbad]
    cases hb : checkB d with
    | false =>
      rw [show chk d = 2 by unfold chk; rw [hb]; rfl] at hc
      (repeat' (first | with_reducible (first | refine agr_d (fun hc => ?_) fun hc => ?_ | refine agr_n (fun hc => ?_) fun hc => ?_ | refine acd_d (fun hc => ?_) fun hc => ?_ | refine acd_n (fun hc => ?_) fun hc => ?_ | refine dgr_d (fun hc => ?_) fun hc => ?_ | refine dgr_n (fun hc => ?_) fun hc => ?_ | refine dl_sound _ _ [] [] [] _ _ (fun _ h => absurd h List.not_mem_nil) ?_ | refine conEnd_p (.inl rfl) ?_ | refine conEnd_p (.inr rfl) ?_ | refine dc1_p hc ?_ | refine ac1_p hc ?_) | simp (disch := omega) only [go_sem, devV, pairV, Nat.reduceAdd, Nat.reduceSub, Nat.reduceMul, Nat.reduceLeDiff, Nat.reduceLT, Nat.reduceEqDiff, Int.reduceLT, Int.reduceLE, Int.reduceToNat, Int.reduceAdd, Int.reduceSub, Int.reduceMul, Int.reduceEq, Int.reduceNeg, reduceCtorEq, true_and, and_true, Int.toNat_natCast, List.getElem?_map, Option.map_some, List.length_map, List.length_take, List.length_drop, List.length_append, Nat.sub_zero, Int.toNat_zero, List.length_replicate, Bool.true_or, Bool.or_true, Bool.false_or, Bool.or_false, false_implies, implies_true]))
    | true =>
      rw [show chk d = 0 by unfold chk; rw [hb]; rfl] at hc
      by_cases g1 : node < 0
      · (repeat' (first | with_reducible (first | refine agr_d (fun hc => ?_) fun hc => ?_ | refine agr_n (fun hc => ?_) fun hc => ?_ | refine acd_d (fun hc => ?_) fun hc => ?_ | refine acd_n (fun hc => ?_) fun hc => ?_ | refine dgr_d (fun hc => ?_) fun hc => ?_ | refine dgr_n (fun hc => ?_) fun hc => ?_ | refine dl_sound _ _ [] [] [] _ _ (fun _ h => absurd h List.not_mem_nil) ?_ | refine conEnd_p (.inl rfl) ?_ | refine conEnd_p (.inr rfl) ?_ | refine dc1_p hc ?_ | refine ac1_p hc ?_) | simp (disch := omega) only [go_sem, devV, pairV, Nat.reduceAdd, Nat.reduceSub, Nat.reduceMul, Nat.reduceLeDiff, Nat.reduceLT, Nat.reduceEqDiff, Int.reduceLT, Int.reduceLE, Int.reduceToNat, Int.reduceAdd, Int.reduceSub, Int.reduceMul, Int.reduceEq, Int.reduceNeg, reduceCtorEq, true_and, and_true, Int.toNat_natCast, List.getElem?_map, Option.map_some, List.length_map, List.length_take, List.length_drop, List.length_append, Nat.sub_zero, Int.toNat_zero, List.length_replicate, Bool.true_or, Bool.or_true, Bool.false_or, Bool.or_false, false_implies, implies_true]))
      by_cases g2 : (d.keys.length : Int) ≤ node
      · (repeat' (first | with_reducible (first | refine agr_d (fun hc => ?_) fun hc => ?_ | refine agr_n (fun hc => ?_) fun hc => ?_ | refine acd_d (fun hc => ?_) fun hc => ?_ | refine acd_n (fun hc => ?_) fun hc => ?_ | refine dgr_d (fun hc => ?_) fun hc => ?_ | refine dgr_n (fun hc => ?_) fun hc => ?_ | refine dl_sound _ _ [] [] [] _ _ (fun _ h => absurd h List.not_mem_nil) ?_ | refine conEnd_p (.inl rfl) ?_ | refine conEnd_p (.inr rfl) ?_ | refine dc1_p hc ?_ | refine ac1_p hc ?_) | simp (disch := omega) only [go_sem, devV, pairV, Nat.reduceAdd, Nat.reduceSub, Nat.reduceMul, Nat.reduceLeDiff, Nat.reduceLT, Nat.reduceEqDiff, Int.reduceLT, Int.reduceLE, Int.reduceToNat, Int.reduceAdd, Int.reduceSub, Int.reduceMul, Int.reduceEq, Int.reduceNeg, reduceCtorEq, true_and, and_true, Int.toNat_natCast, List.getElem?_map, Option.map_some, List.length_map, List.length_take, List.length_drop, List.length_append, Nat.sub_zero, Int.toNat_zero, List.length_replicate, Bool.true_or, Bool.or_true, Bool.false_or, Bool.or_false, false_implies, implies_true]))
      rcases hbad with h | h | h
      · rw [hb] at h; cases h
      · omega
      · omega
  have hbs := badN_split hbad
  rw [show crashR' d node kept = _ from if_neg hbad]
  obtain ⟨node, rfl, hn, hm⟩ := hbs
  rw [Int.toNat_natCast]
  have hcn : node < d.cache.length := by rw [hm.c]; exact hn
  have hkg : d.keys[node]? = some d.keys[node] := List.getElem?_eq_getElem hn
  have hkd : d.keys.getD node 0 = d.keys[node] := by rw [List.getD_eq_getElem?_getD, hkg]; rfl
  have hcd : d.cache.getD node [] = d.cache[node] := by rw [List.getD_eq_getElem?_getD, List.getElem?_eq_getElem hcn]; rfl
  have hcl := hd.ci node hcn
  rw [hkd, hcd]
  rw [show chk d = 0 by unfold chk; rw [(checkB_iff d).2 hm]; rfl] at hc
  have hF : Con Try.prog 38 [devV d, .sl [[.int .i64 d.keys[node]]] false] (· = .bool (fencedB d [d.keys[node]])) := Fenced_con _ _ _ _ d false false [d.keys[node]] (by have := hd.f; omega) (by simp)
  have hpd : Plain (devV d) := (plain_dev d).2 trivial
  have hpk : Plain (.sl [[.int .i64 d.keys[node]]] false) := (plain_in [d.keys[node]] false).2 trivial
  have hca := hm.ca node hn
  rw [hcd] at hca
  have hcp := (cachedB_P _ _).1 hca
  (repeat' (first | with_reducible (first | refine agr_d (fun hc => ?_) fun hc => ?_ | refine agr_n (fun hc => ?_) fun hc => ?_ | refine acd_d (fun hc => ?_) fun hc => ?_ | refine acd_n (fun hc => ?_) fun hc => ?_ | refine dgr_d (fun hc => ?_) fun hc => ?_ | refine dgr_n (fun hc => ?_) fun hc => ?_ | refine dl_sound _ _ [] [] [] _ _ (fun _ h => absurd h List.not_mem_nil) ?_ | refine dc1_p hc ?_ | refine ac1_p hc ?_) | simp (disch := omega) only [go_sem, devV, pairV, Nat.reduceAdd, Nat.reduceSub, Nat.reduceMul, Nat.reduceLeDiff, Nat.reduceLT, Nat.reduceEqDiff, Int.reduceLT, Int.reduceLE, Int.reduceToNat, Int.reduceAdd, Int.reduceSub, Int.reduceMul, Int.reduceEq, Int.reduceNeg, reduceCtorEq, true_and, and_true, Int.toNat_natCast, List.getElem?_map, Option.map_some, List.length_map, List.length_take, List.length_drop, List.length_append, Nat.sub_zero, Int.toNat_zero, List.length_replicate, Bool.true_or, Bool.or_true, Bool.false_or, Bool.or_false, false_implies, implies_true]))
  refine ac1_i (copied_con d hd (by omega) _) ?_
  rintro _ ⟨g, c⟩ ⟨bS, bK, bF, bC, bc, rfl, HF, hold⟩
  obtain ⟨o1, o2, o3, o4, o5, o6, o7, hS, hK, hFn, hC1, hci⟩ := HF
  have o4n := o4 node hcn
  have hcin := hci node hcn
  have hcr := cRows_at (bc := bc) hcn
  dsimp only at o1 o7 hS hK hFn hC1 hci hold hcin
  have o1' : 2 ≤ bS := Nat.le_trans (by simp) o1
  have q0 : g 0 = some (devB d) := (hold 0 (by simp)).trans (by simp (disch := omega) only [go_sem, Nat.reduceAdd, Nat.reduceSub, Nat.reduceMul, Nat.reduceLeDiff, Nat.reduceLT, Nat.reduceEqDiff, Int.reduceLT, Int.reduceLE, Int.reduceToNat, Int.reduceAdd, Int.reduceSub, Int.reduceMul, Int.reduceEq, Int.reduceNeg, reduceCtorEq, true_and, and_true, Int.toNat_natCast, List.getElem?_map, Option.map_some, List.length_map, List.length_take, List.length_drop, List.length_append, Nat.sub_zero, Int.toNat_zero, List.length_replicate, Bool.true_or, Bool.or_true, Bool.false_or, Bool.or_false, false_implies, implies_true] <;> rfl)
  have q1 : g 1 = some ⟨[[.sl [] true, .sl [] true, .sl [] true, .int .i64 0, .sl [] true]], 5, 0⟩ := (hold 1 (by simp)).trans (by simp (disch := omega) only [go_sem, Nat.reduceAdd, Nat.reduceSub, Nat.reduceMul, Nat.reduceLeDiff, Nat.reduceLT, Nat.reduceEqDiff, Int.reduceLT, Int.reduceLE, Int.reduceToNat, Int.reduceAdd, Int.reduceSub, Int.reduceMul, Int.reduceEq, Int.reduceNeg, reduceCtorEq, true_and, and_true, Int.toNat_natCast, List.getElem?_map, Option.map_some, List.length_map, List.length_take, List.length_drop, List.length_append, Nat.sub_zero, Int.toNat_zero, List.length_replicate, Bool.true_or, Bool.or_true, Bool.false_or, Bool.or_false, false_implies, implies_true] <;> rfl)
  clear hold o1
  (repeat' (first | with_reducible (first | refine agr_d (fun hc => ?_) fun hc => ?_ | refine agr_n (fun hc => ?_) fun hc => ?_ | refine acd_d (fun hc => ?_) fun hc => ?_ | refine acd_n (fun hc => ?_) fun hc => ?_ | refine dgr_d (fun hc => ?_) fun hc => ?_ | refine dgr_n (fun hc => ?_) fun hc => ?_ | refine dl_sound _ _ [] [] [] _ _ (fun _ h => absurd h List.not_mem_nil) ?_) | simp (disch := omega) only [go_sem, freshV, q0, q1, hS, hK, hFn, hC1, hcin, hcr, hkg, cRows_len, Nat.reduceAdd, Nat.reduceSub, Nat.reduceMul, Nat.reduceLeDiff, Nat.reduceLT, Nat.reduceEqDiff, Int.reduceLT, Int.reduceLE, Int.reduceToNat, Int.reduceAdd, Int.reduceSub, Int.reduceMul, Int.reduceEq, Int.reduceNeg, reduceCtorEq, true_and, and_true, Int.toNat_natCast, List.getElem?_map, Option.map_some, List.length_map, List.length_take, List.length_drop, List.length_append, Nat.sub_zero, Int.toNat_zero, List.length_replicate, Bool.true_or, Bool.or_true, Bool.false_or, Bool.or_false, false_implies, implies_true]))
  refine awp_for (min d.cache[node].length 64) (fun j fr st => ev fr (.tmp 1) = .int .i64 node ∧ ev fr (.tmp 2) = .int .u64 kept ∧ ev fr (.tmp 3) = .ptr 0 0 0 ∧ ev fr (.tmp 6) = .ptr 1 0 0 ∧ ev fr (.tmp 8) = .ptr c 0 0 ∧
    ev fr (.tmp 9) = .bs (bc node) 0 d.cache[node].length d.cache[node].length ∧ ev fr (.tmp 10) = .int .i64 j ∧ ev fr (.tmp 7) = .int .i64 0 ∧ c + 2 ≤ st.c ∧ st.get 0 = some (devB d) ∧
    st.get 1 = some ⟨[[.sl [] true, .sl [] true, .sl [] true, .int .i64 0, .sl [] true]], 5, 0⟩ ∧
    st.get c = some ⟨[[.bs bS 0 d.s.length d.s.length, .bs bC 0 d.cache.length d.cache.length, .bs bK 0 d.keys.length d.keys.length, .int .i64 d.next, .bs bF 0 d.fen.length d.fen.length]], 5, 0⟩ ∧
    st.get bS = some ⟨(if fencedB d [d.keys[node]] = true then d.s else keepL kept d.cache[node] d.s j).map txV, 1, 0⟩ ∧
    st.get bK = some ⟨d.keys.map inV, 1, 0⟩ ∧ st.get bF = some ⟨d.fen.map inV, 1, 0⟩ ∧ st.get bC = some ⟨cRows d bc d.cache.length, 1, 0⟩ ∧ ∀ i (h : i < d.cache.length), st.get (bc i) = some ⟨d.cache[i].map prV, 2, 0⟩) ?_ ?_
  · refine ⟨?_, ?_, ?_, ?_, ?_, ?_, ?_, ?_, ?_, ?_, ?_, ?_, ?_, ?_, ?_, ?_, fun i h => ?_⟩
    all_goals first | (simp (disch := omega) only [go_sem, freshV, q0, q1, hS, hK, hFn, hC1, keepL, ite_self, Nat.reduceAdd, Nat.reduceSub, Nat.reduceMul, Nat.reduceLeDiff, Nat.reduceLT, Nat.reduceEqDiff, Int.reduceLT, Int.reduceLE, Int.reduceToNat, Int.reduceAdd, Int.reduceSub, Int.reduceMul, Int.reduceEq, Int.reduceNeg, reduceCtorEq, true_and, and_true, Int.toNat_natCast, List.getElem?_map, Option.map_some, List.length_map, List.length_take, List.length_drop, List.length_append, Nat.sub_zero, Int.toNat_zero, List.length_replicate, Bool.true_or, Bool.or_true, Bool.false_or, Bool.or_false, false_implies, implies_true]; done) | (simp (disch := omega) only [go_sem, Nat.reduceAdd, Nat.reduceSub, Nat.reduceMul, Nat.reduceLeDiff, Nat.reduceLT, Nat.reduceEqDiff, Int.reduceLT, Int.reduceLE, Int.reduceToNat, Int.reduceAdd, Int.reduceSub, Int.reduceMul, Int.reduceEq, Int.reduceNeg, reduceCtorEq, true_and, and_true, Int.toNat_natCast, List.getElem?_map, Option.map_some, List.length_map, List.length_take, List.length_drop, List.length_append, Nat.sub_zero, Int.toNat_zero, List.length_replicate, Bool.true_or, Bool.or_true, Bool.false_or, Bool.or_false, false_implies, implies_true] <;> rfl) | (show c + 2 ≤ c + 2; omega) | (have := o4 i h; have := hci i h; simp (disch := omega) only [go_sem, this, Nat.reduceAdd, Nat.reduceSub, Nat.reduceMul, Nat.reduceLeDiff, Nat.reduceLT, Nat.reduceEqDiff, Int.reduceLT, Int.reduceLE, Int.reduceToNat, Int.reduceAdd, Int.reduceSub, Int.reduceMul, Int.reduceEq, Int.reduceNeg, reduceCtorEq, true_and, and_true, Int.toNat_natCast, List.getElem?_map, Option.map_some, List.length_map, List.length_take, List.length_drop, List.length_append, Nat.sub_zero, Int.toNat_zero, List.length_replicate, Bool.true_or, Bool.or_true, Bool.false_or, Bool.or_false, false_implies, implies_true]; done) | skip
  rintro j fr ⟨g', c'⟩ hj ⟨h1, h2, h3, h6, h8, h9, h10, h7, hcc, q0, q1, hcb, hS, hK, hFn, hC1, hci⟩
  dsimp only at hcc q0 q1 hcb hS hK hFn hC1 hci
  have hcin := hci node hcn
  have hpl : Plain (.sl (d.cache[node].map prV) false) := (plain_pr _ _).2 trivial
  have hlenS : (if fencedB d [d.keys[node]] = true then d.s else keepL kept d.cache[node] d.s j).length = d.s.length := by
    split
    · rfl
    · exact keepL_len _ _ _ _
  have hSk : ∀ i, i < d.s.length → ∃ y, (if fencedB d [d.keys[node]] = true then d.s else keepL kept d.cache[node] d.s j)[i]? = some y := fun i hi => ⟨_, List.getElem?_eq_getElem (by rw [hlenS]; exact hi)⟩
  by_cases hlt : j < d.cache[node].length ∧ j < 64
  · obtain ⟨hlt, h64⟩ := hlt
    have hxg : d.cache[node][j]? = some d.cache[node][j] := List.getElem?_eq_getElem hlt
    obtain ⟨⟨hx0, hx1, hx2⟩, _⟩ := hcp j hlt hlt
    obtain ⟨y, hy⟩ := hSk d.cache[node][j].n.toNat (by omega)
    have hnext : keepL kept d.cache[node] d.s (j + 1) = if kbit kept j then (keepL kept d.cache[node] d.s j).set d.cache[node][j].n.toNat d.cache[node][j].t else keepL kept d.cache[node] d.s j := by
      show (match d.cache[node][j]? with | none => _ | some x => _) = _
      rw [hxg]
    cases hfb : fencedB d [d.keys[node]] with
    | true =>
      rw [hfb] at hF hS hy
      rw [if_pos rfl] at hS hy
      (repeat' (first | with_reducible (first | refine agr_d (fun hc => ?_) fun hc => ?_ | refine agr_n (fun hc => ?_) fun hc => ?_ | refine acd_d (fun hc => ?_) fun hc => ?_ | refine acd_n (fun hc => ?_) fun hc => ?_ | refine dgr_d (fun hc => ?_) fun hc => ?_ | refine dgr_n (fun hc => ?_) fun hc => ?_ | refine dl_sound _ _ [] [] [] _ _ (fun _ h => absurd h List.not_mem_nil) ?_ | refine dc1_sc2 (sz := 1) (lk := 0) hpd ?_ ?_ hpk hF (.bool _) ?_) | simp (disch := omega) only [go_sem, h1, h2, h3, h6, h8, h9, h10, h7, q0, q1, hcb, hS, hK, hFn, hC1, hcin, hkg, hxg, hy, iif_neg, wrapU, List.size_toArray, Nat.reduceAdd, Nat.reduceSub, Nat.reduceMul, Nat.reduceLeDiff, Nat.reduceLT, Nat.reduceEqDiff, Int.reduceLT, Int.reduceLE, Int.reduceToNat, Int.reduceAdd, Int.reduceSub, Int.reduceMul, Int.reduceEq, Int.reduceNeg, reduceCtorEq, true_and, and_true, Int.toNat_natCast, List.getElem?_map, Option.map_some, List.length_map, List.length_take, List.length_drop, List.length_append, Nat.sub_zero, Int.toNat_zero, List.length_replicate, Bool.true_or, Bool.or_true, Bool.false_or, Bool.or_false, false_implies, implies_true]))
      · exact ⟨j + 1, by omega, by omega, rfl, by omega, fun i h => by have := o4 i h; rw [if_neg (by omega)]; exact hci i h⟩
      · exact ⟨j + 1, by omega, by omega, rfl, by omega, hci⟩
    | false =>
      rw [hfb] at hF hS hy
      rw [if_neg (by decide)] at hS hy
      have hset : ((keepL kept d.cache[node] d.s j).map txV).set d.cache[node][j].n.toNat [.str d.cache[node][j].t] = ((keepL kept d.cache[node] d.s j).set d.cache[node][j].n.toNat d.cache[node][j].t).map txV := by rw [List.map_set]; rfl
      (repeat' (first | with_reducible (first | refine agr_d (fun hc => ?_) fun hc => ?_ | refine agr_n (fun hc => ?_) fun hc => ?_ | refine acd_d (fun hc => ?_) fun hc => ?_ | refine acd_n (fun hc => ?_) fun hc => ?_ | refine dgr_d (fun hc => ?_) fun hc => ?_ | refine dgr_n (fun hc => ?_) fun hc => ?_ | refine dl_sound _ _ [] [] [] _ _ (fun _ h => absurd h List.not_mem_nil) ?_ | refine dc1_sc2 (sz := 1) (lk := 0) hpd ?_ ?_ hpk hF (.bool _) ?_) | simp (disch := omega) only [go_sem, h1, h2, h3, h6, h8, h9, h10, h7, q0, q1, hcb, hS, hK, hFn, hC1, hcin, hkg, hxg, hy, hset, iif_neg, wrapU, keepL_len, List.size_toArray, Nat.reduceAdd, Nat.reduceSub, Nat.reduceMul, Nat.reduceLeDiff, Nat.reduceLT, Nat.reduceEqDiff, Int.reduceLT, Int.reduceLE, Int.reduceToNat, Int.reduceAdd, Int.reduceSub, Int.reduceMul, Int.reduceEq, Int.reduceNeg, reduceCtorEq, true_and, and_true, Int.toNat_natCast, List.getElem?_map, Option.map_some, List.length_map, List.length_take, List.length_drop, List.length_append, Nat.sub_zero, Int.toNat_zero, List.length_replicate, Bool.true_or, Bool.or_true, Bool.false_or, Bool.or_false, false_implies, implies_true]))
      · refine ⟨j + 1, by omega, by omega, rfl, by omega, ?_, fun i h => ?_⟩
        · rw [hnext, if_pos (show kbit kept j from hc)]
        · have := o4 i h
          rw [if_neg (by omega), if_neg (by omega)]
          exact hci i h
      · refine ⟨j + 1, by omega, by omega, rfl, by omega, ?_, hci⟩
        rw [hnext, if_neg (show ¬ kbit kept j from hc)]
  · obtain rfl : j = min d.cache[node].length 64 := by omega
    generalize hSJ : (if fencedB d [d.keys[node]] = true then d.s else keepL kept d.cache[node] d.s (min d.cache[node].length 64)) = SJ at hS hlenS
    have go : ∀ (x : Prop), x → x := fun _ h => h
    by_cases hl : min d.cache[node].length 64 < d.cache[node].length
    · (repeat' (first | with_reducible (first | refine agr_d (fun hc => ?_) fun hc => ?_ | refine agr_n (fun hc => ?_) fun hc => ?_ | refine acd_d (fun hc => ?_) fun hc => ?_ | refine acd_n (fun hc => ?_) fun hc => ?_ | refine dgr_d (fun hc => ?_) fun hc => ?_ | refine dgr_n (fun hc => ?_) fun hc => ?_ | refine dl_sound _ _ [] [] [] _ _ (fun _ h => absurd h List.not_mem_nil) ?_) | simp (disch := omega) only [go_sem, h1, h2, h3, h6, h8, h9, h10, h7, q0, q1, hcb, hS, hK, hFn, hC1, hcin, hcr, hkg, cRows_len, List.size_toArray, Nat.reduceAdd, Nat.reduceSub, Nat.reduceMul, Nat.reduceLeDiff, Nat.reduceLT, Nat.reduceEqDiff, Int.reduceLT, Int.reduceLE, Int.reduceToNat, Int.reduceAdd, Int.reduceSub, Int.reduceMul, Int.reduceEq, Int.reduceNeg, reduceCtorEq, true_and, and_true, Int.toNat_natCast, List.getElem?_map, Option.map_some, List.length_map, List.length_take, List.length_drop, List.length_append, Nat.sub_zero, Int.toNat_zero, List.length_replicate, Bool.true_or, Bool.or_true, Bool.false_or, Bool.or_false, false_implies, implies_true]))
      refine conEnd_f (.inl rfl) ?_
      simp (disch := omega) only [go_sem, h6, h7, hS, hK, hFn, hC1, hcin, Nat.reduceAdd, Nat.reduceSub, Nat.reduceMul, Nat.reduceLeDiff, Nat.reduceLT, Nat.reduceEqDiff, Int.reduceLT, Int.reduceLE, Int.reduceToNat, Int.reduceAdd, Int.reduceSub, Int.reduceMul, Int.reduceEq, Int.reduceNeg, reduceCtorEq, true_and, and_true, Int.toNat_natCast, List.getElem?_map, Option.map_some, List.length_map, List.length_take, List.length_drop, List.length_append, Nat.sub_zero, Int.toNat_zero, List.length_replicate, Bool.true_or, Bool.or_true, Bool.false_or, Bool.or_false, false_implies, implies_true]
      refine ⟨mny, _, fz_tup2 (fz_dev (d := { d with s := SJ, cache := d.cache.set node [] }) rfl (fz_row (sz := 1) (lk := 0) (es := SJ.map txV) ?_ (by simp [hlenS]) (by have := hd.s; omega) ((plain_tx _ _).2 trivial)) (fz_caches1 (lk := 0) (bc := bc) hd hcn ?_ (fun i h hne => ?_) (.weak [] true (.sl _ _ (by simp)))) (fz_row (sz := 1) (lk := 0) (es := d.keys.map inV) ?_ (by simp) (by have := hd.k; omega) ((plain_in _ _).2 trivial)) (fz_row (sz := 1) (lk := 0) (es := d.fen.map inV) ?_ (by simp) (by have := hd.f; omega) ((plain_in _ _).2 trivial))) (.plain _ (.int _ _)), by rw [← hSJ]⟩
      all_goals first | (simp (disch := omega) only [go_sem, hS, hK, hFn, hC1, hcin, Nat.reduceAdd, Nat.reduceSub, Nat.reduceMul, Nat.reduceLeDiff, Nat.reduceLT, Nat.reduceEqDiff, Int.reduceLT, Int.reduceLE, Int.reduceToNat, Int.reduceAdd, Int.reduceSub, Int.reduceMul, Int.reduceEq, Int.reduceNeg, reduceCtorEq, true_and, and_true, Int.toNat_natCast, List.getElem?_map, Option.map_some, List.length_map, List.length_take, List.length_drop, List.length_append, Nat.sub_zero, Int.toNat_zero, List.length_replicate, Bool.true_or, Bool.or_true, Bool.false_or, Bool.or_false, false_implies, implies_true]; done) | (have := o4 i h; have := hci i h; have : bc i ≠ bc node := (by rcases Nat.lt_or_gt_of_ne hne with h1 | h1 <;> first | exact Nat.ne_of_lt (o5 _ _ h1 hcn) | exact Nat.ne_of_gt (o5 _ _ h1 h)); simp (disch := omega) only [go_sem, hci i h, Nat.reduceAdd, Nat.reduceSub, Nat.reduceMul, Nat.reduceLeDiff, Nat.reduceLT, Nat.reduceEqDiff, Int.reduceLT, Int.reduceLE, Int.reduceToNat, Int.reduceAdd, Int.reduceSub, Int.reduceMul, Int.reduceEq, Int.reduceNeg, reduceCtorEq, true_and, and_true, Int.toNat_natCast, List.getElem?_map, Option.map_some, List.length_map, List.length_take, List.length_drop, List.length_append, Nat.sub_zero, Int.toNat_zero, List.length_replicate, Bool.true_or, Bool.or_true, Bool.false_or, Bool.or_false, false_implies, implies_true]; done) | exact hS | exact hK | exact hFn | skip
      all_goals trace_state
    · (repeat' (first | with_reducible (first | refine agr_d (fun hc => ?_) fun hc => ?_ | refine agr_n (fun hc => ?_) fun hc => ?_ | refine acd_d (fun hc => ?_) fun hc => ?_ | refine acd_n (fun hc => ?_) fun hc => ?_ | refine dgr_d (fun hc => ?_) fun hc => ?_ | refine dgr_n (fun hc => ?_) fun hc => ?_ | refine dl_sound _ _ [] [] [] _ _ (fun _ h => absurd h List.not_mem_nil) ?_) | simp (disch := omega) only [go_sem, h1, h2, h3, h6, h8, h9, h10, h7, q0, q1, hcb, hS, hK, hFn, hC1, hcin, hcr, hkg, cRows_len, List.size_toArray, Nat.reduceAdd, Nat.reduceSub, Nat.reduceMul, Nat.reduceLeDiff, Nat.reduceLT, Nat.reduceEqDiff, Int.reduceLT, Int.reduceLE, Int.reduceToNat, Int.reduceAdd, Int.reduceSub, Int.reduceMul, Int.reduceEq, Int.reduceNeg, reduceCtorEq, true_and, and_true, Int.toNat_natCast, List.getElem?_map, Option.map_some, List.length_map, List.length_take, List.length_drop, List.length_append, Nat.sub_zero, Int.toNat_zero, List.length_replicate, Bool.true_or, Bool.or_true, Bool.false_or, Bool.or_false, false_implies, implies_true]))
      refine conEnd_f (.inl rfl) ?_
      simp (disch := omega) only [go_sem, h6, h7, hS, hK, hFn, hC1, hcin, Nat.reduceAdd, Nat.reduceSub, Nat.reduceMul, Nat.reduceLeDiff, Nat.reduceLT, Nat.reduceEqDiff, Int.reduceLT, Int.reduceLE, Int.reduceToNat, Int.reduceAdd, Int.reduceSub, Int.reduceMul, Int.reduceEq, Int.reduceNeg, reduceCtorEq, true_and, and_true, Int.toNat_natCast, List.getElem?_map, Option.map_some, List.length_map, List.length_take, List.length_drop, List.length_append, Nat.sub_zero, Int.toNat_zero, List.length_replicate, Bool.true_or, Bool.or_true, Bool.false_or, Bool.or_false, false_implies, implies_true]
      refine ⟨mny, _, fz_tup2 (fz_dev (d := { d with s := SJ, cache := d.cache.set node [] }) rfl (fz_row (sz := 1) (lk := 0) (es := SJ.map txV) ?_ (by simp [hlenS]) (by have := hd.s; omega) ((plain_tx _ _).2 trivial)) (fz_caches1 (lk := 0) (bc := bc) hd hcn ?_ (fun i h hne => ?_) (.weak [] true (.sl _ _ (by simp)))) (fz_row (sz := 1) (lk := 0) (es := d.keys.map inV) ?_ (by simp) (by have := hd.k; omega) ((plain_in _ _).2 trivial)) (fz_row (sz := 1) (lk := 0) (es := d.fen.map inV) ?_ (by simp) (by have := hd.f; omega) ((plain_in _ _).2 trivial))) (.plain _ (.int _ _)), by rw [← hSJ]⟩
      all_goals first | (simp (disch := omega) only [go_sem, hS, hK, hFn, hC1, hcin, Nat.reduceAdd, Nat.reduceSub, Nat.reduceMul, Nat.reduceLeDiff, Nat.reduceLT, Nat.reduceEqDiff, Int.reduceLT, Int.reduceLE, Int.reduceToNat, Int.reduceAdd, Int.reduceSub, Int.reduceMul, Int.reduceEq, Int.reduceNeg, reduceCtorEq, true_and, and_true, Int.toNat_natCast, List.getElem?_map, Option.map_some, List.length_map, List.length_take, List.length_drop, List.length_append, Nat.sub_zero, Int.toNat_zero, List.length_replicate, Bool.true_or, Bool.or_true, Bool.false_or, Bool.or_false, false_implies, implies_true]; done) | (have := o4 i h; have := hci i h; have : bc i ≠ bc node := (by rcases Nat.lt_or_gt_of_ne hne with h1 | h1 <;> first | exact Nat.ne_of_lt (o5 _ _ h1 hcn) | exact Nat.ne_of_gt (o5 _ _ h1 h)); simp (disch := omega) only [go_sem, hci i h, Nat.reduceAdd, Nat.reduceSub, Nat.reduceMul, Nat.reduceLeDiff, Nat.reduceLT, Nat.reduceEqDiff, Int.reduceLT, Int.reduceLE, Int.reduceToNat, Int.reduceAdd, Int.reduceSub, Int.reduceMul, Int.reduceEq, Int.reduceNeg, reduceCtorEq, true_and, and_true, Int.toNat_natCast, List.getElem?_map, Option.map_some, List.length_map, List.length_take, List.length_drop, List.length_append, Nat.sub_zero, Int.toNat_zero, List.length_replicate, Bool.true_or, Bool.or_true, Bool.false_or, Bool.or_false, false_implies, implies_true]; done) | exact hS | exact hK | exact hFn | skip
      all_goals trace_state
end Go.Proofs.Ytllijcnbjbfabaa

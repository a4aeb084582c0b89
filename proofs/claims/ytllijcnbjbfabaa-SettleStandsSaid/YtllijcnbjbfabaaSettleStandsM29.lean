/- breakwaterref06: without again; breakwaterref01.Put of one number. -/
import Derived.Test.YtllijcnbjbfabaaSettleStandsM28
import Derived.Test.YtllijcnbjbfabaaSettleStandsM03
import Derived.Test.YtllijcnbjbfabaaSettleStandsM01
namespace Go.Proofs.Ytllijcnbjbfabaa
open Go.RowKit
set_option linter.unusedSimpArgs false
set_option linter.unusedVariables false

set_option maxRecDepth 100000 in
set_option maxHeartbeats 4000000 in
theorem without_fc (l : List Pr) (fl : Bool) (k : Nat) (hl : l.length ≤ 1000000) (hk : k < l.length) : FCon Try.prog 41 [.sl (l.map prV) fl, .int .i64 k] (.sl ((l.eraseIdx k).map prV) false) := by
  refine fcon_of_awp Try.func41 rfl mixed (by decide) rfl (by kernel_rfl) rfl ?_
  (repeat' (first | with_reducible refine agr_d (fun hc => ?_) (fun hc => ?_) | with_reducible refine agr_n (fun hc => ?_) (fun hc => ?_) | with_reducible refine acd_d (fun hc => ?_) (fun hc => ?_) | with_reducible refine acd_n (fun hc => ?_) (fun hc => ?_) | with_reducible refine dgr_d (fun hc => ?_) (fun hc => ?_) | with_reducible refine dgr_n (fun hc => ?_) (fun hc => ?_) | with_reducible refine dl_sound _ _ [] [] [] _ _ (fun _ h => absurd h List.not_mem_nil) ?_ | simp (disch := omega) only [go_sem, Nat.reduceAdd, Nat.reduceSub, Nat.reduceMul, Nat.reduceLeDiff, Nat.reduceLT, Nat.reduceEqDiff, Int.reduceLT, Int.reduceLE, Int.reduceToNat, Int.reduceAdd, Int.reduceSub, Int.reduceMul, Int.reduceEq, Int.reduceNeg, reduceCtorEq, true_and, and_true, Int.toNat_natCast, List.getElem?_map, Option.map_some, List.length_map, List.length_take, List.length_drop, List.length_append, Nat.sub_zero, Int.toNat_zero, List.length_replicate, Bool.true_or, Bool.or_true, Bool.false_or, Bool.or_false, false_implies, implies_true]))
  refine fconEnd_v (.inl rfl) ?_
  have e : l.take k ++ (l.drop ((k : Int) + 1).toNat).take (l.length - ((k : Int) + 1).toNat) = l.eraseIdx k := by
    rw [show ((k : Int) + 1).toNat = k + 1 by omega, List.take_of_length_le (l := l.drop (k + 1)) (by simp), List.eraseIdx_eq_take_drop_succ]
  simp (disch := omega) only [go_sem, e, Nat.reduceAdd, Nat.reduceSub, Nat.reduceMul, Nat.reduceLeDiff, Nat.reduceLT, Nat.reduceEqDiff, Int.reduceLT, Int.reduceLE, Int.reduceToNat, Int.reduceAdd, Int.reduceSub, Int.reduceMul, Int.reduceEq, Int.reduceNeg, reduceCtorEq, true_and, and_true, Int.toNat_natCast, List.getElem?_map, Option.map_some, List.length_map, List.length_take, List.length_drop, List.length_append, Nat.sub_zero, Int.toNat_zero, List.length_replicate, Bool.true_or, Bool.or_true, Bool.false_or, Bool.or_false, false_implies, implies_true]
  refine fzo_end (by rw [St.get_new]; exact if_pos rfl) ?_ ?_ rfl
  · rw [List.length_map, List.length_eraseIdx_of_lt hk]; omega
  · exact sc_pr _


set_option maxRecDepth 100000 in
set_option maxHeartbeats 4000000 in
theorem most6_con : PCon Try.prog 73 [.int .i64 6] (.int .i64 1099511627776) := by
  refine ⟨?_, by (simp only [List.nil_append, List.cons_append, List.append_nil, List.forall_mem_cons, List.not_mem_nil, false_implies, implies_true, and_true, true_and, plain_agg, plain_tup, plain_int, plain_bool, plain_str, plain_nilp, plain_nilfn, plain_undef, plain_dev, plain_pr, plain_tx, plain_in, plain_cc])⟩
  refine con_of_awp Try.func73 rfl mixed (by decide) rfl (by kernel_rfl) rfl ?_
  (repeat' (first | with_reducible refine agr_d (fun hc => ?_) (fun hc => ?_) | with_reducible refine agr_n (fun hc => ?_) (fun hc => ?_) | with_reducible refine acd_d (fun hc => ?_) (fun hc => ?_) | with_reducible refine acd_n (fun hc => ?_) (fun hc => ?_) | with_reducible refine dgr_d (fun hc => ?_) (fun hc => ?_) | with_reducible refine dgr_n (fun hc => ?_) (fun hc => ?_) | with_reducible refine dl_sound _ _ [] [] [] _ _ (fun _ h => absurd h List.not_mem_nil) ?_ | with_reducible refine conEnd_p (.inl rfl) ?_ | with_reducible refine conEnd_p (.inr rfl) ?_ | with_reducible refine awp_unroll 8 ?_ | simp (disch := omega) only [go_sem, Nat.reduceAdd, Nat.reduceSub, Nat.reduceMul, Nat.reduceLeDiff, Nat.reduceLT, Nat.reduceEqDiff, Int.reduceLT, Int.reduceLE, Int.reduceToNat, Int.reduceAdd, Int.reduceSub, Int.reduceMul, Int.reduceEq, Int.reduceNeg, reduceCtorEq, true_and, and_true, Int.toNat_natCast, List.getElem?_map, Option.map_some, List.length_map, List.length_take, List.length_drop, List.length_append, Nat.sub_zero, Int.toNat_zero, List.length_replicate, Bool.true_or, Bool.or_true, Bool.false_or, Bool.or_false, false_implies, implies_true]))
theorem fits6_con (n : Int) (h0 : 0 ≤ n) (h1 : n ≤ 1099511627776) : PCon Try.prog 74 [.int .i64 n, .int .i64 6] (.bool true) := by
  refine ⟨?_, by (simp only [List.nil_append, List.cons_append, List.append_nil, List.forall_mem_cons, List.not_mem_nil, false_implies, implies_true, and_true, true_and, plain_agg, plain_tup, plain_int, plain_bool, plain_str, plain_nilp, plain_nilfn, plain_undef, plain_dev, plain_pr, plain_tx, plain_in, plain_cc])⟩
  refine con_of_awp Try.func74 rfl mixed (by decide) rfl (by kernel_rfl) rfl ?_
  have hm := most6_con
  (repeat' (first | with_reducible refine agr_d (fun hc => ?_) (fun hc => ?_) | with_reducible refine agr_n (fun hc => ?_) (fun hc => ?_) | with_reducible refine acd_d (fun hc => ?_) (fun hc => ?_) | with_reducible refine acd_n (fun hc => ?_) (fun hc => ?_) | with_reducible refine dgr_d (fun hc => ?_) (fun hc => ?_) | with_reducible refine dgr_n (fun hc => ?_) (fun hc => ?_) | with_reducible refine dl_sound _ _ [] [] [] _ _ (fun _ h => absurd h List.not_mem_nil) ?_ | with_reducible refine conEnd_p (.inl rfl) ?_ | with_reducible refine conEnd_p (.inr rfl) ?_ | with_reducible refine dc1_p hm ?_ | with_reducible refine ac1_p hm ?_ | simp (disch := omega) only [go_sem, Nat.reduceAdd, Nat.reduceSub, Nat.reduceMul, Nat.reduceLeDiff, Nat.reduceLT, Nat.reduceEqDiff, Int.reduceLT, Int.reduceLE, Int.reduceToNat, Int.reduceAdd, Int.reduceSub, Int.reduceMul, Int.reduceEq, Int.reduceNeg, reduceCtorEq, true_and, and_true, Int.toNat_natCast, List.getElem?_map, Option.map_some, List.length_map, List.length_take, List.length_drop, List.length_append, Nat.sub_zero, Int.toNat_zero, List.length_replicate, Bool.true_or, Bool.or_true, Bool.false_or, Bool.or_false, false_implies, implies_true]))
set_option maxRecDepth 100000 in
set_option maxHeartbeats 4000000 in
theorem put6_con (n : Int) (h0 : 0 ≤ n) (h1 : n ≤ 1099511627776) : Con Try.prog 43 [.sl [] true, .int .i64 6, .sl [[.int .i64 n]] false] (· = .tup [.sl ((six n).map fun x => [.int .u8 x]) false, .int .i64 0]) := by
  refine con_of_awp Try.func43 rfl mixed (by decide) rfl (by kernel_rfl) rfl ?_
  have hm := most6_con
  have hf := fits6_con n h0 h1
  (repeat' (first | with_reducible refine agr_d (fun hc => ?_) (fun hc => ?_) | with_reducible refine agr_n (fun hc => ?_) (fun hc => ?_) | with_reducible refine acd_d (fun hc => ?_) (fun hc => ?_) | with_reducible refine acd_n (fun hc => ?_) (fun hc => ?_) | with_reducible refine dgr_d (fun hc => ?_) (fun hc => ?_) | with_reducible refine dgr_n (fun hc => ?_) (fun hc => ?_) | with_reducible refine dl_sound _ _ [] [] [] _ _ (fun _ h => absurd h List.not_mem_nil) ?_ | with_reducible refine dc1_p hm ?_ | with_reducible refine ac1_p hm ?_ | with_reducible refine dc1_p hf ?_ | with_reducible refine ac1_p hf ?_ | with_reducible refine awp_unroll 8 ?_ | simp (disch := omega) only [go_sem, Nat.reduceAdd, Nat.reduceSub, Nat.reduceMul, Nat.reduceLeDiff, Nat.reduceLT, Nat.reduceEqDiff, Int.reduceLT, Int.reduceLE, Int.reduceToNat, Int.reduceAdd, Int.reduceSub, Int.reduceMul, Int.reduceEq, Int.reduceNeg, reduceCtorEq, true_and, and_true, Int.toNat_natCast, List.getElem?_map, Option.map_some, List.length_map, List.length_take, List.length_drop, List.length_append, Nat.sub_zero, Int.toNat_zero, List.length_replicate, Bool.true_or, Bool.or_true, Bool.false_or, Bool.or_false, false_implies, implies_true]))
  refine conEnd_f (.inl rfl) ?_
  simp (disch := omega) only [go_sem, wrap8, Nat.reduceAdd, Nat.reduceSub, Nat.reduceMul, Nat.reduceLeDiff, Nat.reduceLT, Nat.reduceEqDiff, Int.reduceLT, Int.reduceLE, Int.reduceToNat, Int.reduceAdd, Int.reduceSub, Int.reduceMul, Int.reduceEq, Int.reduceNeg, reduceCtorEq, true_and, and_true, Int.toNat_natCast, List.getElem?_map, Option.map_some, List.length_map, List.length_take, List.length_drop, List.length_append, Nat.sub_zero, Int.toNat_zero, List.length_replicate, Bool.true_or, Bool.or_true, Bool.false_or, Bool.or_false, false_implies, implies_true]
  refine ⟨fun _ => 6, _, fz_tup2 (Fz.rows (es := (six n).map fun x => [V.int .u8 x]) (sz := 1) (lk := 0) ?_ (by simp [six]) (.sl _ _ fun r hr x hx => ?_)) (.plain _ (.int _ _)), rfl⟩
  · rw [St.get_new]
    exact if_pos rfl
  · obtain ⟨p, _, rfl⟩ := List.mem_map.1 hr
    simp only [List.mem_cons, List.not_mem_nil, or_false] at hx
    rw [hx]
    exact .int _ _
end Go.Proofs.Ytllijcnbjbfabaa

namespace Go.Proofs.Ytllijcnbjbfabaa
open Go.RowKit
set_option linter.unusedSimpArgs false
set_option linter.unusedVariables false

abbrev acV (a : Ac) : V := .agg [.int .i8 a.k, .int .i64 a.s, .str a.b, .int .i64 a.key]
structure AcOk (a : Ac) : Prop where
  k : -128 ≤ a.k ∧ a.k ≤ 127
  s : -9223372036854775808 ≤ a.s ∧ a.s ≤ 9223372036854775807
  b : a.b.size ≤ 1000000000
  key : -9223372036854775808 ≤ a.key ∧ a.key ≤ 9223372036854775807
abbrev doV (p : Dev × ByteArray × Int) : V := .tup [devV p.1, .str p.2.1, .int .i64 p.2.2]
def refA (d : Dev) (node : Int) (a : Ac) : Prop := checkB d = false ∨ node < 0 ∨ (d.keys.length : Int) ≤ node ∨ a.k < 1 ∨ 6 < a.k
def refB (d : Dev) (a : Ac) : Prop := ((a.k = 2 ∨ a.k = 3) ∧ 512 < a.b.size) ∨ (a.k = 5 ∧ givenB d a.key = false) ∨ (a.k = 6 ∧ 68719476736 ≤ d.next)
def refC (d : Dev) (node : Int) (a : Ac) : Prop := a.k ≠ 6 ∧ fencedB d [d.keys.getD node.toNat 0] = true
def refD (d : Dev) (a : Ac) : Prop := (a.k = 1 ∨ a.k = 2 ∨ a.k = 3) ∧ (a.s < 0 ∨ (d.s.length : Int) ≤ a.s)
theorem refuse_a {d : Dev} {node : Int} {a : Ac} (h : refA d node a) : doR d node a = (d, ⟨#[]⟩, 2) := by
  have e : refuseR d node a = 2 := if_pos h
  unfold doR
  rw [if_neg (by rw [e]; decide), e]
theorem refuse_b {d : Dev} {node : Int} {a : Ac} (h1 : ¬ refA d node a) (h : refB d a) : doR d node a = (d, ⟨#[]⟩, 2) := by
  have e : refuseR d node a = 2 := (if_neg h1).trans (if_pos h)
  unfold doR
  rw [if_neg (by rw [e]; decide), e]
theorem refuse_c {d : Dev} {node : Int} {a : Ac} (h1 : ¬ refA d node a) (h2 : ¬ refB d a) (h : refC d node a) : doR d node a = (d, ⟨#[]⟩, 61) := by
  have e : refuseR d node a = 61 := (if_neg h1).trans ((if_neg h2).trans (if_pos h))
  unfold doR
  rw [if_neg (by rw [e]; decide), e]
theorem refuse_d {d : Dev} {node : Int} {a : Ac} (h1 : ¬ refA d node a) (h2 : ¬ refB d a) (h3 : ¬ refC d node a) (h : refD d a) : doR d node a = (d, ⟨#[]⟩, 60) := by
  have e : refuseR d node a = 60 := (if_neg h1).trans ((if_neg h2).trans ((if_neg h3).trans (if_pos h)))
  unfold doR
  rw [if_neg (by rw [e]; decide), e]
theorem do_ok {d : Dev} {node : Int} {a : Ac} (h1 : ¬ refA d node a) (h2 : ¬ refB d a) (h3 : ¬ refC d node a) (h4 : ¬ refD d a) : doR d node a = ((actD d node.toNat a).1, (actD d node.toNat a).2, 0) := by
  have e : refuseR d node a = 0 := (if_neg h1).trans ((if_neg h2).trans ((if_neg h3).trans (if_neg h4)))
  unfold doR
  rw [if_pos e]
set_option maxRecDepth 100000 in
set_option maxHeartbeats 16000000 in
theorem Do_a (d : Dev) (hd : DevOk d) (node : Int) (a : Ac) (ha : AcOk a) (h : refA d node a) : Con Try.prog 12 [devV d, .int .i64 node, acV a] (· = doV (doR d node a)) := by
  rw [refuse_a h]
  refine con_of_awp Try.func12 rfl mixed (by decide) rfl (by kernel_rfl) rfl ?_
  have hc : PCon Try.prog 36 [devV d] (.int .i64 (chk d)) := ⟨Check_con d hd, by (simp only [List.nil_append, List.cons_append, List.append_nil, List.forall_mem_cons, List.not_mem_nil, false_implies, implies_true, and_true, true_and, plain_agg, plain_tup, plain_int, plain_bool, plain_str, plain_nilp, plain_nilfn, plain_undef, plain_dev, plain_pr, plain_tx, plain_in, plain_cc])⟩
  cases hb : checkB d with
  | false =>
    rw [show chk d = 2 by unfold chk; rw [hb]; rfl] at hc
    (repeat' (first | with_reducible refine agr_d (fun hc => ?_) (fun hc => ?_) | with_reducible refine agr_n (fun hc => ?_) (fun hc => ?_) | with_reducible refine acd_d (fun hc => ?_) (fun hc => ?_) | with_reducible refine acd_n (fun hc => ?_) (fun hc => ?_) | with_reducible refine dgr_d (fun hc => ?_) (fun hc => ?_) | with_reducible refine dgr_n (fun hc => ?_) (fun hc => ?_) | with_reducible refine dl_sound _ _ [] [] [] _ _ (fun _ h => absurd h List.not_mem_nil) ?_ | with_reducible refine conEnd_p (.inl rfl) ?_ | with_reducible refine conEnd_p (.inr rfl) ?_ | with_reducible refine dc1_p hc ?_ | with_reducible refine ac1_p hc ?_ | simp (disch := omega) only [go_sem, devV, doV, Nat.reduceAdd, Nat.reduceSub, Nat.reduceMul, Nat.reduceLeDiff, Nat.reduceLT, Nat.reduceEqDiff, Int.reduceLT, Int.reduceLE, Int.reduceToNat, Int.reduceAdd, Int.reduceSub, Int.reduceMul, Int.reduceEq, Int.reduceNeg, reduceCtorEq, true_and, and_true, Int.toNat_natCast, List.getElem?_map, Option.map_some, List.length_map, List.length_take, List.length_drop, List.length_append, Nat.sub_zero, Int.toNat_zero, List.length_replicate, Bool.true_or, Bool.or_true, Bool.false_or, Bool.or_false, false_implies, implies_true]))
  | true =>
    rw [show chk d = 0 by unfold chk; rw [hb]; rfl] at hc
    have h' : node < 0 ∨ (d.keys.length : Int) ≤ node ∨ a.k < 1 ∨ 6 < a.k := by
      rcases h with h | h
      · rw [hb] at h; cases h
      · exact h
    by_cases g1 : node < 0
    · (repeat' (first | with_reducible refine agr_d (fun hc => ?_) (fun hc => ?_) | with_reducible refine agr_n (fun hc => ?_) (fun hc => ?_) | with_reducible refine acd_d (fun hc => ?_) (fun hc => ?_) | with_reducible refine acd_n (fun hc => ?_) (fun hc => ?_) | with_reducible refine dgr_d (fun hc => ?_) (fun hc => ?_) | with_reducible refine dgr_n (fun hc => ?_) (fun hc => ?_) | with_reducible refine dl_sound _ _ [] [] [] _ _ (fun _ h => absurd h List.not_mem_nil) ?_ | with_reducible refine conEnd_p (.inl rfl) ?_ | with_reducible refine conEnd_p (.inr rfl) ?_ | with_reducible refine dc1_p hc ?_ | with_reducible refine ac1_p hc ?_ | simp (disch := omega) only [go_sem, devV, doV, Nat.reduceAdd, Nat.reduceSub, Nat.reduceMul, Nat.reduceLeDiff, Nat.reduceLT, Nat.reduceEqDiff, Int.reduceLT, Int.reduceLE, Int.reduceToNat, Int.reduceAdd, Int.reduceSub, Int.reduceMul, Int.reduceEq, Int.reduceNeg, reduceCtorEq, true_and, and_true, Int.toNat_natCast, List.getElem?_map, Option.map_some, List.length_map, List.length_take, List.length_drop, List.length_append, Nat.sub_zero, Int.toNat_zero, List.length_replicate, Bool.true_or, Bool.or_true, Bool.false_or, Bool.or_false, false_implies, implies_true]))
    by_cases g2 : (d.keys.length : Int) ≤ node
    · (repeat' (first | with_reducible refine agr_d (fun hc => ?_) (fun hc => ?_) | with_reducible refine agr_n (fun hc => ?_) (fun hc => ?_) | with_reducible refine acd_d (fun hc => ?_) (fun hc => ?_) | with_reducible refine acd_n (fun hc => ?_) (fun hc => ?_) | with_reducible refine dgr_d (fun hc => ?_) (fun hc => ?_) | with_reducible refine dgr_n (fun hc => ?_) (fun hc => ?_) | with_reducible refine dl_sound _ _ [] [] [] _ _ (fun _ h => absurd h List.not_mem_nil) ?_ | with_reducible refine conEnd_p (.inl rfl) ?_ | with_reducible refine conEnd_p (.inr rfl) ?_ | with_reducible refine dc1_p hc ?_ | with_reducible refine ac1_p hc ?_ | simp (disch := omega) only [go_sem, devV, doV, Nat.reduceAdd, Nat.reduceSub, Nat.reduceMul, Nat.reduceLeDiff, Nat.reduceLT, Nat.reduceEqDiff, Int.reduceLT, Int.reduceLE, Int.reduceToNat, Int.reduceAdd, Int.reduceSub, Int.reduceMul, Int.reduceEq, Int.reduceNeg, reduceCtorEq, true_and, and_true, Int.toNat_natCast, List.getElem?_map, Option.map_some, List.length_map, List.length_take, List.length_drop, List.length_append, Nat.sub_zero, Int.toNat_zero, List.length_replicate, Bool.true_or, Bool.or_true, Bool.false_or, Bool.or_false, false_implies, implies_true]))
    by_cases g3 : a.k < 1
    · (repeat' (first | with_reducible refine agr_d (fun hc => ?_) (fun hc => ?_) | with_reducible refine agr_n (fun hc => ?_) (fun hc => ?_) | with_reducible refine acd_d (fun hc => ?_) (fun hc => ?_) | with_reducible refine acd_n (fun hc => ?_) (fun hc => ?_) | with_reducible refine dgr_d (fun hc => ?_) (fun hc => ?_) | with_reducible refine dgr_n (fun hc => ?_) (fun hc => ?_) | with_reducible refine dl_sound _ _ [] [] [] _ _ (fun _ h => absurd h List.not_mem_nil) ?_ | with_reducible refine conEnd_p (.inl rfl) ?_ | with_reducible refine conEnd_p (.inr rfl) ?_ | with_reducible refine dc1_p hc ?_ | with_reducible refine ac1_p hc ?_ | simp (disch := omega) only [go_sem, devV, doV, Nat.reduceAdd, Nat.reduceSub, Nat.reduceMul, Nat.reduceLeDiff, Nat.reduceLT, Nat.reduceEqDiff, Int.reduceLT, Int.reduceLE, Int.reduceToNat, Int.reduceAdd, Int.reduceSub, Int.reduceMul, Int.reduceEq, Int.reduceNeg, reduceCtorEq, true_and, and_true, Int.toNat_natCast, List.getElem?_map, Option.map_some, List.length_map, List.length_take, List.length_drop, List.length_append, Nat.sub_zero, Int.toNat_zero, List.length_replicate, Bool.true_or, Bool.or_true, Bool.false_or, Bool.or_false, false_implies, implies_true]))
    by_cases g4 : 6 < a.k
    · (repeat' (first | with_reducible refine agr_d (fun hc => ?_) (fun hc => ?_) | with_reducible refine agr_n (fun hc => ?_) (fun hc => ?_) | with_reducible refine acd_d (fun hc => ?_) (fun hc => ?_) | with_reducible refine acd_n (fun hc => ?_) (fun hc => ?_) | with_reducible refine dgr_d (fun hc => ?_) (fun hc => ?_) | with_reducible refine dgr_n (fun hc => ?_) (fun hc => ?_) | with_reducible refine dl_sound _ _ [] [] [] _ _ (fun _ h => absurd h List.not_mem_nil) ?_ | with_reducible refine conEnd_p (.inl rfl) ?_ | with_reducible refine conEnd_p (.inr rfl) ?_ | with_reducible refine dc1_p hc ?_ | with_reducible refine ac1_p hc ?_ | simp (disch := omega) only [go_sem, devV, doV, Nat.reduceAdd, Nat.reduceSub, Nat.reduceMul, Nat.reduceLeDiff, Nat.reduceLT, Nat.reduceEqDiff, Int.reduceLT, Int.reduceLE, Int.reduceToNat, Int.reduceAdd, Int.reduceSub, Int.reduceMul, Int.reduceEq, Int.reduceNeg, reduceCtorEq, true_and, and_true, Int.toNat_natCast, List.getElem?_map, Option.map_some, List.length_map, List.length_take, List.length_drop, List.length_append, Nat.sub_zero, Int.toNat_zero, List.length_replicate, Bool.true_or, Bool.or_true, Bool.false_or, Bool.or_false, false_implies, implies_true]))
    exact absurd h' (by omega)
end Go.Proofs.Ytllijcnbjbfabaa

namespace Go.Proofs.Ytllijcnbjbfabaa
open Go.RowKit
set_option linter.unusedSimpArgs false
set_option linter.unusedVariables false

theorem cRows_at {d : Dev} {bc : Nat → Nat} {i : Nat} (h : i < d.cache.length) : (cRows d bc d.cache.length)[i]? = some [.bs (bc i) 0 d.cache[i].length d.cache[i].length] := by
  unfold cRows
  rw [List.getElem?_map, List.getElem?_range h]
  simp [cLen_at h]
theorem notA {d : Dev} {node : Nat} {a : Ac} (hm : MayD d) (hn : node < d.keys.length) (h1 : 1 ≤ a.k) (h2 : a.k ≤ 6) : ¬ refA d node a := by
  rintro (h | h | h | h | h)
  · rw [(checkB_iff d).2 hm] at h; cases h
  · omega
  · omega
  · omega
  · omega
/-- mny -/
abbrev mny : Nat → Nat := fun _ => 2000000
theorem fz_row {st : St} {b n cap sz lk : Nat} {es : List (List V)} (hk : st.get b = some ⟨es, sz, lk⟩) (hn : n = es.length) (hl : n ≤ 2000000) (hp : Plain (.sl es false)) : Fz st mny (.bs b 0 n cap) (.sl es false) := by
  subst hn
  exact Fz.rows hk hl hp
theorem fz_cache {st : St} {b n cap lk : Nat} {l : List (List Pr)} {cells : List V} (hk : st.get b = some ⟨cells.map (fun v => [v]), 1, lk⟩) (hn : n = l.length) (hl : n ≤ 2000000) (hc : cells.length = l.length)
    (h : ∀ i (h : i < cells.length) (h' : i < l.length), Fz st mny cells[i] (.sl (l[i].map prV) false)) : Fz st mny (.bs b 0 n cap) (.sl (l.map ccV) false) := by
  subst hn
  refine .bs b 0 l.length cap _ _ hk (by simp [hc]) (by simpa using hl) (by simp) (fun a ha ha' => by simp [ccV]) (fun a ha ha' c hc1 hc2 => ?_)
  have h1 : a < cells.length := by simpa using ha
  have h2 : a < l.length := by simpa using ha'
  have e1 : ((cells.map (fun v => [v]))[0 + a]'(by simpa using ha)) = [cells[a]] := by simp
  have e2 : ((l.map ccV)[a]'(by simpa using ha')) = [V.sl (l[a].map prV) false] := by simp [ccV]
  have hc0 : c = 0 := by
    rw [e2] at hc2
    simpa using hc2
  subst hc0
  simp only [e1, e2]
  exact h a h1 h2
theorem cRows_cells (d : Dev) (bc : Nat → Nat) (n : Nat) : cRows d bc n = ((List.range n).map fun i => V.bs (bc i) 0 (cLen d i) (cLen d i)).map (fun v => [v]) := by
  unfold cRows
  rw [List.map_map]
  rfl
theorem fz_dev {st : St} {S C K F : V} {d : Dev} {n : Int} (hn : n = d.next) (hS : Fz st mny S (.sl (d.s.map txV) false)) (hC : Fz st mny C (.sl (d.cache.map ccV) false)) (hK : Fz st mny K (.sl (d.keys.map inV) false)) (hF : Fz st mny F (.sl (d.fen.map inV) false)) :
    Fz st mny (.agg [S, C, K, .int .i64 n, F]) (devV d) := by
  subst hn
  exact fz_agg5 hS hC hK (.plain _ (.int _ _)) hF
/-- the caches as they were copied, but for one -/
theorem fz_caches {st : St} {d : Dev} {bc : Nat → Nat} {bC cap lk : Nat} (hd : DevOk d) (hk : st.get bC = some ⟨cRows d bc d.cache.length, 1, lk⟩) (hci : ∀ i (h : i < d.cache.length), st.get (bc i) = some ⟨d.cache[i].map prV, 2, 0⟩) :
    Fz st mny (.bs bC 0 d.cache.length cap) (.sl (d.cache.map ccV) false) := by
  rw [cRows_cells] at hk
  refine fz_cache hk rfl (by have := hd.c; omega) (by simp) (fun i h h' => ?_)
  have e : ((List.range d.cache.length).map fun i => V.bs (bc i) 0 (cLen d i) (cLen d i))[i] = V.bs (bc i) 0 d.cache[i].length d.cache[i].length := by simp [cLen_at h']
  rw [e]
  exact fz_row (hci i h') (by simp) (by have := hd.ci i h'; omega) ((plain_pr _ _).2 trivial)
theorem fz_caches1 {st : St} {d : Dev} {bc : Nat → Nat} {bC cap lk : Nat} {node : Nat} {v : V} {c : List Pr} (hd : DevOk d) (hn : node < d.cache.length) (hk : st.get bC = some ⟨(cRows d bc d.cache.length).set node [v], 1, lk⟩)
    (hci : ∀ i (h : i < d.cache.length), i ≠ node → st.get (bc i) = some ⟨d.cache[i].map prV, 2, 0⟩) (hv : Fz st mny v (.sl (c.map prV) false)) :
    Fz st mny (.bs bC 0 d.cache.length cap) (.sl ((d.cache.set node c).map ccV) false) := by
  have e0 : (cRows d bc d.cache.length).set node [v] = (((List.range d.cache.length).map fun i => V.bs (bc i) 0 (cLen d i) (cLen d i)).set node v).map (fun v => [v]) := by rw [cRows_cells, List.map_set]
  rw [e0] at hk
  refine fz_cache hk (by simp) (by have := hd.c; omega) (by simp) (fun i h h' => ?_)
  have hi : i < d.cache.length := by simpa using h'
  by_cases e : node = i
  · subst e
    simp only [List.getElem_set_self]
    exact hv
  · rw [List.getElem_set_ne e, List.getElem_set_ne e]
    have e : ((List.range d.cache.length).map fun i => V.bs (bc i) 0 (cLen d i) (cLen d i))[i]'(by simpa using hi) = V.bs (bc i) 0 d.cache[i].length d.cache[i].length := by simp [cLen_at hi]
    rw [e]
    exact fz_row (hci i hi (by omega)) (by simp) (by have := hd.ci i hi; omega) ((plain_pr _ _).2 trivial)
set_option maxRecDepth 100000 in
set_option maxHeartbeats 16000000 in
theorem Do_1 (d : Dev) (hd : DevOk d) (hm : MayD d) (node : Nat) (hn : node < d.keys.length) (a : Ac) (ha : AcOk a) (hk : a.k = 1) : Con Try.prog 12 [devV d, .int .i64 node, acV a] (· = doV (doR d node a)) := by
  have hA := notA hm hn (by omega) (by omega : a.k ≤ 6)
  have hB : ¬ refB d a := by rintro (⟨h, _⟩ | ⟨h, _⟩ | ⟨h, _⟩) <;> omega
  have hcn : node < d.cache.length := by rw [hm.c]; exact hn
  have hkg : d.keys[node]? = some d.keys[node] := List.getElem?_eq_getElem hn
  have hkd : d.keys.getD node 0 = d.keys[node] := by rw [List.getD_eq_getElem?_getD, hkg]; rfl
  have hCd : refC d node a ↔ fencedB d [d.keys[node]] = true := by
    unfold refC
    rw [Int.toNat_natCast, hkd]
    exact ⟨fun h => h.2, fun h => ⟨by omega, h⟩⟩
  have hDd : refD d a ↔ (a.s < 0 ∨ (d.s.length : Int) ≤ a.s) := ⟨fun h => h.2, fun h => ⟨.inl hk, h⟩⟩
  have hc : PCon Try.prog 36 [devV d] (.int .i64 0) := ⟨by have := Check_con d hd; rw [show chk d = 0 by unfold chk; rw [(checkB_iff d).2 hm]; rfl] at this; exact this, by (simp only [List.nil_append, List.cons_append, List.append_nil, List.forall_mem_cons, List.not_mem_nil, false_implies, implies_true, and_true, true_and, plain_agg, plain_tup, plain_int, plain_bool, plain_str, plain_nilp, plain_nilfn, plain_undef, plain_dev, plain_pr, plain_tx, plain_in, plain_cc])⟩
  have hF : Con Try.prog 38 [devV d, .sl [[.int .i64 d.keys[node]]] false] (· = .bool (fencedB d [d.keys[node]])) := Fenced_con _ _ _ _ d false false [d.keys[node]] (by have := hd.f; omega) (by simp)
  have hpd : Plain (devV d) := (plain_dev d).2 trivial
  have hpk : Plain (.sl [[.int .i64 d.keys[node]]] false) := (plain_in [d.keys[node]] false).2 trivial
  have hcl := hd.ci node hcn
  refine con_of_awp Try.func12 rfl mixed (by decide) rfl (by kernel_rfl) rfl ?_
  cases hfb : fencedB d [d.keys[node]] with
  | true =>
    rw [hfb] at hF
    rw [refuse_c hA hB (hCd.2 hfb)]
    (repeat' (first | with_reducible refine agr_d (fun hc => ?_) (fun hc => ?_) | with_reducible refine agr_n (fun hc => ?_) (fun hc => ?_) | with_reducible refine acd_d (fun hc => ?_) (fun hc => ?_) | with_reducible refine acd_n (fun hc => ?_) (fun hc => ?_) | with_reducible refine dgr_d (fun hc => ?_) (fun hc => ?_) | with_reducible refine dgr_n (fun hc => ?_) (fun hc => ?_) | with_reducible refine dl_sound _ _ [] [] [] _ _ (fun _ h => absurd h List.not_mem_nil) ?_ | with_reducible refine conEnd_p (.inl rfl) ?_ | with_reducible refine conEnd_p (.inr rfl) ?_ | with_reducible refine dc1_p hc ?_ | with_reducible refine ac1_p hc ?_ | with_reducible refine dc1_sc2 (sz := 1) (lk := 0) hpd ?_ ?_ hpk hF (.bool _) ?_ | simp (disch := omega) only [go_sem, devV, doV, hk, hkg, Nat.reduceAdd, Nat.reduceSub, Nat.reduceMul, Nat.reduceLeDiff, Nat.reduceLT, Nat.reduceEqDiff, Int.reduceLT, Int.reduceLE, Int.reduceToNat, Int.reduceAdd, Int.reduceSub, Int.reduceMul, Int.reduceEq, Int.reduceNeg, reduceCtorEq, true_and, and_true, Int.toNat_natCast, List.getElem?_map, Option.map_some, List.length_map, List.length_take, List.length_drop, List.length_append, Nat.sub_zero, Int.toNat_zero, List.length_replicate, Bool.true_or, Bool.or_true, Bool.false_or, Bool.or_false, false_implies, implies_true]))
  | false =>
    rw [hfb] at hF
    have hC : ¬ refC d node a := by rw [hCd, hfb]; simp
    by_cases g1 : a.s < 0
    · rw [refuse_d hA hB hC (hDd.2 (.inl g1))]
      (repeat' (first | with_reducible refine agr_d (fun hc => ?_) (fun hc => ?_) | with_reducible refine agr_n (fun hc => ?_) (fun hc => ?_) | with_reducible refine acd_d (fun hc => ?_) (fun hc => ?_) | with_reducible refine acd_n (fun hc => ?_) (fun hc => ?_) | with_reducible refine dgr_d (fun hc => ?_) (fun hc => ?_) | with_reducible refine dgr_n (fun hc => ?_) (fun hc => ?_) | with_reducible refine dl_sound _ _ [] [] [] _ _ (fun _ h => absurd h List.not_mem_nil) ?_ | with_reducible refine conEnd_p (.inl rfl) ?_ | with_reducible refine conEnd_p (.inr rfl) ?_ | with_reducible refine dc1_p hc ?_ | with_reducible refine ac1_p hc ?_ | with_reducible refine dc1_sc2 (sz := 1) (lk := 0) hpd ?_ ?_ hpk hF (.bool _) ?_ | simp (disch := omega) only [go_sem, devV, doV, hk, hkg, Nat.reduceAdd, Nat.reduceSub, Nat.reduceMul, Nat.reduceLeDiff, Nat.reduceLT, Nat.reduceEqDiff, Int.reduceLT, Int.reduceLE, Int.reduceToNat, Int.reduceAdd, Int.reduceSub, Int.reduceMul, Int.reduceEq, Int.reduceNeg, reduceCtorEq, true_and, and_true, Int.toNat_natCast, List.getElem?_map, Option.map_some, List.length_map, List.length_take, List.length_drop, List.length_append, Nat.sub_zero, Int.toNat_zero, List.length_replicate, Bool.true_or, Bool.or_true, Bool.false_or, Bool.or_false, false_implies, implies_true]))
    by_cases g2 : (d.s.length : Int) ≤ a.s
    · rw [refuse_d hA hB hC (hDd.2 (.inr g2))]
      (repeat' (first | with_reducible refine agr_d (fun hc => ?_) (fun hc => ?_) | with_reducible refine agr_n (fun hc => ?_) (fun hc => ?_) | with_reducible refine acd_d (fun hc => ?_) (fun hc => ?_) | with_reducible refine acd_n (fun hc => ?_) (fun hc => ?_) | with_reducible refine dgr_d (fun hc => ?_) (fun hc => ?_) | with_reducible refine dgr_n (fun hc => ?_) (fun hc => ?_) | with_reducible refine dl_sound _ _ [] [] [] _ _ (fun _ h => absurd h List.not_mem_nil) ?_ | with_reducible refine conEnd_p (.inl rfl) ?_ | with_reducible refine conEnd_p (.inr rfl) ?_ | with_reducible refine dc1_p hc ?_ | with_reducible refine ac1_p hc ?_ | with_reducible refine dc1_sc2 (sz := 1) (lk := 0) hpd ?_ ?_ hpk hF (.bool _) ?_ | simp (disch := omega) only [go_sem, devV, doV, hk, hkg, Nat.reduceAdd, Nat.reduceSub, Nat.reduceMul, Nat.reduceLeDiff, Nat.reduceLT, Nat.reduceEqDiff, Int.reduceLT, Int.reduceLE, Int.reduceToNat, Int.reduceAdd, Int.reduceSub, Int.reduceMul, Int.reduceEq, Int.reduceNeg, reduceCtorEq, true_and, and_true, Int.toNat_natCast, List.getElem?_map, Option.map_some, List.length_map, List.length_take, List.length_drop, List.length_append, Nat.sub_zero, Int.toNat_zero, List.length_replicate, Bool.true_or, Bool.or_true, Bool.false_or, Bool.or_false, false_implies, implies_true]))
    have hD : ¬ refD d a := by rw [hDd]; omega
    rw [do_ok hA hB hC hD]
    (repeat' (first | with_reducible refine agr_d (fun hc => ?_) (fun hc => ?_) | with_reducible refine agr_n (fun hc => ?_) (fun hc => ?_) | with_reducible refine acd_d (fun hc => ?_) (fun hc => ?_) | with_reducible refine acd_n (fun hc => ?_) (fun hc => ?_) | with_reducible refine dgr_d (fun hc => ?_) (fun hc => ?_) | with_reducible refine dgr_n (fun hc => ?_) (fun hc => ?_) | with_reducible refine dl_sound _ _ [] [] [] _ _ (fun _ h => absurd h List.not_mem_nil) ?_ | with_reducible refine conEnd_p (.inl rfl) ?_ | with_reducible refine conEnd_p (.inr rfl) ?_ | with_reducible refine dc1_p hc ?_ | with_reducible refine ac1_p hc ?_ | with_reducible refine dc1_sc2 (sz := 1) (lk := 0) hpd ?_ ?_ hpk hF (.bool _) ?_ | simp (disch := omega) only [go_sem, devV, doV, hk, hkg, Nat.reduceAdd, Nat.reduceSub, Nat.reduceMul, Nat.reduceLeDiff, Nat.reduceLT, Nat.reduceEqDiff, Int.reduceLT, Int.reduceLE, Int.reduceToNat, Int.reduceAdd, Int.reduceSub, Int.reduceMul, Int.reduceEq, Int.reduceNeg, reduceCtorEq, true_and, and_true, Int.toNat_natCast, List.getElem?_map, Option.map_some, List.length_map, List.length_take, List.length_drop, List.length_append, Nat.sub_zero, Int.toNat_zero, List.length_replicate, Bool.true_or, Bool.or_true, Bool.false_or, Bool.or_false, false_implies, implies_true]))
    refine ac1_i (copied_con d hd (by omega) _) ?_
    rintro _ ⟨g, c⟩ ⟨bS, bK, bF, bC, bc, rfl, HF, hold⟩
    obtain ⟨o1, o2, o3, o4, o5, o6, o7, hS, hK, hFn, hC1, hci⟩ := HF
    have o4n := o4 node hcn
    have hcin := hci node hcn
    have hcr := cRows_at (bc := bc) hcn
    dsimp only at o1 o7 hS hK hFn hC1 hci hold hcin
    have o1' : 3 ≤ bS := Nat.le_trans (by simp) o1
    have q0 : g 0 = some (devB d) := (hold 0 (by simp)).trans (by simp (disch := omega) only [go_sem, Nat.reduceAdd, Nat.reduceSub, Nat.reduceMul, Nat.reduceLeDiff, Nat.reduceLT, Nat.reduceEqDiff, Int.reduceLT, Int.reduceLE, Int.reduceToNat, Int.reduceAdd, Int.reduceSub, Int.reduceMul, Int.reduceEq, Int.reduceNeg, reduceCtorEq, true_and, and_true, Int.toNat_natCast, List.getElem?_map, Option.map_some, List.length_map, List.length_take, List.length_drop, List.length_append, Nat.sub_zero, Int.toNat_zero, List.length_replicate, Bool.true_or, Bool.or_true, Bool.false_or, Bool.or_false, false_implies, implies_true] <;> rfl)
    have q1 : g 1 = some ⟨[[.int .i8 1, .int .i64 a.s, .str a.b, .int .i64 a.key]], 4, 0⟩ := (hold 1 (by simp)).trans (by simp (disch := omega) only [go_sem, hk, Nat.reduceAdd, Nat.reduceSub, Nat.reduceMul, Nat.reduceLeDiff, Nat.reduceLT, Nat.reduceEqDiff, Int.reduceLT, Int.reduceLE, Int.reduceToNat, Int.reduceAdd, Int.reduceSub, Int.reduceMul, Int.reduceEq, Int.reduceNeg, reduceCtorEq, true_and, and_true, Int.toNat_natCast, List.getElem?_map, Option.map_some, List.length_map, List.length_take, List.length_drop, List.length_append, Nat.sub_zero, Int.toNat_zero, List.length_replicate, Bool.true_or, Bool.or_true, Bool.false_or, Bool.or_false, false_implies, implies_true] <;> rfl)
    have q2 : g 2 = some ⟨[[.sl [] true, .sl [] true, .sl [] true, .int .i64 0, .sl [] true]], 5, 0⟩ := (hold 2 (by simp)).trans (by simp (disch := omega) only [go_sem, Nat.reduceAdd, Nat.reduceSub, Nat.reduceMul, Nat.reduceLeDiff, Nat.reduceLT, Nat.reduceEqDiff, Int.reduceLT, Int.reduceLE, Int.reduceToNat, Int.reduceAdd, Int.reduceSub, Int.reduceMul, Int.reduceEq, Int.reduceNeg, reduceCtorEq, true_and, and_true, Int.toNat_natCast, List.getElem?_map, Option.map_some, List.length_map, List.length_take, List.length_drop, List.length_append, Nat.sub_zero, Int.toNat_zero, List.length_replicate, Bool.true_or, Bool.or_true, Bool.false_or, Bool.or_false, false_implies, implies_true] <;> rfl)
    clear hold o1
    have hP := place_con d.cache[node] false a.s (by omega)
    have hpl : Plain (.sl (d.cache[node].map prV) false) := (plain_pr _ _).2 trivial
    have hs1 := ha.s
    have hcd : d.cache.getD node [] = d.cache[node] := by rw [List.getD_eq_getElem?_getD, List.getElem?_eq_getElem hcn]; rfl
    have hsl : a.s.toNat < d.s.length := by omega
    have hsg : d.s[a.s.toNat]? = some d.s[a.s.toNat] := List.getElem?_eq_getElem hsl
    cases hpn : placeN d.cache[node] a.s with
    | none =>
      rw [placeR, hpn] at hP
      (repeat' (first | with_reducible refine agr_d (fun hc => ?_) (fun hc => ?_) | with_reducible refine agr_n (fun hc => ?_) (fun hc => ?_) | with_reducible refine acd_d (fun hc => ?_) (fun hc => ?_) | with_reducible refine acd_n (fun hc => ?_) (fun hc => ?_) | with_reducible refine dgr_d (fun hc => ?_) (fun hc => ?_) | with_reducible refine dgr_n (fun hc => ?_) (fun hc => ?_) | with_reducible refine dl_sound _ _ [] [] [] _ _ (fun _ h => absurd h List.not_mem_nil) ?_ | with_reducible refine ac1_sc1 (sz := 2) (lk := 0) (.int _ _) ?_ ?_ hpl hP (.int _ _) ?_ | simp (disch := omega) only [go_sem, freshV, hk, hsg, q0, q1, q2, hS, hK, hFn, hC1, hcin, hcr, Nat.reduceAdd, Nat.reduceSub, Nat.reduceMul, Nat.reduceLeDiff, Nat.reduceLT, Nat.reduceEqDiff, Int.reduceLT, Int.reduceLE, Int.reduceToNat, Int.reduceAdd, Int.reduceSub, Int.reduceMul, Int.reduceEq, Int.reduceNeg, reduceCtorEq, true_and, and_true, Int.toNat_natCast, List.getElem?_map, Option.map_some, List.length_map, List.length_take, List.length_drop, List.length_append, Nat.sub_zero, Int.toNat_zero, List.length_replicate, Bool.true_or, Bool.or_true, Bool.false_or, Bool.or_false, false_implies, implies_true]))
      refine conEnd_f (.inl rfl) ?_
      simp (disch := omega) only [go_sem, hS, hK, hFn, hC1, hcin, Nat.reduceAdd, Nat.reduceSub, Nat.reduceMul, Nat.reduceLeDiff, Nat.reduceLT, Nat.reduceEqDiff, Int.reduceLT, Int.reduceLE, Int.reduceToNat, Int.reduceAdd, Int.reduceSub, Int.reduceMul, Int.reduceEq, Int.reduceNeg, reduceCtorEq, true_and, and_true, Int.toNat_natCast, List.getElem?_map, Option.map_some, List.length_map, List.length_take, List.length_drop, List.length_append, Nat.sub_zero, Int.toNat_zero, List.length_replicate, Bool.true_or, Bool.or_true, Bool.false_or, Bool.or_false, false_implies, implies_true]
      have hact : actD d node a = (d, d.s[a.s.toNat]) := by
        unfold actD
        dsimp only
        rw [if_pos hk, hcd, hpn]
        simp [List.getD_eq_getElem?_getD, hsl]
      rw [hact]
      refine ⟨mny, _, fz_tup3 (fz_dev (d := d) rfl (fz_row (sz := 1) (lk := 0) ?_ (by simp) (by have := hd.s; omega) ((plain_tx _ _).2 trivial)) (fz_caches (lk := 0) (bc := bc) hd ?_ (fun i h => ?_)) (fz_row (sz := 1) (lk := 0) ?_ (by simp) (by have := hd.k; omega) ((plain_in _ _).2 trivial)) (fz_row (sz := 1) (lk := 0) ?_ (by simp) (by have := hd.f; omega) ((plain_in _ _).2 trivial))) (.plain _ (.str _)) (.plain _ (.int _ _)), rfl⟩
      · simp (disch := omega) only [go_sem, hS, Nat.reduceAdd, Nat.reduceSub, Nat.reduceMul, Nat.reduceLeDiff, Nat.reduceLT, Nat.reduceEqDiff, Int.reduceLT, Int.reduceLE, Int.reduceToNat, Int.reduceAdd, Int.reduceSub, Int.reduceMul, Int.reduceEq, Int.reduceNeg, reduceCtorEq, true_and, and_true, Int.toNat_natCast, List.getElem?_map, Option.map_some, List.length_map, List.length_take, List.length_drop, List.length_append, Nat.sub_zero, Int.toNat_zero, List.length_replicate, Bool.true_or, Bool.or_true, Bool.false_or, Bool.or_false, false_implies, implies_true]
      · simp (disch := omega) only [go_sem, hC1, Nat.reduceAdd, Nat.reduceSub, Nat.reduceMul, Nat.reduceLeDiff, Nat.reduceLT, Nat.reduceEqDiff, Int.reduceLT, Int.reduceLE, Int.reduceToNat, Int.reduceAdd, Int.reduceSub, Int.reduceMul, Int.reduceEq, Int.reduceNeg, reduceCtorEq, true_and, and_true, Int.toNat_natCast, List.getElem?_map, Option.map_some, List.length_map, List.length_take, List.length_drop, List.length_append, Nat.sub_zero, Int.toNat_zero, List.length_replicate, Bool.true_or, Bool.or_true, Bool.false_or, Bool.or_false, false_implies, implies_true]
      · have := o4 i h
        have := hci i h
        simp (disch := omega) only [go_sem, this, Nat.reduceAdd, Nat.reduceSub, Nat.reduceMul, Nat.reduceLeDiff, Nat.reduceLT, Nat.reduceEqDiff, Int.reduceLT, Int.reduceLE, Int.reduceToNat, Int.reduceAdd, Int.reduceSub, Int.reduceMul, Int.reduceEq, Int.reduceNeg, reduceCtorEq, true_and, and_true, Int.toNat_natCast, List.getElem?_map, Option.map_some, List.length_map, List.length_take, List.length_drop, List.length_append, Nat.sub_zero, Int.toNat_zero, List.length_replicate, Bool.true_or, Bool.or_true, Bool.false_or, Bool.or_false, false_implies, implies_true]
      · simp (disch := omega) only [go_sem, hK, Nat.reduceAdd, Nat.reduceSub, Nat.reduceMul, Nat.reduceLeDiff, Nat.reduceLT, Nat.reduceEqDiff, Int.reduceLT, Int.reduceLE, Int.reduceToNat, Int.reduceAdd, Int.reduceSub, Int.reduceMul, Int.reduceEq, Int.reduceNeg, reduceCtorEq, true_and, and_true, Int.toNat_natCast, List.getElem?_map, Option.map_some, List.length_map, List.length_take, List.length_drop, List.length_append, Nat.sub_zero, Int.toNat_zero, List.length_replicate, Bool.true_or, Bool.or_true, Bool.false_or, Bool.or_false, false_implies, implies_true]
      · simp (disch := omega) only [go_sem, hFn, Nat.reduceAdd, Nat.reduceSub, Nat.reduceMul, Nat.reduceLeDiff, Nat.reduceLT, Nat.reduceEqDiff, Int.reduceLT, Int.reduceLE, Int.reduceToNat, Int.reduceAdd, Int.reduceSub, Int.reduceMul, Int.reduceEq, Int.reduceNeg, reduceCtorEq, true_and, and_true, Int.toNat_natCast, List.getElem?_map, Option.map_some, List.length_map, List.length_take, List.length_drop, List.length_append, Nat.sub_zero, Int.toNat_zero, List.length_replicate, Bool.true_or, Bool.or_true, Bool.false_or, Bool.or_false, false_implies, implies_true]
    | some q =>
      obtain ⟨hq, hqs⟩ := placeN_lt hpn
      have hqg : d.cache[node][q]? = some d.cache[node][q] := List.getElem?_eq_getElem hq
      rw [placeR, hpn] at hP
      (repeat' (first | with_reducible refine agr_d (fun hc => ?_) (fun hc => ?_) | with_reducible refine agr_n (fun hc => ?_) (fun hc => ?_) | with_reducible refine acd_d (fun hc => ?_) (fun hc => ?_) | with_reducible refine acd_n (fun hc => ?_) (fun hc => ?_) | with_reducible refine dgr_d (fun hc => ?_) (fun hc => ?_) | with_reducible refine dgr_n (fun hc => ?_) (fun hc => ?_) | with_reducible refine dl_sound _ _ [] [] [] _ _ (fun _ h => absurd h List.not_mem_nil) ?_ | with_reducible refine ac1_sc1 (sz := 2) (lk := 0) (.int _ _) ?_ ?_ hpl hP (.int _ _) ?_ | simp (disch := omega) only [go_sem, freshV, hk, hsg, q0, q1, q2, hS, hK, hFn, hC1, hcin, hcr, hqg, Nat.reduceAdd, Nat.reduceSub, Nat.reduceMul, Nat.reduceLeDiff, Nat.reduceLT, Nat.reduceEqDiff, Int.reduceLT, Int.reduceLE, Int.reduceToNat, Int.reduceAdd, Int.reduceSub, Int.reduceMul, Int.reduceEq, Int.reduceNeg, reduceCtorEq, true_and, and_true, Int.toNat_natCast, List.getElem?_map, Option.map_some, List.length_map, List.length_take, List.length_drop, List.length_append, Nat.sub_zero, Int.toNat_zero, List.length_replicate, Bool.true_or, Bool.or_true, Bool.false_or, Bool.or_false, false_implies, implies_true]))
      refine conEnd_f (.inl rfl) ?_
      simp (disch := omega) only [go_sem, hS, hK, hFn, hC1, hcin, Nat.reduceAdd, Nat.reduceSub, Nat.reduceMul, Nat.reduceLeDiff, Nat.reduceLT, Nat.reduceEqDiff, Int.reduceLT, Int.reduceLE, Int.reduceToNat, Int.reduceAdd, Int.reduceSub, Int.reduceMul, Int.reduceEq, Int.reduceNeg, reduceCtorEq, true_and, and_true, Int.toNat_natCast, List.getElem?_map, Option.map_some, List.length_map, List.length_take, List.length_drop, List.length_append, Nat.sub_zero, Int.toNat_zero, List.length_replicate, Bool.true_or, Bool.or_true, Bool.false_or, Bool.or_false, false_implies, implies_true]
      have hact : actD d node a = (d, d.cache[node][q].t) := by
        unfold actD
        dsimp only
        rw [if_pos hk, hcd, hpn]
        simp [List.getD_eq_getElem?_getD, hq]
      rw [hact]
      refine ⟨mny, _, fz_tup3 (fz_dev (d := d) rfl (fz_row (sz := 1) (lk := 0) ?_ (by simp) (by have := hd.s; omega) ((plain_tx _ _).2 trivial)) (fz_caches (lk := 0) (bc := bc) hd ?_ (fun i h => ?_)) (fz_row (sz := 1) (lk := 0) ?_ (by simp) (by have := hd.k; omega) ((plain_in _ _).2 trivial)) (fz_row (sz := 1) (lk := 0) ?_ (by simp) (by have := hd.f; omega) ((plain_in _ _).2 trivial))) (.plain _ (.str _)) (.plain _ (.int _ _)), rfl⟩
      · simp (disch := omega) only [go_sem, hS, Nat.reduceAdd, Nat.reduceSub, Nat.reduceMul, Nat.reduceLeDiff, Nat.reduceLT, Nat.reduceEqDiff, Int.reduceLT, Int.reduceLE, Int.reduceToNat, Int.reduceAdd, Int.reduceSub, Int.reduceMul, Int.reduceEq, Int.reduceNeg, reduceCtorEq, true_and, and_true, Int.toNat_natCast, List.getElem?_map, Option.map_some, List.length_map, List.length_take, List.length_drop, List.length_append, Nat.sub_zero, Int.toNat_zero, List.length_replicate, Bool.true_or, Bool.or_true, Bool.false_or, Bool.or_false, false_implies, implies_true]
      · simp (disch := omega) only [go_sem, hC1, Nat.reduceAdd, Nat.reduceSub, Nat.reduceMul, Nat.reduceLeDiff, Nat.reduceLT, Nat.reduceEqDiff, Int.reduceLT, Int.reduceLE, Int.reduceToNat, Int.reduceAdd, Int.reduceSub, Int.reduceMul, Int.reduceEq, Int.reduceNeg, reduceCtorEq, true_and, and_true, Int.toNat_natCast, List.getElem?_map, Option.map_some, List.length_map, List.length_take, List.length_drop, List.length_append, Nat.sub_zero, Int.toNat_zero, List.length_replicate, Bool.true_or, Bool.or_true, Bool.false_or, Bool.or_false, false_implies, implies_true]
      · have := o4 i h
        have := hci i h
        simp (disch := omega) only [go_sem, this, Nat.reduceAdd, Nat.reduceSub, Nat.reduceMul, Nat.reduceLeDiff, Nat.reduceLT, Nat.reduceEqDiff, Int.reduceLT, Int.reduceLE, Int.reduceToNat, Int.reduceAdd, Int.reduceSub, Int.reduceMul, Int.reduceEq, Int.reduceNeg, reduceCtorEq, true_and, and_true, Int.toNat_natCast, List.getElem?_map, Option.map_some, List.length_map, List.length_take, List.length_drop, List.length_append, Nat.sub_zero, Int.toNat_zero, List.length_replicate, Bool.true_or, Bool.or_true, Bool.false_or, Bool.or_false, false_implies, implies_true]
      · simp (disch := omega) only [go_sem, hK, Nat.reduceAdd, Nat.reduceSub, Nat.reduceMul, Nat.reduceLeDiff, Nat.reduceLT, Nat.reduceEqDiff, Int.reduceLT, Int.reduceLE, Int.reduceToNat, Int.reduceAdd, Int.reduceSub, Int.reduceMul, Int.reduceEq, Int.reduceNeg, reduceCtorEq, true_and, and_true, Int.toNat_natCast, List.getElem?_map, Option.map_some, List.length_map, List.length_take, List.length_drop, List.length_append, Nat.sub_zero, Int.toNat_zero, List.length_replicate, Bool.true_or, Bool.or_true, Bool.false_or, Bool.or_false, false_implies, implies_true]
      · simp (disch := omega) only [go_sem, hFn, Nat.reduceAdd, Nat.reduceSub, Nat.reduceMul, Nat.reduceLeDiff, Nat.reduceLT, Nat.reduceEqDiff, Int.reduceLT, Int.reduceLE, Int.reduceToNat, Int.reduceAdd, Int.reduceSub, Int.reduceMul, Int.reduceEq, Int.reduceNeg, reduceCtorEq, true_and, and_true, Int.toNat_natCast, List.getElem?_map, Option.map_some, List.length_map, List.length_take, List.length_drop, List.length_append, Nat.sub_zero, Int.toNat_zero, List.length_replicate, Bool.true_or, Bool.or_true, Bool.false_or, Bool.or_false, false_implies, implies_true]
end Go.Proofs.Ytllijcnbjbfabaa

namespace Go.Proofs.Ytllijcnbjbfabaa
open Go.RowKit
set_option linter.unusedSimpArgs false
set_option linter.unusedVariables false

section
variable {st : St} {f : Nat → Nat} {a b c d a' b' c' d' : V}
theorem fzs_four (h1 : Fz st f a a') (h2 : Fz st f b b') (h3 : Fz st f c c') (h4 : Fz st f d d') : Fzs st f [a, b, c, d] [a', b', c', d'] := ⟨rfl, fun j hj hj' => by
  match j, hj with
  | 0, _ => exact h1
  | 1, _ => exact h2
  | 2, _ => exact h3
  | 3, _ => exact h4⟩
end
section
variable {P : Program} {ops : Array Oper} {n0 k : Nat} {h : FuncId} {d : Option Tmp} {op : Oper} {l : List Oper} {rd wr : Acc} {fr : Fr} {st : St} {g : Gs} {r x y z : V} {b n cap sz lk : Nat} {es : List (List V)}
theorem dc1_sc4 {K : Fr → Gs → Prop} (hx : Plain x) (hy : Plain y) (hz : Plain z) (hg : g b = some ⟨es, sz, lk⟩) (hn : n = es.length) (hp : Plain (.sl es false)) (hc : Con P h [x, y, z, .sl es false] (· = r)) (hs : Sc r)
    (hk : okAcc op wr [n0 + k, b] [] = true ∧ dl P ops n0 K l (k + 1) ((k, [n0 + k, b], []) :: rd) wr (fr.put d r) g) : dc1 P ops n0 K h [x, y, z, .bs b 0 n cap] d op l k rd wr fr g :=
  dc1_sc (fun _ => es.length) [b] (fzs_four (.plain _ hx) (.plain _ hy) (.plain _ hz) (fz_in hg hn hp)) hc hs hk
end
theorem sc_mk (a : ByteArray) (n : Int) : Sc (.tup [.str a, .int .i64 n]) := .tup _ fun x hx => by
  simp only [List.mem_cons, List.not_mem_nil, or_false] at hx
  rcases hx with rfl | rfl
  · exact .str _
  · exact .int _ _
set_option maxRecDepth 100000 in
set_option maxHeartbeats 16000000 in
theorem widths_con : PCon Try.prog 71 [] (.sl (geoW.map inV) false) := by
  refine ⟨?_, by simp⟩
  refine con_of_awp Try.func71 rfl mixed (by decide) rfl (by kernel_rfl) rfl ?_
  (repeat' (first | with_reducible refine agr_d (fun hc => ?_) (fun hc => ?_) | with_reducible refine agr_n (fun hc => ?_) (fun hc => ?_) | with_reducible refine acd_d (fun hc => ?_) (fun hc => ?_) | with_reducible refine acd_n (fun hc => ?_) (fun hc => ?_) | with_reducible refine dgr_d (fun hc => ?_) (fun hc => ?_) | with_reducible refine dgr_n (fun hc => ?_) (fun hc => ?_) | with_reducible refine dl_sound _ _ [] [] [] _ _ (fun _ h => absurd h List.not_mem_nil) ?_ | simp (disch := omega) only [go_sem, Nat.reduceAdd, Nat.reduceSub, Nat.reduceMul, Nat.reduceLeDiff, Nat.reduceLT, Nat.reduceEqDiff, Int.reduceLT, Int.reduceLE, Int.reduceToNat, Int.reduceAdd, Int.reduceSub, Int.reduceMul, Int.reduceEq, Int.reduceNeg, reduceCtorEq, true_and, and_true, Int.toNat_natCast, List.getElem?_map, Option.map_some, List.length_map, List.length_take, List.length_drop, List.length_append, Nat.sub_zero, Int.toNat_zero, List.length_replicate, Bool.true_or, Bool.or_true, Bool.false_or, Bool.or_false, false_implies, implies_true]))
  refine conEnd_f (.inl rfl) ?_
  simp (disch := omega) only [go_sem, Nat.reduceAdd, Nat.reduceSub, Nat.reduceMul, Nat.reduceLeDiff, Nat.reduceLT, Nat.reduceEqDiff, Int.reduceLT, Int.reduceLE, Int.reduceToNat, Int.reduceAdd, Int.reduceSub, Int.reduceMul, Int.reduceEq, Int.reduceNeg, reduceCtorEq, true_and, and_true, Int.toNat_natCast, List.getElem?_map, Option.map_some, List.length_map, List.length_take, List.length_drop, List.length_append, Nat.sub_zero, Int.toNat_zero, List.length_replicate, Bool.true_or, Bool.or_true, Bool.false_or, Bool.or_false, false_implies, implies_true]
  exact ⟨mny, _, fz_row (sz := 1) (lk := 0) (es := geoW.map inV) (by rw [St.get_new, if_pos rfl]; rfl) rfl (by omega) ((plain_in _ _).2 trivial), rfl⟩
set_option maxRecDepth 100000 in
set_option maxHeartbeats 16000000 in
theorem Head5_con (n : Int) : PCon Try.prog 17 [.int .i64 n] (mk3V (makeR 2 [] [6] [n])) := by
  refine ⟨?_, by (simp only [List.nil_append, List.cons_append, List.append_nil, List.forall_mem_cons, List.not_mem_nil, false_implies, implies_true, and_true, true_and, plain_agg, plain_tup, plain_int, plain_bool, plain_str, plain_nilp, plain_nilfn, plain_undef, plain_dev, plain_pr, plain_tx, plain_in, plain_cc])⟩
  have hM := Make3_con 2 ⟨#[]⟩ [6] [n] false false (by omega) (by decide) (by simp) (by simp)
  refine con_of_awp Try.func17 rfl mixed (by decide) rfl (by kernel_rfl) rfl ?_
  (repeat' (first | with_reducible refine agr_d (fun hc => ?_) (fun hc => ?_) | with_reducible refine agr_n (fun hc => ?_) (fun hc => ?_) | with_reducible refine acd_d (fun hc => ?_) (fun hc => ?_) | with_reducible refine acd_n (fun hc => ?_) (fun hc => ?_) | with_reducible refine dgr_d (fun hc => ?_) (fun hc => ?_) | with_reducible refine dgr_n (fun hc => ?_) (fun hc => ?_) | with_reducible refine dl_sound _ _ [] [] [] _ _ (fun _ h => absurd h List.not_mem_nil) ?_ | simp (disch := omega) only [go_sem, Nat.reduceAdd, Nat.reduceSub, Nat.reduceMul, Nat.reduceLeDiff, Nat.reduceLT, Nat.reduceEqDiff, Int.reduceLT, Int.reduceLE, Int.reduceToNat, Int.reduceAdd, Int.reduceSub, Int.reduceMul, Int.reduceEq, Int.reduceNeg, reduceCtorEq, true_and, and_true, Int.toNat_natCast, List.getElem?_map, Option.map_some, List.length_map, List.length_take, List.length_drop, List.length_append, Nat.sub_zero, Int.toNat_zero, List.length_replicate, Bool.true_or, Bool.or_true, Bool.false_or, Bool.or_false, false_implies, implies_true]))
  refine ac1_sc mny (fzs_four (.plain _ (.int _ _)) (.plain _ (.str _)) (fz_row (sz := 1) (lk := 0) (es := [6].map inV) ?_ rfl (by omega) ((plain_in _ _).2 trivial)) (fz_row (sz := 1) (lk := 0) (es := [n].map inV) ?_ rfl (by omega) ((plain_in _ _).2 trivial))) hM (sc_mk _ _) ?_
  · simp (disch := omega) only [go_sem, Nat.reduceAdd, Nat.reduceSub, Nat.reduceMul, Nat.reduceLeDiff, Nat.reduceLT, Nat.reduceEqDiff, Int.reduceLT, Int.reduceLE, Int.reduceToNat, Int.reduceAdd, Int.reduceSub, Int.reduceMul, Int.reduceEq, Int.reduceNeg, reduceCtorEq, true_and, and_true, Int.toNat_natCast, List.getElem?_map, Option.map_some, List.length_map, List.length_take, List.length_drop, List.length_append, Nat.sub_zero, Int.toNat_zero, List.length_replicate, Bool.true_or, Bool.or_true, Bool.false_or, Bool.or_false, false_implies, implies_true] <;> rfl
  · simp (disch := omega) only [go_sem, Nat.reduceAdd, Nat.reduceSub, Nat.reduceMul, Nat.reduceLeDiff, Nat.reduceLT, Nat.reduceEqDiff, Int.reduceLT, Int.reduceLE, Int.reduceToNat, Int.reduceAdd, Int.reduceSub, Int.reduceMul, Int.reduceEq, Int.reduceNeg, reduceCtorEq, true_and, and_true, Int.toNat_natCast, List.getElem?_map, Option.map_some, List.length_map, List.length_take, List.length_drop, List.length_append, Nat.sub_zero, Int.toNat_zero, List.length_replicate, Bool.true_or, Bool.or_true, Bool.false_or, Bool.or_false, false_implies, implies_true] <;> rfl
  (repeat' (first | with_reducible refine agr_d (fun hc => ?_) (fun hc => ?_) | with_reducible refine agr_n (fun hc => ?_) (fun hc => ?_) | with_reducible refine acd_d (fun hc => ?_) (fun hc => ?_) | with_reducible refine acd_n (fun hc => ?_) (fun hc => ?_) | with_reducible refine dgr_d (fun hc => ?_) (fun hc => ?_) | with_reducible refine dgr_n (fun hc => ?_) (fun hc => ?_) | with_reducible refine dl_sound _ _ [] [] [] _ _ (fun _ h => absurd h List.not_mem_nil) ?_ | with_reducible refine conEnd_p (.inl rfl) ?_ | with_reducible refine conEnd_p (.inr rfl) ?_ | simp (disch := omega) only [go_sem, Nat.reduceAdd, Nat.reduceSub, Nat.reduceMul, Nat.reduceLeDiff, Nat.reduceLT, Nat.reduceEqDiff, Int.reduceLT, Int.reduceLE, Int.reduceToNat, Int.reduceAdd, Int.reduceSub, Int.reduceMul, Int.reduceEq, Int.reduceNeg, reduceCtorEq, true_and, and_true, Int.toNat_natCast, List.getElem?_map, Option.map_some, List.length_map, List.length_take, List.length_drop, List.length_append, Nat.sub_zero, Int.toNat_zero, List.length_replicate, Bool.true_or, Bool.or_true, Bool.false_or, Bool.or_false, false_implies, implies_true]))
  trace_state
set_option maxRecDepth 100000 in
set_option maxHeartbeats 16000000 in
theorem Bytes5_con (g : Geo) (hb : g.may = true) : PCon Try.prog 34 [geoV g] (mk3V (makeR 1 [] geoW (geoL g))) := by
  refine ⟨?_, by (simp only [List.nil_append, List.cons_append, List.append_nil, List.forall_mem_cons, List.not_mem_nil, false_implies, implies_true, and_true, true_and, plain_agg, plain_tup, plain_int, plain_bool, plain_str, plain_nilp, plain_nilfn, plain_undef, plain_dev, plain_pr, plain_tx, plain_in, plain_cc])⟩
  have hm := May4_con g
  rw [hb] at hm
  have hM : Con Try.prog 51 [.int .i8 1, .str ⟨#[]⟩, .sl [[.int .i64 2], [.int .i64 2], [.int .i64 2], [.int .i64 2], [.int .i64 2], [.int .i64 2], [.int .i64 4], [.int .i64 4]] false,
      .sl [[.int .i64 g.nodes], [.int .i64 g.slots], [.int .i64 g.blocks], [.int .i64 g.per], [.int .i64 g.journal], [.int .i64 g.log], [.int .i64 g.lease], [.int .i64 g.wait]] false] (· = mk3V (makeR 1 [] geoW (geoL g))) :=
    Make3_con 1 ⟨#[]⟩ geoW (geoL g) false false (by omega) (by decide) (by simp) (by simp)
  have hpw : Plain (.sl [[.int .i64 2], [.int .i64 2], [.int .i64 2], [.int .i64 2], [.int .i64 2], [.int .i64 2], [.int .i64 4], [.int .i64 4]] false) := (plain_in geoW _).2 trivial
  have hpl : Plain (.sl [[.int .i64 g.nodes], [.int .i64 g.slots], [.int .i64 g.blocks], [.int .i64 g.per], [.int .i64 g.journal], [.int .i64 g.log], [.int .i64 g.lease], [.int .i64 g.wait]] false) := (plain_in (geoL g) _).2 trivial
  have hw := widths_con
  refine con_of_awp Try.func34 rfl mixed (by decide) rfl (by kernel_rfl) rfl ?_
  (repeat' (first | with_reducible refine agr_d (fun hc => ?_) (fun hc => ?_) | with_reducible refine agr_n (fun hc => ?_) (fun hc => ?_) | with_reducible refine acd_d (fun hc => ?_) (fun hc => ?_) | with_reducible refine acd_n (fun hc => ?_) (fun hc => ?_) | with_reducible refine dgr_d (fun hc => ?_) (fun hc => ?_) | with_reducible refine dgr_n (fun hc => ?_) (fun hc => ?_) | with_reducible refine dl_sound _ _ [] [] [] _ _ (fun _ h => absurd h List.not_mem_nil) ?_ | with_reducible refine conEnd_p (.inl rfl) ?_ | with_reducible refine conEnd_p (.inr rfl) ?_ | with_reducible refine dc1_p hm ?_ | with_reducible refine ac1_p hm ?_ | with_reducible refine dc1_p hw ?_ | with_reducible refine ac1_p hw ?_ | with_reducible refine dc1_sc4 (sz := 1) (lk := 0) (.int _ _) (.str _) hpw ?_ ?_ hpl hM (sc_mk _ _) ?_ | simp (disch := omega) only [go_sem, geoV, Nat.reduceAdd, Nat.reduceSub, Nat.reduceMul, Nat.reduceLeDiff, Nat.reduceLT, Nat.reduceEqDiff, Int.reduceLT, Int.reduceLE, Int.reduceToNat, Int.reduceAdd, Int.reduceSub, Int.reduceMul, Int.reduceEq, Int.reduceNeg, reduceCtorEq, true_and, and_true, Int.toNat_natCast, List.getElem?_map, Option.map_some, List.length_map, List.length_take, List.length_drop, List.length_append, Nat.sub_zero, Int.toNat_zero, List.length_replicate, Bool.true_or, Bool.or_true, Bool.false_or, Bool.or_false, false_implies, implies_true]))
  trace_state
end Go.Proofs.Ytllijcnbjbfabaa

namespace Go.Proofs.Ytllijcnbjbfabaa
open Go.RowKit
set_option linter.unusedSimpArgs false
set_option linter.unusedVariables false

theorem piece_ext (t : ByteArray) (k : Nat) : t.extract (if (t.size : Int) < (k : Int) * 256 then (t.size : Int) else (k : Int) * 256).toNat (if (t.size : Int) < ((k : Int) + 1) * 256 then (t.size : Int) else ((k : Int) + 1) * 256).toNat = pieceB t k := by
  have hl : t.data.toList.length = t.size := Array.length_toList
  rw [← mkS_self (t.extract _ _), Lib.extract_data, pieceB]
  congr 1
  by_cases h1 : (t.size : Int) < (k : Int) * 256
  · rw [if_pos h1, List.drop_eq_nil_of_le (by omega), List.drop_eq_nil_of_le (by omega)]; simp
  · rw [if_neg h1, show ((k : Int) * 256).toNat = 256 * k by omega]
    by_cases h2 : (t.size : Int) < ((k : Int) + 1) * 256
    · rw [if_pos h2, List.take_of_length_le (by simp), List.take_of_length_le (by simp; omega)]
    · rw [if_neg h2, show (((k : Int) + 1) * 256).toNat - 256 * k = 256 by omega]
set_option maxRecDepth 100000 in
set_option maxHeartbeats 16000000 in
theorem Piece16_con (t : ByteArray) (k : Nat) (hk : k ≤ 100000) (ht : t.size ≤ 1000000) : PCon Try.prog 77 [.str t, .int .i64 k] (.str (pieceB t k)) := by
  refine ⟨?_, by (simp only [List.nil_append, List.cons_append, List.append_nil, List.forall_mem_cons, List.not_mem_nil, false_implies, implies_true, and_true, true_and, plain_agg, plain_tup, plain_int, plain_bool, plain_str, plain_nilp, plain_nilfn, plain_undef, plain_dev, plain_pr, plain_tx, plain_in, plain_cc])⟩
  refine con_of_awp Try.func77 rfl mixed (by decide) rfl (by kernel_rfl) rfl ?_
  by_cases h1 : (k : Int) * 256 ≤ t.size
  · by_cases h2 : ((k : Int) + 1) * 256 ≤ t.size
    · (repeat' (first | with_reducible refine agr_d (fun hc => ?_) (fun hc => ?_) | with_reducible refine agr_n (fun hc => ?_) (fun hc => ?_) | with_reducible refine acd_d (fun hc => ?_) (fun hc => ?_) | with_reducible refine acd_n (fun hc => ?_) (fun hc => ?_) | with_reducible refine dgr_d (fun hc => ?_) (fun hc => ?_) | with_reducible refine dgr_n (fun hc => ?_) (fun hc => ?_) | with_reducible refine dl_sound _ _ [] [] [] _ _ (fun _ h => absurd h List.not_mem_nil) ?_ | with_reducible refine conEnd_p (.inl rfl) ?_ | with_reducible refine conEnd_p (.inr rfl) ?_ | simp (disch := omega) only [go_sem, Nat.reduceAdd, Nat.reduceSub, Nat.reduceMul, Nat.reduceLeDiff, Nat.reduceLT, Nat.reduceEqDiff, Int.reduceLT, Int.reduceLE, Int.reduceToNat, Int.reduceAdd, Int.reduceSub, Int.reduceMul, Int.reduceEq, Int.reduceNeg, reduceCtorEq, true_and, and_true, Int.toNat_natCast, List.getElem?_map, Option.map_some, List.length_map, List.length_take, List.length_drop, List.length_append, Nat.sub_zero, Int.toNat_zero, List.length_replicate, Bool.true_or, Bool.or_true, Bool.false_or, Bool.or_false, false_implies, implies_true]))
      rw [piece_ext]
    · (repeat' (first | with_reducible refine agr_d (fun hc => ?_) (fun hc => ?_) | with_reducible refine agr_n (fun hc => ?_) (fun hc => ?_) | with_reducible refine acd_d (fun hc => ?_) (fun hc => ?_) | with_reducible refine acd_n (fun hc => ?_) (fun hc => ?_) | with_reducible refine dgr_d (fun hc => ?_) (fun hc => ?_) | with_reducible refine dgr_n (fun hc => ?_) (fun hc => ?_) | with_reducible refine dl_sound _ _ [] [] [] _ _ (fun _ h => absurd h List.not_mem_nil) ?_ | with_reducible refine conEnd_p (.inl rfl) ?_ | with_reducible refine conEnd_p (.inr rfl) ?_ | simp (disch := omega) only [go_sem, Nat.reduceAdd, Nat.reduceSub, Nat.reduceMul, Nat.reduceLeDiff, Nat.reduceLT, Nat.reduceEqDiff, Int.reduceLT, Int.reduceLE, Int.reduceToNat, Int.reduceAdd, Int.reduceSub, Int.reduceMul, Int.reduceEq, Int.reduceNeg, reduceCtorEq, true_and, and_true, Int.toNat_natCast, List.getElem?_map, Option.map_some, List.length_map, List.length_take, List.length_drop, List.length_append, Nat.sub_zero, Int.toNat_zero, List.length_replicate, Bool.true_or, Bool.or_true, Bool.false_or, Bool.or_false, false_implies, implies_true]))
      rw [piece_ext]
  · (repeat' (first | with_reducible refine agr_d (fun hc => ?_) (fun hc => ?_) | with_reducible refine agr_n (fun hc => ?_) (fun hc => ?_) | with_reducible refine acd_d (fun hc => ?_) (fun hc => ?_) | with_reducible refine acd_n (fun hc => ?_) (fun hc => ?_) | with_reducible refine dgr_d (fun hc => ?_) (fun hc => ?_) | with_reducible refine dgr_n (fun hc => ?_) (fun hc => ?_) | with_reducible refine dl_sound _ _ [] [] [] _ _ (fun _ h => absurd h List.not_mem_nil) ?_ | with_reducible refine conEnd_p (.inl rfl) ?_ | with_reducible refine conEnd_p (.inr rfl) ?_ | simp (disch := omega) only [go_sem, Nat.reduceAdd, Nat.reduceSub, Nat.reduceMul, Nat.reduceLeDiff, Nat.reduceLT, Nat.reduceEqDiff, Int.reduceLT, Int.reduceLE, Int.reduceToNat, Int.reduceAdd, Int.reduceSub, Int.reduceMul, Int.reduceEq, Int.reduceNeg, reduceCtorEq, true_and, and_true, Int.toNat_natCast, List.getElem?_map, Option.map_some, List.length_map, List.length_take, List.length_drop, List.length_append, Nat.sub_zero, Int.toNat_zero, List.length_replicate, Bool.true_or, Bool.or_true, Bool.false_or, Bool.or_false, false_implies, implies_true]))
    rw [piece_ext]
abbrev geoB' (g : Geo) : Blk' := ⟨[[.int .i64 g.nodes, .int .i64 g.slots, .int .i64 g.blocks, .int .i64 g.per, .int .i64 g.journal, .int .i64 g.log, .int .i64 g.lease, .int .i64 g.wait]], 8, 0⟩
theorem pieces_snoc (t : ByteArray) (j : Nat) : ((List.range j).map (pieceB t)).map txV ++ [[V.str (pieceB t j)]] = ((List.range (j + 1)).map (pieceB t)).map txV := by
  rw [List.range_succ, List.map_append, List.map_append]; rfl
set_option maxRecDepth 100000 in
set_option maxHeartbeats 16000000 in
theorem Pieces18_con (g : Geo) (hb : g.may = true) (t : ByteArray) (ht : (t.size : Int) ≤ g.per * 256) : PCon Try.prog 48 [geoV g, .str t] (.tup [.sl ((piecesL g.per t).map txV) false, .int .i64 0]) := by
  refine ⟨?_, by (simp only [List.nil_append, List.cons_append, List.append_nil, List.forall_mem_cons, List.not_mem_nil, false_implies, implies_true, and_true, true_and, plain_agg, plain_tup, plain_int, plain_bool, plain_str, plain_nilp, plain_nilfn, plain_undef, plain_dev, plain_pr, plain_tx, plain_in, plain_cc])⟩
  have hm := May4_con g
  rw [hb] at hm
  obtain ⟨h1, h2, h3, h4, h5, h6, h7, h8, h9, h10, h11, h12, h13, h14, h15⟩ := Geo.may_ok hb
  obtain ⟨p, hp⟩ : ∃ p : Nat, g.per = p := ⟨g.per.toNat, by omega⟩
  have hpn : g.per.toNat = p := by omega
  refine con_of_awp Try.func48 rfl mixed (by decide) rfl (by kernel_rfl) rfl ?_
  (repeat' (first | with_reducible refine agr_d (fun hc => ?_) (fun hc => ?_) | with_reducible refine agr_n (fun hc => ?_) (fun hc => ?_) | with_reducible refine acd_d (fun hc => ?_) (fun hc => ?_) | with_reducible refine acd_n (fun hc => ?_) (fun hc => ?_) | with_reducible refine dgr_d (fun hc => ?_) (fun hc => ?_) | with_reducible refine dgr_n (fun hc => ?_) (fun hc => ?_) | with_reducible refine dl_sound _ _ [] [] [] _ _ (fun _ h => absurd h List.not_mem_nil) ?_ | with_reducible refine dc1_p hm ?_ | with_reducible refine ac1_p hm ?_ | simp (disch := omega) only [go_sem, geoV, Nat.reduceAdd, Nat.reduceSub, Nat.reduceMul, Nat.reduceLeDiff, Nat.reduceLT, Nat.reduceEqDiff, Int.reduceLT, Int.reduceLE, Int.reduceToNat, Int.reduceAdd, Int.reduceSub, Int.reduceMul, Int.reduceEq, Int.reduceNeg, reduceCtorEq, true_and, and_true, Int.toNat_natCast, List.getElem?_map, Option.map_some, List.length_map, List.length_take, List.length_drop, List.length_append, Nat.sub_zero, Int.toNat_zero, List.length_replicate, Bool.true_or, Bool.or_true, Bool.false_or, Bool.or_false, false_implies, implies_true]))
  refine awp_for p (fun j fr st => ev fr (.tmp 1) = .str t ∧ ev fr (.tmp 2) = .ptr 0 0 0 ∧ ev fr (.tmp 7) = .int .i64 j ∧ 1 ≤ st.c ∧ st.get 0 = some (geoB' g) ∧
    ((j = 0 ∧ ev fr (.tmp 6) = .sl [] true) ∨ ∃ b, 1 ≤ b ∧ b < st.c ∧ ev fr (.tmp 6) = .bs b 0 j j ∧ st.get b = some ⟨((List.range j).map (pieceB t)).map txV, 1, 0⟩)) ?_ ?_
  · refine ⟨?_, ?_, ?_, ?_, ?_, .inl ⟨rfl, ?_⟩⟩ <;> simp (disch := omega) only [go_sem, Nat.reduceAdd, Nat.reduceSub, Nat.reduceMul, Nat.reduceLeDiff, Nat.reduceLT, Nat.reduceEqDiff, Int.reduceLT, Int.reduceLE, Int.reduceToNat, Int.reduceAdd, Int.reduceSub, Int.reduceMul, Int.reduceEq, Int.reduceNeg, reduceCtorEq, true_and, and_true, Int.toNat_natCast, List.getElem?_map, Option.map_some, List.length_map, List.length_take, List.length_drop, List.length_append, Nat.sub_zero, Int.toNat_zero, List.length_replicate, Bool.true_or, Bool.or_true, Bool.false_or, Bool.or_false, false_implies, implies_true] <;> rfl
  rintro j fr st hj ⟨t1, t2, t7, hc1, hgb, ho⟩
  by_cases hlt : j < p
  · have hpc := Piece16_con t j (by omega) (by omega)
    rcases ho with ⟨rfl, t6⟩ | ⟨b, hb1, hb2, t6, hbk⟩
    · (repeat' (first | with_reducible refine agr_d (fun hc => ?_) (fun hc => ?_) | with_reducible refine agr_n (fun hc => ?_) (fun hc => ?_) | with_reducible refine acd_d (fun hc => ?_) (fun hc => ?_) | with_reducible refine acd_n (fun hc => ?_) (fun hc => ?_) | with_reducible refine dgr_d (fun hc => ?_) (fun hc => ?_) | with_reducible refine dgr_n (fun hc => ?_) (fun hc => ?_) | with_reducible refine dl_sound _ _ [] [] [] _ _ (fun _ h => absurd h List.not_mem_nil) ?_ | with_reducible refine dc1_p hpc ?_ | with_reducible refine ac1_p hpc ?_ | simp (disch := omega) only [go_sem, t1, t2, t7, t6, hgb, geoB', Nat.reduceAdd, Nat.reduceSub, Nat.reduceMul, Nat.reduceLeDiff, Nat.reduceLT, Nat.reduceEqDiff, Int.reduceLT, Int.reduceLE, Int.reduceToNat, Int.reduceAdd, Int.reduceSub, Int.reduceMul, Int.reduceEq, Int.reduceNeg, reduceCtorEq, true_and, and_true, Int.toNat_natCast, List.getElem?_map, Option.map_some, List.length_map, List.length_take, List.length_drop, List.length_append, Nat.sub_zero, Int.toNat_zero, List.length_replicate, Bool.true_or, Bool.or_true, Bool.false_or, Bool.or_false, false_implies, implies_true]))
      exact ⟨1, by omega, by omega, rfl, .inr ⟨_, by omega, by omega, rfl, if_pos rfl⟩⟩
    · (repeat' (first | with_reducible refine agr_d (fun hc => ?_) (fun hc => ?_) | with_reducible refine agr_n (fun hc => ?_) (fun hc => ?_) | with_reducible refine acd_d (fun hc => ?_) (fun hc => ?_) | with_reducible refine acd_n (fun hc => ?_) (fun hc => ?_) | with_reducible refine dgr_d (fun hc => ?_) (fun hc => ?_) | with_reducible refine dgr_n (fun hc => ?_) (fun hc => ?_) | with_reducible refine dl_sound _ _ [] [] [] _ _ (fun _ h => absurd h List.not_mem_nil) ?_ | with_reducible refine dc1_p hpc ?_ | with_reducible refine ac1_p hpc ?_ | simp (disch := omega) only [go_sem, t1, t2, t7, t6, hgb, hbk, List.length_range, geoB', Nat.reduceAdd, Nat.reduceSub, Nat.reduceMul, Nat.reduceLeDiff, Nat.reduceLT, Nat.reduceEqDiff, Int.reduceLT, Int.reduceLE, Int.reduceToNat, Int.reduceAdd, Int.reduceSub, Int.reduceMul, Int.reduceEq, Int.reduceNeg, reduceCtorEq, true_and, and_true, Int.toNat_natCast, List.getElem?_map, Option.map_some, List.length_map, List.length_take, List.length_drop, List.length_append, Nat.sub_zero, Int.toNat_zero, List.length_replicate, Bool.true_or, Bool.or_true, Bool.false_or, Bool.or_false, false_implies, implies_true]))
      exact ⟨j + 1, by omega, by omega, rfl, .inr ⟨_, by omega, by omega, rfl, by rw [if_pos rfl, List.range_succ, List.map_append, List.map_append]; rfl⟩⟩
  · obtain rfl : j = p := by omega
    rcases ho with ⟨rfl, t6⟩ | ⟨b, hb1, hb2, t6, hbk⟩
    · omega
    · (repeat' (first | with_reducible refine agr_d (fun hc => ?_) (fun hc => ?_) | with_reducible refine agr_n (fun hc => ?_) (fun hc => ?_) | with_reducible refine acd_d (fun hc => ?_) (fun hc => ?_) | with_reducible refine acd_n (fun hc => ?_) (fun hc => ?_) | with_reducible refine dgr_d (fun hc => ?_) (fun hc => ?_) | with_reducible refine dgr_n (fun hc => ?_) (fun hc => ?_) | with_reducible refine dl_sound _ _ [] [] [] _ _ (fun _ h => absurd h List.not_mem_nil) ?_ | with_reducible refine dc1_p hpc ?_ | with_reducible refine ac1_p hpc ?_ | simp (disch := omega) only [go_sem, t1, t2, t7, t6, hgb, hbk, geoB', Nat.reduceAdd, Nat.reduceSub, Nat.reduceMul, Nat.reduceLeDiff, Nat.reduceLT, Nat.reduceEqDiff, Int.reduceLT, Int.reduceLE, Int.reduceToNat, Int.reduceAdd, Int.reduceSub, Int.reduceMul, Int.reduceEq, Int.reduceNeg, reduceCtorEq, true_and, and_true, Int.toNat_natCast, List.getElem?_map, Option.map_some, List.length_map, List.length_take, List.length_drop, List.length_append, Nat.sub_zero, Int.toNat_zero, List.length_replicate, Bool.true_or, Bool.or_true, Bool.false_or, Bool.or_false, false_implies, implies_true]))
      refine conEnd_f (.inl rfl) ?_
      simp (disch := omega) only [go_sem, hbk, Nat.reduceAdd, Nat.reduceSub, Nat.reduceMul, Nat.reduceLeDiff, Nat.reduceLT, Nat.reduceEqDiff, Int.reduceLT, Int.reduceLE, Int.reduceToNat, Int.reduceAdd, Int.reduceSub, Int.reduceMul, Int.reduceEq, Int.reduceNeg, reduceCtorEq, true_and, and_true, Int.toNat_natCast, List.getElem?_map, Option.map_some, List.length_map, List.length_take, List.length_drop, List.length_append, Nat.sub_zero, Int.toNat_zero, List.length_replicate, Bool.true_or, Bool.or_true, Bool.false_or, Bool.or_false, false_implies, implies_true]
      exact ⟨mny, _, fz_tup2 (fz_row hbk (by simp) (by omega) ((plain_tx _ _).2 trivial)) (.plain _ (.int _ _)), by unfold piecesL; rw [hpn]⟩
end Go.Proofs.Ytllijcnbjbfabaa

namespace Go.Proofs.Ytllijcnbjbfabaa
open Go.RowKit
set_option linter.unusedSimpArgs false
set_option linter.unusedVariables false

abbrev geoB (g : Geo) : Blk' := ⟨[[.int .i64 g.nodes, .int .i64 g.slots, .int .i64 g.blocks, .int .i64 g.per, .int .i64 g.journal, .int .i64 g.log, .int .i64 g.lease, .int .i64 g.wait]], 8, 0⟩
theorem upFrom_no {g : Geo} {last : Int} {l : List Pr} {j : Nat} (hj : j < l.length) (h : ¬ (last < l[j].n ∧ l[j].n < g.blocks ∧ (l[j].t.size : Int) ≤ g.per * 256)) : upFrom g last (l.drop j) = false := by
  rw [upFrom_step hj, decide_eq_false h]; rfl
theorem upFrom_yes {g : Geo} {last : Int} {l : List Pr} {j : Nat} (hj : j < l.length) (h : last < l[j].n ∧ l[j].n < g.blocks ∧ (l[j].t.size : Int) ≤ g.per * 256) : upFrom g last (l.drop j) = upFrom g l[j].n (l.drop (j + 1)) := by
  rw [upFrom_step hj, decide_eq_true h]; rfl
set_option maxRecDepth 100000 in
set_option maxHeartbeats 16000000 in
theorem May18_con (g : Geo) (l : List Pr) (fl : Bool) (hl : l.length ≤ 1000000) : PCon Try.prog 8 [geoV g, .sl (l.map prV) fl] (.bool (mayBk g l)) := by
  refine ⟨?_, by (simp only [List.nil_append, List.cons_append, List.append_nil, List.forall_mem_cons, List.not_mem_nil, false_implies, implies_true, and_true, true_and, plain_agg, plain_tup, plain_int, plain_bool, plain_str, plain_nilp, plain_nilfn, plain_undef, plain_dev, plain_pr, plain_tx, plain_in, plain_cc])⟩
  have hm := May4_con g
  refine con_of_awp Try.func8 rfl mixed (by decide) rfl (by kernel_rfl) rfl ?_
  cases hb : g.may with
  | false =>
    rw [hb] at hm
    rw [show mayBk g l = false by unfold mayBk; rw [hb]; rfl]
    (repeat' (first | with_reducible refine agr_d (fun hc => ?_) (fun hc => ?_) | with_reducible refine agr_n (fun hc => ?_) (fun hc => ?_) | with_reducible refine acd_d (fun hc => ?_) (fun hc => ?_) | with_reducible refine acd_n (fun hc => ?_) (fun hc => ?_) | with_reducible refine dgr_d (fun hc => ?_) (fun hc => ?_) | with_reducible refine dgr_n (fun hc => ?_) (fun hc => ?_) | with_reducible refine dl_sound _ _ [] [] [] _ _ (fun _ h => absurd h List.not_mem_nil) ?_ | with_reducible refine conEnd_p (.inl rfl) ?_ | with_reducible refine conEnd_p (.inr rfl) ?_ | with_reducible refine dc1_p hm ?_ | with_reducible refine ac1_p hm ?_ | simp (disch := omega) only [go_sem, geoV, Nat.reduceAdd, Nat.reduceSub, Nat.reduceMul, Nat.reduceLeDiff, Nat.reduceLT, Nat.reduceEqDiff, Int.reduceLT, Int.reduceLE, Int.reduceToNat, Int.reduceAdd, Int.reduceSub, Int.reduceMul, Int.reduceEq, Int.reduceNeg, reduceCtorEq, true_and, and_true, Int.toNat_natCast, List.getElem?_map, Option.map_some, List.length_map, List.length_take, List.length_drop, List.length_append, Nat.sub_zero, Int.toNat_zero, List.length_replicate, Bool.true_or, Bool.or_true, Bool.false_or, Bool.or_false, false_implies, implies_true]))
  | true =>
    rw [hb] at hm
    obtain ⟨h1, h2, h3, h4, h5, h6, h7, h8, h9, h10, h11, h12, h13, h14, h15⟩ := Geo.may_ok hb
    rw [show mayBk g l = upFrom g (-1) l by unfold mayBk; rw [hb]; rfl]
    (repeat' (first | with_reducible refine agr_d (fun hc => ?_) (fun hc => ?_) | with_reducible refine agr_n (fun hc => ?_) (fun hc => ?_) | with_reducible refine acd_d (fun hc => ?_) (fun hc => ?_) | with_reducible refine acd_n (fun hc => ?_) (fun hc => ?_) | with_reducible refine dgr_d (fun hc => ?_) (fun hc => ?_) | with_reducible refine dgr_n (fun hc => ?_) (fun hc => ?_) | with_reducible refine dl_sound _ _ [] [] [] _ _ (fun _ h => absurd h List.not_mem_nil) ?_ | with_reducible refine dc1_p hm ?_ | with_reducible refine ac1_p hm ?_ | simp (disch := omega) only [go_sem, geoV, Nat.reduceAdd, Nat.reduceSub, Nat.reduceMul, Nat.reduceLeDiff, Nat.reduceLT, Nat.reduceEqDiff, Int.reduceLT, Int.reduceLE, Int.reduceToNat, Int.reduceAdd, Int.reduceSub, Int.reduceMul, Int.reduceEq, Int.reduceNeg, reduceCtorEq, true_and, and_true, Int.toNat_natCast, List.getElem?_map, Option.map_some, List.length_map, List.length_take, List.length_drop, List.length_append, Nat.sub_zero, Int.toNat_zero, List.length_replicate, Bool.true_or, Bool.or_true, Bool.false_or, Bool.or_false, false_implies, implies_true]))
    refine awp_for l.length (fun j fr st => ev fr (.tmp 1) = .sl (l.map prV) fl ∧ ev fr (.tmp 2) = .ptr 0 0 0 ∧ ev fr (.tmp 5) = .int .i64 j ∧ 1 ≤ st.c ∧ st.get 0 = some (geoB g) ∧ ∃ last : Int, -1 ≤ last ∧ (∀ p (h : p < l.length), j = p + 1 → last = l[p].n) ∧ (j = 0 → last = -1) ∧ upFrom g (-1) l = upFrom g last (l.drop j)) ?_ ?_
    · refine ⟨?_, ?_, ?_, ?_, ?_, -1, by omega, fun p _ h => by omega, fun _ => rfl, by rw [List.drop_zero]⟩ <;> simp (disch := omega) only [go_sem, Nat.reduceAdd, Nat.reduceSub, Nat.reduceMul, Nat.reduceLeDiff, Nat.reduceLT, Nat.reduceEqDiff, Int.reduceLT, Int.reduceLE, Int.reduceToNat, Int.reduceAdd, Int.reduceSub, Int.reduceMul, Int.reduceEq, Int.reduceNeg, reduceCtorEq, true_and, and_true, Int.toNat_natCast, List.getElem?_map, Option.map_some, List.length_map, List.length_take, List.length_drop, List.length_append, Nat.sub_zero, Int.toNat_zero, List.length_replicate, Bool.true_or, Bool.or_true, Bool.false_or, Bool.or_false, false_implies, implies_true] <;> rfl
    rintro j fr st hj ⟨t1, t2, t5, hc1, hgb, last, hl1, hlp, hl0, heq⟩
    by_cases hlt : j < l.length
    · have hg : l[j]? = some l[j] := List.getElem?_eq_getElem hlt
      by_cases q1 : l[j].n < 0
      · rw [heq, upFrom_no hlt (by omega)]
        (repeat' (first | with_reducible refine agr_d (fun hc => ?_) (fun hc => ?_) | with_reducible refine agr_n (fun hc => ?_) (fun hc => ?_) | with_reducible refine acd_d (fun hc => ?_) (fun hc => ?_) | with_reducible refine acd_n (fun hc => ?_) (fun hc => ?_) | with_reducible refine dgr_d (fun hc => ?_) (fun hc => ?_) | with_reducible refine dgr_n (fun hc => ?_) (fun hc => ?_) | with_reducible refine dl_sound _ _ [] [] [] _ _ (fun _ h => absurd h List.not_mem_nil) ?_ | with_reducible refine conEnd_p (.inl rfl) ?_ | with_reducible refine conEnd_p (.inr rfl) ?_ | simp (disch := omega) only [go_sem, t1, t2, t5, hg, hgb, geoB, Nat.reduceAdd, Nat.reduceSub, Nat.reduceMul, Nat.reduceLeDiff, Nat.reduceLT, Nat.reduceEqDiff, Int.reduceLT, Int.reduceLE, Int.reduceToNat, Int.reduceAdd, Int.reduceSub, Int.reduceMul, Int.reduceEq, Int.reduceNeg, reduceCtorEq, true_and, and_true, Int.toNat_natCast, List.getElem?_map, Option.map_some, List.length_map, List.length_take, List.length_drop, List.length_append, Nat.sub_zero, Int.toNat_zero, List.length_replicate, Bool.true_or, Bool.or_true, Bool.false_or, Bool.or_false, false_implies, implies_true]))
      by_cases q2 : g.blocks ≤ l[j].n
      · rw [heq, upFrom_no hlt (by omega)]
        (repeat' (first | with_reducible refine agr_d (fun hc => ?_) (fun hc => ?_) | with_reducible refine agr_n (fun hc => ?_) (fun hc => ?_) | with_reducible refine acd_d (fun hc => ?_) (fun hc => ?_) | with_reducible refine acd_n (fun hc => ?_) (fun hc => ?_) | with_reducible refine dgr_d (fun hc => ?_) (fun hc => ?_) | with_reducible refine dgr_n (fun hc => ?_) (fun hc => ?_) | with_reducible refine dl_sound _ _ [] [] [] _ _ (fun _ h => absurd h List.not_mem_nil) ?_ | with_reducible refine conEnd_p (.inl rfl) ?_ | with_reducible refine conEnd_p (.inr rfl) ?_ | simp (disch := omega) only [go_sem, t1, t2, t5, hg, hgb, geoB, Nat.reduceAdd, Nat.reduceSub, Nat.reduceMul, Nat.reduceLeDiff, Nat.reduceLT, Nat.reduceEqDiff, Int.reduceLT, Int.reduceLE, Int.reduceToNat, Int.reduceAdd, Int.reduceSub, Int.reduceMul, Int.reduceEq, Int.reduceNeg, reduceCtorEq, true_and, and_true, Int.toNat_natCast, List.getElem?_map, Option.map_some, List.length_map, List.length_take, List.length_drop, List.length_append, Nat.sub_zero, Int.toNat_zero, List.length_replicate, Bool.true_or, Bool.or_true, Bool.false_or, Bool.or_false, false_implies, implies_true]))
      by_cases h0 : j = 0
      · subst h0
        have hla := hl0 rfl
        by_cases q4 : (l[0].t.size : Int) ≤ g.per * 256
        · have hy := upFrom_yes (g := g) (last := last) hlt ⟨by omega, by omega, q4⟩
          (repeat' (first | with_reducible refine agr_d (fun hc => ?_) (fun hc => ?_) | with_reducible refine agr_n (fun hc => ?_) (fun hc => ?_) | with_reducible refine acd_d (fun hc => ?_) (fun hc => ?_) | with_reducible refine acd_n (fun hc => ?_) (fun hc => ?_) | with_reducible refine dgr_d (fun hc => ?_) (fun hc => ?_) | with_reducible refine dgr_n (fun hc => ?_) (fun hc => ?_) | with_reducible refine dl_sound _ _ [] [] [] _ _ (fun _ h => absurd h List.not_mem_nil) ?_ | with_reducible refine conEnd_p (.inl rfl) ?_ | with_reducible refine conEnd_p (.inr rfl) ?_ | simp (disch := omega) only [go_sem, t1, t2, t5, hg, hgb, geoB, Nat.reduceAdd, Nat.reduceSub, Nat.reduceMul, Nat.reduceLeDiff, Nat.reduceLT, Nat.reduceEqDiff, Int.reduceLT, Int.reduceLE, Int.reduceToNat, Int.reduceAdd, Int.reduceSub, Int.reduceMul, Int.reduceEq, Int.reduceNeg, reduceCtorEq, true_and, and_true, Int.toNat_natCast, List.getElem?_map, Option.map_some, List.length_map, List.length_take, List.length_drop, List.length_append, Nat.sub_zero, Int.toNat_zero, List.length_replicate, Bool.true_or, Bool.or_true, Bool.false_or, Bool.or_false, false_implies, implies_true]))
          exact ⟨1, by omega, by omega, rfl, by omega, l[0].n, by omega, fun p _ h => by obtain rfl : p = 0 := by omega
                                                                                         rfl, by omega, heq.trans hy⟩
        · rw [heq, upFrom_no hlt (by omega)]
          (repeat' (first | with_reducible refine agr_d (fun hc => ?_) (fun hc => ?_) | with_reducible refine agr_n (fun hc => ?_) (fun hc => ?_) | with_reducible refine acd_d (fun hc => ?_) (fun hc => ?_) | with_reducible refine acd_n (fun hc => ?_) (fun hc => ?_) | with_reducible refine dgr_d (fun hc => ?_) (fun hc => ?_) | with_reducible refine dgr_n (fun hc => ?_) (fun hc => ?_) | with_reducible refine dl_sound _ _ [] [] [] _ _ (fun _ h => absurd h List.not_mem_nil) ?_ | with_reducible refine conEnd_p (.inl rfl) ?_ | with_reducible refine conEnd_p (.inr rfl) ?_ | simp (disch := omega) only [go_sem, t1, t2, t5, hg, hgb, geoB, Nat.reduceAdd, Nat.reduceSub, Nat.reduceMul, Nat.reduceLeDiff, Nat.reduceLT, Nat.reduceEqDiff, Int.reduceLT, Int.reduceLE, Int.reduceToNat, Int.reduceAdd, Int.reduceSub, Int.reduceMul, Int.reduceEq, Int.reduceNeg, reduceCtorEq, true_and, and_true, Int.toNat_natCast, List.getElem?_map, Option.map_some, List.length_map, List.length_take, List.length_drop, List.length_append, Nat.sub_zero, Int.toNat_zero, List.length_replicate, Bool.true_or, Bool.or_true, Bool.false_or, Bool.or_false, false_implies, implies_true]))
      · obtain ⟨p, rfl⟩ : ∃ p, j = p + 1 := ⟨j - 1, by omega⟩
        have hp : p < l.length := by omega
        have hla := hlp p hp rfl
        have hg2 : l[p]? = some l[p] := List.getElem?_eq_getElem hp
        have hpp : (((p + 1 : Nat) : Int) - 1).toNat = p := by omega
        by_cases q3 : l[p + 1].n ≤ l[p].n
        · rw [heq, upFrom_no hlt (by omega)]
          (repeat' (first | with_reducible refine agr_d (fun hc => ?_) (fun hc => ?_) | with_reducible refine agr_n (fun hc => ?_) (fun hc => ?_) | with_reducible refine acd_d (fun hc => ?_) (fun hc => ?_) | with_reducible refine acd_n (fun hc => ?_) (fun hc => ?_) | with_reducible refine dgr_d (fun hc => ?_) (fun hc => ?_) | with_reducible refine dgr_n (fun hc => ?_) (fun hc => ?_) | with_reducible refine dl_sound _ _ [] [] [] _ _ (fun _ h => absurd h List.not_mem_nil) ?_ | with_reducible refine conEnd_p (.inl rfl) ?_ | with_reducible refine conEnd_p (.inr rfl) ?_ | simp (disch := omega) only [go_sem, t1, t2, t5, hg, hg2, hpp, hgb, geoB, Nat.reduceAdd, Nat.reduceSub, Nat.reduceMul, Nat.reduceLeDiff, Nat.reduceLT, Nat.reduceEqDiff, Int.reduceLT, Int.reduceLE, Int.reduceToNat, Int.reduceAdd, Int.reduceSub, Int.reduceMul, Int.reduceEq, Int.reduceNeg, reduceCtorEq, true_and, and_true, Int.toNat_natCast, List.getElem?_map, Option.map_some, List.length_map, List.length_take, List.length_drop, List.length_append, Nat.sub_zero, Int.toNat_zero, List.length_replicate, Bool.true_or, Bool.or_true, Bool.false_or, Bool.or_false, false_implies, implies_true]))
        by_cases q4 : (l[p + 1].t.size : Int) ≤ g.per * 256
        · have hy := upFrom_yes (g := g) (last := last) hlt ⟨by omega, by omega, q4⟩
          (repeat' (first | with_reducible refine agr_d (fun hc => ?_) (fun hc => ?_) | with_reducible refine agr_n (fun hc => ?_) (fun hc => ?_) | with_reducible refine acd_d (fun hc => ?_) (fun hc => ?_) | with_reducible refine acd_n (fun hc => ?_) (fun hc => ?_) | with_reducible refine dgr_d (fun hc => ?_) (fun hc => ?_) | with_reducible refine dgr_n (fun hc => ?_) (fun hc => ?_) | with_reducible refine dl_sound _ _ [] [] [] _ _ (fun _ h => absurd h List.not_mem_nil) ?_ | with_reducible refine conEnd_p (.inl rfl) ?_ | with_reducible refine conEnd_p (.inr rfl) ?_ | simp (disch := omega) only [go_sem, t1, t2, t5, hg, hg2, hpp, hgb, geoB, Nat.reduceAdd, Nat.reduceSub, Nat.reduceMul, Nat.reduceLeDiff, Nat.reduceLT, Nat.reduceEqDiff, Int.reduceLT, Int.reduceLE, Int.reduceToNat, Int.reduceAdd, Int.reduceSub, Int.reduceMul, Int.reduceEq, Int.reduceNeg, reduceCtorEq, true_and, and_true, Int.toNat_natCast, List.getElem?_map, Option.map_some, List.length_map, List.length_take, List.length_drop, List.length_append, Nat.sub_zero, Int.toNat_zero, List.length_replicate, Bool.true_or, Bool.or_true, Bool.false_or, Bool.or_false, false_implies, implies_true]))
          exact ⟨p + 2, by omega, by omega, rfl, by omega, l[p + 1].n, by omega, fun q _ h => by obtain rfl : q = p + 1 := by omega
                                                                                                 rfl, by omega, heq.trans hy⟩
        · rw [heq, upFrom_no hlt (by omega)]
          (repeat' (first | with_reducible refine agr_d (fun hc => ?_) (fun hc => ?_) | with_reducible refine agr_n (fun hc => ?_) (fun hc => ?_) | with_reducible refine acd_d (fun hc => ?_) (fun hc => ?_) | with_reducible refine acd_n (fun hc => ?_) (fun hc => ?_) | with_reducible refine dgr_d (fun hc => ?_) (fun hc => ?_) | with_reducible refine dgr_n (fun hc => ?_) (fun hc => ?_) | with_reducible refine dl_sound _ _ [] [] [] _ _ (fun _ h => absurd h List.not_mem_nil) ?_ | with_reducible refine conEnd_p (.inl rfl) ?_ | with_reducible refine conEnd_p (.inr rfl) ?_ | simp (disch := omega) only [go_sem, t1, t2, t5, hg, hg2, hpp, hgb, geoB, Nat.reduceAdd, Nat.reduceSub, Nat.reduceMul, Nat.reduceLeDiff, Nat.reduceLT, Nat.reduceEqDiff, Int.reduceLT, Int.reduceLE, Int.reduceToNat, Int.reduceAdd, Int.reduceSub, Int.reduceMul, Int.reduceEq, Int.reduceNeg, reduceCtorEq, true_and, and_true, Int.toNat_natCast, List.getElem?_map, Option.map_some, List.length_map, List.length_take, List.length_drop, List.length_append, Nat.sub_zero, Int.toNat_zero, List.length_replicate, Bool.true_or, Bool.or_true, Bool.false_or, Bool.or_false, false_implies, implies_true]))
    · rw [heq, List.drop_eq_nil_of_le (by omega), show upFrom g last [] = true from rfl]
      (repeat' (first | with_reducible refine agr_d (fun hc => ?_) (fun hc => ?_) | with_reducible refine agr_n (fun hc => ?_) (fun hc => ?_) | with_reducible refine acd_d (fun hc => ?_) (fun hc => ?_) | with_reducible refine acd_n (fun hc => ?_) (fun hc => ?_) | with_reducible refine dgr_d (fun hc => ?_) (fun hc => ?_) | with_reducible refine dgr_n (fun hc => ?_) (fun hc => ?_) | with_reducible refine dl_sound _ _ [] [] [] _ _ (fun _ h => absurd h List.not_mem_nil) ?_ | with_reducible refine conEnd_p (.inl rfl) ?_ | with_reducible refine conEnd_p (.inr rfl) ?_ | simp (disch := omega) only [go_sem, t1, t2, t5, hgb, geoB, Nat.reduceAdd, Nat.reduceSub, Nat.reduceMul, Nat.reduceLeDiff, Nat.reduceLT, Nat.reduceEqDiff, Int.reduceLT, Int.reduceLE, Int.reduceToNat, Int.reduceAdd, Int.reduceSub, Int.reduceMul, Int.reduceEq, Int.reduceNeg, reduceCtorEq, true_and, and_true, Int.toNat_natCast, List.getElem?_map, Option.map_some, List.length_map, List.length_take, List.length_drop, List.length_append, Nat.sub_zero, Int.toNat_zero, List.length_replicate, Bool.true_or, Bool.or_true, Bool.false_or, Bool.or_false, false_implies, implies_true]))
end Go.Proofs.Ytllijcnbjbfabaa

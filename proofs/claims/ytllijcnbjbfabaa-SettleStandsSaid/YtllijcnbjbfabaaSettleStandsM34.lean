/- breakwaterref06: fence; breakwaterref01.Put: whose values lie in new memory. -/
import Derived.Test.YtllijcnbjbfabaaSettleStandsM29
import Derived.Test.YtllijcnbjbfabaaSettleStandsM33
import Derived.Test.YtllijcnbjbfabaaSettleStandsM30
import Derived.Test.YtllijcnbjbfabaaSettleStandsM32
import Derived.Test.YtllijcnbjbfabaaSettleStandsM28
import Derived.Test.YtllijcnbjbfabaaSettleStandsM03
namespace Go.Proofs.Ytllijcnbjbfabaa
open Go.RowKit
set_option linter.unusedSimpArgs false
set_option linter.unusedVariables false

theorem fenceR_len (l : List Int) (k : Int) : (fenceR l k).length ≤ 2 * l.length + 1 := by
  have := fenceA_len l k l.length
  unfold fenceR
  dsimp only
  split
  · omega
  · simp; omega
theorem fzo_tup2 {st : St} {f : Nat → Nat} {a b a' b' : V} (h1 : FzO st f a a') (h2 : FzO st f b b') : FzO st f (.tup [a, b]) (.tup [a', b']) := .tup _ _ rfl fun j hj hj' => by
  match j, hj with
  | 0, _ => exact h1
  | 1, _ => exact h2
section
variable {P : Program} {ops : Array Oper} {h : FuncId} {d : Option Tmp} {l : List Oper} {fr : Fr} {st : St} {r x y : V} {b n cap sz lk : Nat} {es : List (List V)}
theorem ac1_fr1 {K : Fr → St → Prop} (hx : Plain y) (hg : st.get b = some ⟨es, sz, lk⟩) (hn : n = es.length) (hp : Plain (.sl es false)) (hc : FCon P h [.sl es false, y] r) (hk : aops P ops l (fr.put d r) st K) : ac1 P ops h [.bs b 0 n cap, y] d l fr st K := by
  subst hn
  exact ac1_fr (fun _ => es.length) (fzs_two (Fz.rows hg (Nat.le_refl _) hp) (.plain _ hx)) hc hk
theorem ac1_fr3 {K : Fr → St → Prop} (hx : Plain x) (hy : Plain y) (hg : st.get b = some ⟨es, sz, lk⟩) (hn : n = es.length) (hp : Plain (.sl es false)) (hc : FCon P h [x, y, .sl es false] r) (hk : aops P ops l (fr.put d r) st K) : ac1 P ops h [x, y, .bs b 0 n cap] d l fr st K := by
  subst hn
  exact ac1_fr (fun _ => es.length) (fzs_three (.plain _ hx) (.plain _ hy) (Fz.rows hg (Nat.le_refl _) hp)) hc hk
end
set_option maxRecDepth 100000 in
set_option maxHeartbeats 8000000 in
theorem fence_fc (l : List Int) (fl : Bool) (k : Int) (hl : l.length ≤ 1000000) : FCon Try.prog 42 [.sl (l.map inV) fl, .int .i64 k] (.sl ((fenceR l k).map inV) false) := by
  refine fcon_of_awp Try.func42 rfl mixed (by decide) rfl (by kernel_rfl) rfl ?_
  (repeat' (first | with_reducible refine agr_d (fun hc => ?_) (fun hc => ?_) | with_reducible refine agr_n (fun hc => ?_) (fun hc => ?_) | with_reducible refine acd_d (fun hc => ?_) (fun hc => ?_) | with_reducible refine acd_n (fun hc => ?_) (fun hc => ?_) | with_reducible refine dgr_d (fun hc => ?_) (fun hc => ?_) | with_reducible refine dgr_n (fun hc => ?_) (fun hc => ?_) | with_reducible refine dl_sound _ _ [] [] [] _ _ (fun _ h => absurd h List.not_mem_nil) ?_ | simp (disch := omega) only [go_sem, Nat.reduceAdd, Nat.reduceSub, Nat.reduceMul, Nat.reduceLeDiff, Nat.reduceLT, Nat.reduceEqDiff, Int.reduceLT, Int.reduceLE, Int.reduceToNat, Int.reduceAdd, Int.reduceSub, Int.reduceMul, Int.reduceEq, Int.reduceNeg, reduceCtorEq, true_and, and_true, Int.toNat_natCast, List.getElem?_map, Option.map_some, List.length_map, List.length_take, List.length_drop, List.length_append, Nat.sub_zero, Int.toNat_zero, List.length_replicate, Bool.true_or, Bool.or_true, Bool.false_or, Bool.or_false, false_implies, implies_true]))
  refine awp_for l.length (fun j fr st => ∃ o dn, fenceA l k j = (o, dn) ∧ ev fr (.tmp 0) = .sl (l.map inV) fl ∧ ev fr (.tmp 1) = .int .i64 k ∧ ev fr (.tmp 7) = .int .i64 j ∧ ev fr (.tmp 6) = .bool dn ∧
    ((j = 0 ∧ ev fr (.tmp 5) = .sl [] true ∧ o = []) ∨ ∃ b, b < st.c ∧ ev fr (.tmp 5) = .bs b 0 o.length o.length ∧ st.get b = some ⟨o.map inV, 1, 0⟩)) ?_ ?_
  · refine ⟨[], false, rfl, ?_, ?_, ?_, ?_, .inl ⟨rfl, ?_, rfl⟩⟩ <;> simp (disch := omega) only [go_sem, Nat.reduceAdd, Nat.reduceSub, Nat.reduceMul, Nat.reduceLeDiff, Nat.reduceLT, Nat.reduceEqDiff, Int.reduceLT, Int.reduceLE, Int.reduceToNat, Int.reduceAdd, Int.reduceSub, Int.reduceMul, Int.reduceEq, Int.reduceNeg, reduceCtorEq, true_and, and_true, Int.toNat_natCast, List.getElem?_map, Option.map_some, List.length_map, List.length_take, List.length_drop, List.length_append, Nat.sub_zero, Int.toNat_zero, List.length_replicate, Bool.true_or, Bool.or_true, Bool.false_or, Bool.or_false, false_implies, implies_true] <;> rfl
  rintro j fr st hj ⟨o, dn, hp, h0, h1, h7, h6, h5⟩
  have hlen := fenceA_len l k j
  rw [hp] at hlen
  by_cases hlt : j < l.length
  · have hg : l[j]? = some l[j] := List.getElem?_eq_getElem hlt
    have hs : fenceA l k (j + 1) = (if k < l[j] ∧ (dn || decide (l[j] = k)) = false then (o ++ [k] ++ [l[j]], true) else (o ++ [l[j]], dn || decide (l[j] = k))) := by
      show (match l[j]? with | none => _ | some x => _) = _
      rw [hg, hp]
    clear hp
    rcases h5 with ⟨rfl, h5, rfl⟩ | ⟨b, hbc, h5, hb⟩
    · cases dn
      · (repeat' (first | with_reducible refine agr_d (fun hc => ?_) (fun hc => ?_) | with_reducible refine agr_n (fun hc => ?_) (fun hc => ?_) | with_reducible refine acd_d (fun hc => ?_) (fun hc => ?_) | with_reducible refine acd_n (fun hc => ?_) (fun hc => ?_) | with_reducible refine dgr_d (fun hc => ?_) (fun hc => ?_) | with_reducible refine dgr_n (fun hc => ?_) (fun hc => ?_) | with_reducible refine dl_sound _ _ [] [] [] _ _ (fun _ h => absurd h List.not_mem_nil) ?_ | simp (disch := omega) only [go_sem, h0, h1, h7, h6, h5, hg, Nat.reduceAdd, Nat.reduceSub, Nat.reduceMul, Nat.reduceLeDiff, Nat.reduceLT, Nat.reduceEqDiff, Int.reduceLT, Int.reduceLE, Int.reduceToNat, Int.reduceAdd, Int.reduceSub, Int.reduceMul, Int.reduceEq, Int.reduceNeg, reduceCtorEq, true_and, and_true, Int.toNat_natCast, List.getElem?_map, Option.map_some, List.length_map, List.length_take, List.length_drop, List.length_append, Nat.sub_zero, Int.toNat_zero, List.length_replicate, Bool.true_or, Bool.or_true, Bool.false_or, Bool.or_false, false_implies, implies_true]))
        all_goals first | rw [if_pos (by simp; omega)] at hs | rw [if_neg (by simp; omega)] at hs
        all_goals refine ⟨1, by omega, by omega, _, _, hs, rfl, by first | (simp [hc]; done) | (simp; assumption), .inr ⟨_, ?_, bs_eq (by simp), ?_⟩⟩
        all_goals first | omega | (simp [inV, St.del_c]; done)
      · (repeat' (first | with_reducible refine agr_d (fun hc => ?_) (fun hc => ?_) | with_reducible refine agr_n (fun hc => ?_) (fun hc => ?_) | with_reducible refine acd_d (fun hc => ?_) (fun hc => ?_) | with_reducible refine acd_n (fun hc => ?_) (fun hc => ?_) | with_reducible refine dgr_d (fun hc => ?_) (fun hc => ?_) | with_reducible refine dgr_n (fun hc => ?_) (fun hc => ?_) | with_reducible refine dl_sound _ _ [] [] [] _ _ (fun _ h => absurd h List.not_mem_nil) ?_ | simp (disch := omega) only [go_sem, h0, h1, h7, h6, h5, hg, Nat.reduceAdd, Nat.reduceSub, Nat.reduceMul, Nat.reduceLeDiff, Nat.reduceLT, Nat.reduceEqDiff, Int.reduceLT, Int.reduceLE, Int.reduceToNat, Int.reduceAdd, Int.reduceSub, Int.reduceMul, Int.reduceEq, Int.reduceNeg, reduceCtorEq, true_and, and_true, Int.toNat_natCast, List.getElem?_map, Option.map_some, List.length_map, List.length_take, List.length_drop, List.length_append, Nat.sub_zero, Int.toNat_zero, List.length_replicate, Bool.true_or, Bool.or_true, Bool.false_or, Bool.or_false, false_implies, implies_true]))
        all_goals rw [if_neg (by simp)] at hs
        all_goals refine ⟨1, by omega, by omega, _, _, hs, rfl, by simp, .inr ⟨_, ?_, bs_eq (by simp), ?_⟩⟩
        all_goals first | omega | (simp [inV, St.del_c]; done)
    · have ho : o.length ≤ 2 * j := hlen
      cases dn
      · (repeat' (first | with_reducible refine agr_d (fun hc => ?_) (fun hc => ?_) | with_reducible refine agr_n (fun hc => ?_) (fun hc => ?_) | with_reducible refine acd_d (fun hc => ?_) (fun hc => ?_) | with_reducible refine acd_n (fun hc => ?_) (fun hc => ?_) | with_reducible refine dgr_d (fun hc => ?_) (fun hc => ?_) | with_reducible refine dgr_n (fun hc => ?_) (fun hc => ?_) | with_reducible refine dl_sound _ _ [] [] [] _ _ (fun _ h => absurd h List.not_mem_nil) ?_ | simp (disch := omega) only [go_sem, h0, h1, h7, h6, h5, hg, hb, Nat.reduceAdd, Nat.reduceSub, Nat.reduceMul, Nat.reduceLeDiff, Nat.reduceLT, Nat.reduceEqDiff, Int.reduceLT, Int.reduceLE, Int.reduceToNat, Int.reduceAdd, Int.reduceSub, Int.reduceMul, Int.reduceEq, Int.reduceNeg, reduceCtorEq, true_and, and_true, Int.toNat_natCast, List.getElem?_map, Option.map_some, List.length_map, List.length_take, List.length_drop, List.length_append, Nat.sub_zero, Int.toNat_zero, List.length_replicate, Bool.true_or, Bool.or_true, Bool.false_or, Bool.or_false, false_implies, implies_true]))
        all_goals first | rw [if_pos (by simp; omega)] at hs | rw [if_neg (by simp; omega)] at hs
        all_goals refine ⟨j + 1, by omega, by omega, _, _, hs, rfl, by first | (simp [hc]; done) | (simp; assumption), .inr ⟨_, ?_, bs_eq (by simp), ?_⟩⟩
        all_goals first | omega | (simp [inV, St.del_c]; done)
      · (repeat' (first | with_reducible refine agr_d (fun hc => ?_) (fun hc => ?_) | with_reducible refine agr_n (fun hc => ?_) (fun hc => ?_) | with_reducible refine acd_d (fun hc => ?_) (fun hc => ?_) | with_reducible refine acd_n (fun hc => ?_) (fun hc => ?_) | with_reducible refine dgr_d (fun hc => ?_) (fun hc => ?_) | with_reducible refine dgr_n (fun hc => ?_) (fun hc => ?_) | with_reducible refine dl_sound _ _ [] [] [] _ _ (fun _ h => absurd h List.not_mem_nil) ?_ | simp (disch := omega) only [go_sem, h0, h1, h7, h6, h5, hg, hb, Nat.reduceAdd, Nat.reduceSub, Nat.reduceMul, Nat.reduceLeDiff, Nat.reduceLT, Nat.reduceEqDiff, Int.reduceLT, Int.reduceLE, Int.reduceToNat, Int.reduceAdd, Int.reduceSub, Int.reduceMul, Int.reduceEq, Int.reduceNeg, reduceCtorEq, true_and, and_true, Int.toNat_natCast, List.getElem?_map, Option.map_some, List.length_map, List.length_take, List.length_drop, List.length_append, Nat.sub_zero, Int.toNat_zero, List.length_replicate, Bool.true_or, Bool.or_true, Bool.false_or, Bool.or_false, false_implies, implies_true]))
        all_goals rw [if_neg (by simp)] at hs
        all_goals refine ⟨j + 1, by omega, by omega, _, _, hs, rfl, by simp, .inr ⟨_, ?_, bs_eq (by simp), ?_⟩⟩
        all_goals first | omega | (simp [inV, St.del_c]; done)
  · obtain rfl : j = l.length := by omega
    have hr : fenceR l k = if dn = true then o else o ++ [k] := by
      unfold fenceR
      rw [hp]
    rcases h5 with ⟨h00, h5, rfl⟩ | ⟨b, hbc, h5, hb⟩
    · cases dn
      · (repeat' (first | with_reducible refine agr_d (fun hc => ?_) (fun hc => ?_) | with_reducible refine agr_n (fun hc => ?_) (fun hc => ?_) | with_reducible refine acd_d (fun hc => ?_) (fun hc => ?_) | with_reducible refine acd_n (fun hc => ?_) (fun hc => ?_) | with_reducible refine dgr_d (fun hc => ?_) (fun hc => ?_) | with_reducible refine dgr_n (fun hc => ?_) (fun hc => ?_) | with_reducible refine dl_sound _ _ [] [] [] _ _ (fun _ h => absurd h List.not_mem_nil) ?_ | simp (disch := omega) only [go_sem, h0, h1, h7, h6, h5, Nat.reduceAdd, Nat.reduceSub, Nat.reduceMul, Nat.reduceLeDiff, Nat.reduceLT, Nat.reduceEqDiff, Int.reduceLT, Int.reduceLE, Int.reduceToNat, Int.reduceAdd, Int.reduceSub, Int.reduceMul, Int.reduceEq, Int.reduceNeg, reduceCtorEq, true_and, and_true, Int.toNat_natCast, List.getElem?_map, Option.map_some, List.length_map, List.length_take, List.length_drop, List.length_append, Nat.sub_zero, Int.toNat_zero, List.length_replicate, Bool.true_or, Bool.or_true, Bool.false_or, Bool.or_false, false_implies, implies_true]))
        refine fconEnd_v (.inl rfl) ?_
        simp (disch := omega) only [go_sem, Nat.reduceAdd, Nat.reduceSub, Nat.reduceMul, Nat.reduceLeDiff, Nat.reduceLT, Nat.reduceEqDiff, Int.reduceLT, Int.reduceLE, Int.reduceToNat, Int.reduceAdd, Int.reduceSub, Int.reduceMul, Int.reduceEq, Int.reduceNeg, reduceCtorEq, true_and, and_true, Int.toNat_natCast, List.getElem?_map, Option.map_some, List.length_map, List.length_take, List.length_drop, List.length_append, Nat.sub_zero, Int.toNat_zero, List.length_replicate, Bool.true_or, Bool.or_true, Bool.false_or, Bool.or_false, false_implies, implies_true]
        refine fzo_end (by rw [St.get_new]; exact if_pos rfl) ?_ ?_ (by rw [hr]; rfl)
        · rfl
        · exact sc_in [k]
      · have : l = [] := List.eq_nil_of_length_eq_zero h00
        subst this
        simp [fenceA] at hp
    · have ho : o.length ≤ 2 * l.length := hlen
      cases dn
      · (repeat' (first | with_reducible refine agr_d (fun hc => ?_) (fun hc => ?_) | with_reducible refine agr_n (fun hc => ?_) (fun hc => ?_) | with_reducible refine acd_d (fun hc => ?_) (fun hc => ?_) | with_reducible refine acd_n (fun hc => ?_) (fun hc => ?_) | with_reducible refine dgr_d (fun hc => ?_) (fun hc => ?_) | with_reducible refine dgr_n (fun hc => ?_) (fun hc => ?_) | with_reducible refine dl_sound _ _ [] [] [] _ _ (fun _ h => absurd h List.not_mem_nil) ?_ | simp (disch := omega) only [go_sem, h0, h1, h7, h6, h5, hb, Nat.reduceAdd, Nat.reduceSub, Nat.reduceMul, Nat.reduceLeDiff, Nat.reduceLT, Nat.reduceEqDiff, Int.reduceLT, Int.reduceLE, Int.reduceToNat, Int.reduceAdd, Int.reduceSub, Int.reduceMul, Int.reduceEq, Int.reduceNeg, reduceCtorEq, true_and, and_true, Int.toNat_natCast, List.getElem?_map, Option.map_some, List.length_map, List.length_take, List.length_drop, List.length_append, Nat.sub_zero, Int.toNat_zero, List.length_replicate, Bool.true_or, Bool.or_true, Bool.false_or, Bool.or_false, false_implies, implies_true]))
        refine fconEnd_v (.inl rfl) ?_
        simp (disch := omega) only [go_sem, Nat.reduceAdd, Nat.reduceSub, Nat.reduceMul, Nat.reduceLeDiff, Nat.reduceLT, Nat.reduceEqDiff, Int.reduceLT, Int.reduceLE, Int.reduceToNat, Int.reduceAdd, Int.reduceSub, Int.reduceMul, Int.reduceEq, Int.reduceNeg, reduceCtorEq, true_and, and_true, Int.toNat_natCast, List.getElem?_map, Option.map_some, List.length_map, List.length_take, List.length_drop, List.length_append, Nat.sub_zero, Int.toNat_zero, List.length_replicate, Bool.true_or, Bool.or_true, Bool.false_or, Bool.or_false, false_implies, implies_true]
        refine fzo_end (sz := 1) (lk := 0) (es := (o ++ [k]).map inV) (by simp [inV, St.get_new, St.del_c]) ?_ (sc_in _) (by rw [hr]; rfl)
        simp
      · (repeat' (first | with_reducible refine agr_d (fun hc => ?_) (fun hc => ?_) | with_reducible refine agr_n (fun hc => ?_) (fun hc => ?_) | with_reducible refine acd_d (fun hc => ?_) (fun hc => ?_) | with_reducible refine acd_n (fun hc => ?_) (fun hc => ?_) | with_reducible refine dgr_d (fun hc => ?_) (fun hc => ?_) | with_reducible refine dgr_n (fun hc => ?_) (fun hc => ?_) | with_reducible refine dl_sound _ _ [] [] [] _ _ (fun _ h => absurd h List.not_mem_nil) ?_ | simp (disch := omega) only [go_sem, h0, h1, h7, h6, h5, hb, Nat.reduceAdd, Nat.reduceSub, Nat.reduceMul, Nat.reduceLeDiff, Nat.reduceLT, Nat.reduceEqDiff, Int.reduceLT, Int.reduceLE, Int.reduceToNat, Int.reduceAdd, Int.reduceSub, Int.reduceMul, Int.reduceEq, Int.reduceNeg, reduceCtorEq, true_and, and_true, Int.toNat_natCast, List.getElem?_map, Option.map_some, List.length_map, List.length_take, List.length_drop, List.length_append, Nat.sub_zero, Int.toNat_zero, List.length_replicate, Bool.true_or, Bool.or_true, Bool.false_or, Bool.or_false, false_implies, implies_true]))
        refine fconEnd_v (.inl rfl) ?_
        simp (disch := omega) only [go_sem, Nat.reduceAdd, Nat.reduceSub, Nat.reduceMul, Nat.reduceLeDiff, Nat.reduceLT, Nat.reduceEqDiff, Int.reduceLT, Int.reduceLE, Int.reduceToNat, Int.reduceAdd, Int.reduceSub, Int.reduceMul, Int.reduceEq, Int.reduceNeg, reduceCtorEq, true_and, and_true, Int.toNat_natCast, List.getElem?_map, Option.map_some, List.length_map, List.length_take, List.length_drop, List.length_append, Nat.sub_zero, Int.toNat_zero, List.length_replicate, Bool.true_or, Bool.or_true, Bool.false_or, Bool.or_false, false_implies, implies_true]
        refine fzo_end (es := o.map inV) (by first | exact hb | (simp; exact hb)) ?_ (sc_in _) (by rw [hr]; rfl)
        simp

set_option maxRecDepth 100000 in
set_option maxHeartbeats 4000000 in
theorem put6_fc (n : Int) (h0 : 0 ≤ n) (h1 : n ≤ 1099511627776) : FCon Try.prog 43 [.sl [] true, .int .i64 6, .sl [[.int .i64 n]] false] (.tup [.sl ((six n).map fun x => [.int .u8 x]) false, .int .i64 0]) := by
  refine fcon_of_awp Try.func43 rfl mixed (by decide) rfl (by kernel_rfl) rfl ?_
  have hm := most6_con
  have hf := fits6_con n h0 h1
  (repeat' (first | with_reducible refine agr_d (fun hc => ?_) (fun hc => ?_) | with_reducible refine agr_n (fun hc => ?_) (fun hc => ?_) | with_reducible refine acd_d (fun hc => ?_) (fun hc => ?_) | with_reducible refine acd_n (fun hc => ?_) (fun hc => ?_) | with_reducible refine dgr_d (fun hc => ?_) (fun hc => ?_) | with_reducible refine dgr_n (fun hc => ?_) (fun hc => ?_) | with_reducible refine dl_sound _ _ [] [] [] _ _ (fun _ h => absurd h List.not_mem_nil) ?_ | with_reducible refine dc1_p hm ?_ | with_reducible refine ac1_p hm ?_ | with_reducible refine dc1_p hf ?_ | with_reducible refine ac1_p hf ?_ | with_reducible refine awp_unroll 8 ?_ | simp (disch := omega) only [go_sem, Nat.reduceAdd, Nat.reduceSub, Nat.reduceMul, Nat.reduceLeDiff, Nat.reduceLT, Nat.reduceEqDiff, Int.reduceLT, Int.reduceLE, Int.reduceToNat, Int.reduceAdd, Int.reduceSub, Int.reduceMul, Int.reduceEq, Int.reduceNeg, reduceCtorEq, true_and, and_true, Int.toNat_natCast, List.getElem?_map, Option.map_some, List.length_map, List.length_take, List.length_drop, List.length_append, Nat.sub_zero, Int.toNat_zero, List.length_replicate, Bool.true_or, Bool.or_true, Bool.false_or, Bool.or_false, false_implies, implies_true]))
  refine fconEnd_v (.inl rfl) ?_
  simp (disch := omega) only [go_sem, wrap8, Nat.reduceAdd, Nat.reduceSub, Nat.reduceMul, Nat.reduceLeDiff, Nat.reduceLT, Nat.reduceEqDiff, Int.reduceLT, Int.reduceLE, Int.reduceToNat, Int.reduceAdd, Int.reduceSub, Int.reduceMul, Int.reduceEq, Int.reduceNeg, reduceCtorEq, true_and, and_true, Int.toNat_natCast, List.getElem?_map, Option.map_some, List.length_map, List.length_take, List.length_drop, List.length_append, Nat.sub_zero, Int.toNat_zero, List.length_replicate, Bool.true_or, Bool.or_true, Bool.false_or, Bool.or_false, false_implies, implies_true]
  refine ⟨fun _ => 6, fzo_tup2 (FzO.rows (es := (six n).map fun x => [V.int .u8 x]) (sz := 1) (lk := 0) ?_ (by simp [six]) (fun r hr x hx => ?_)) (.sc _ (.int _ _))⟩
  · rw [St.get_new]
    exact if_pos rfl
  · obtain ⟨p, _, rfl⟩ := List.mem_map.1 hr
    simp only [List.mem_cons, List.not_mem_nil, or_false] at hx
    rw [hx]
    exact .int _ _
end Go.Proofs.Ytllijcnbjbfabaa

namespace Go.Proofs.Ytllijcnbjbfabaa
open Go.RowKit
set_option linter.unusedSimpArgs false
set_option linter.unusedVariables false

set_option maxRecDepth 100000 in
set_option maxHeartbeats 32000000 in
theorem Do_5 (d : Dev) (hd : DevOk d) (hm : MayD d) (node : Nat) (hn : node < d.keys.length) (a : Ac) (ha : AcOk a) (hk : a.k = 5) : Con Try.prog 12 [devV d, .int .i64 node, acV a] (· = doV (doR d node a)) := by
  have hA := notA hm hn (by omega) (by omega : a.k ≤ 6)
  have hs1 := ha.s
  have hkr := ha.key
  have hcn : node < d.cache.length := by rw [hm.c]; exact hn
  have hkg : d.keys[node]? = some d.keys[node] := List.getElem?_eq_getElem hn
  have hkd : d.keys.getD node 0 = d.keys[node] := by rw [List.getD_eq_getElem?_getD, hkg]; rfl
  have hcd : d.cache.getD node [] = d.cache[node] := by rw [List.getD_eq_getElem?_getD, List.getElem?_eq_getElem hcn]; rfl
  have hc : PCon Try.prog 36 [devV d] (.int .i64 0) := ⟨by have := Check_con d hd; rw [show chk d = 0 by unfold chk; rw [(checkB_iff d).2 hm]; rfl] at this; exact this, by (simp only [List.nil_append, List.cons_append, List.append_nil, List.forall_mem_cons, List.not_mem_nil, false_implies, implies_true, and_true, true_and, plain_agg, plain_tup, plain_int, plain_bool, plain_str, plain_nilp, plain_nilfn, plain_undef, plain_dev, plain_pr, plain_tx, plain_in, plain_cc])⟩
  have hF : Con Try.prog 38 [devV d, .sl [[.int .i64 d.keys[node]]] false] (· = .bool (fencedB d [d.keys[node]])) := Fenced_con _ _ _ _ d false false [d.keys[node]] (by have := hd.f; omega) (by simp)
  have hpd : Plain (devV d) := (plain_dev d).2 trivial
  have hpk : Plain (.sl [[.int .i64 d.keys[node]]] false) := (plain_in [d.keys[node]] false).2 trivial
  have hcl := hd.ci node hcn
  have hgc := given_c d a.key (by omega)
  refine con_of_awp Try.func12 rfl mixed (by decide) rfl (by kernel_rfl) rfl ?_
  cases hgb : givenB d a.key with
  | false =>
    rw [hgb] at hgc
    rw [refuse_b hA (.inr (.inl ⟨hk, hgb⟩))]
    (repeat' (first | with_reducible refine agr_d (fun hc => ?_) (fun hc => ?_) | with_reducible refine agr_n (fun hc => ?_) (fun hc => ?_) | with_reducible refine acd_d (fun hc => ?_) (fun hc => ?_) | with_reducible refine acd_n (fun hc => ?_) (fun hc => ?_) | with_reducible refine dgr_d (fun hc => ?_) (fun hc => ?_) | with_reducible refine dgr_n (fun hc => ?_) (fun hc => ?_) | with_reducible refine dl_sound _ _ [] [] [] _ _ (fun _ h => absurd h List.not_mem_nil) ?_ | with_reducible refine conEnd_p (.inl rfl) ?_ | with_reducible refine conEnd_p (.inr rfl) ?_ | with_reducible refine dc1_p hc ?_ | with_reducible refine ac1_p hc ?_ | with_reducible refine dc1_p hgc ?_ | with_reducible refine ac1_p hgc ?_ | with_reducible refine dc1_sc2 (sz := 1) (lk := 0) hpd ?_ ?_ hpk hF (.bool _) ?_ | simp (disch := omega) only [go_sem, devV, doV, hk, hkg, Nat.reduceAdd, Nat.reduceSub, Nat.reduceMul, Nat.reduceLeDiff, Nat.reduceLT, Nat.reduceEqDiff, Int.reduceLT, Int.reduceLE, Int.reduceToNat, Int.reduceAdd, Int.reduceSub, Int.reduceMul, Int.reduceEq, Int.reduceNeg, reduceCtorEq, true_and, and_true, Int.toNat_natCast, List.getElem?_map, Option.map_some, List.length_map, List.length_take, List.length_drop, List.length_append, Nat.sub_zero, Int.toNat_zero, List.length_replicate, Bool.true_or, Bool.or_true, Bool.false_or, Bool.or_false, false_implies, implies_true]))
  | true =>
  rw [hgb] at hgc
  have hB : ¬ refB d a := by
    rintro (⟨h, _⟩ | ⟨_, h⟩ | ⟨h, _⟩)
    · omega
    · rw [hgb] at h; cases h
    · omega
  have hCd : refC d node a ↔ fencedB d [d.keys[node]] = true := by
    unfold refC
    rw [Int.toNat_natCast, hkd]
    exact ⟨fun h => h.2, fun h => ⟨by omega, h⟩⟩
  cases hfb : fencedB d [d.keys[node]] with
  | true =>
    rw [hfb] at hF
    rw [refuse_c hA hB (hCd.2 hfb)]
    (repeat' (first | with_reducible refine agr_d (fun hc => ?_) (fun hc => ?_) | with_reducible refine agr_n (fun hc => ?_) (fun hc => ?_) | with_reducible refine acd_d (fun hc => ?_) (fun hc => ?_) | with_reducible refine acd_n (fun hc => ?_) (fun hc => ?_) | with_reducible refine dgr_d (fun hc => ?_) (fun hc => ?_) | with_reducible refine dgr_n (fun hc => ?_) (fun hc => ?_) | with_reducible refine dl_sound _ _ [] [] [] _ _ (fun _ h => absurd h List.not_mem_nil) ?_ | with_reducible refine conEnd_p (.inl rfl) ?_ | with_reducible refine conEnd_p (.inr rfl) ?_ | with_reducible refine dc1_p hc ?_ | with_reducible refine ac1_p hc ?_ | with_reducible refine dc1_p hgc ?_ | with_reducible refine ac1_p hgc ?_ | with_reducible refine dc1_sc2 (sz := 1) (lk := 0) hpd ?_ ?_ hpk hF (.bool _) ?_ | simp (disch := omega) only [go_sem, devV, doV, hk, hkg, Nat.reduceAdd, Nat.reduceSub, Nat.reduceMul, Nat.reduceLeDiff, Nat.reduceLT, Nat.reduceEqDiff, Int.reduceLT, Int.reduceLE, Int.reduceToNat, Int.reduceAdd, Int.reduceSub, Int.reduceMul, Int.reduceEq, Int.reduceNeg, reduceCtorEq, true_and, and_true, Int.toNat_natCast, List.getElem?_map, Option.map_some, List.length_map, List.length_take, List.length_drop, List.length_append, Nat.sub_zero, Int.toNat_zero, List.length_replicate, Bool.true_or, Bool.or_true, Bool.false_or, Bool.or_false, false_implies, implies_true]))
  | false =>
  rw [hfb] at hF
  have hC : ¬ refC d node a := by rw [hCd, hfb]; simp
  have hD : ¬ refD d a := by rintro ⟨h, _⟩; omega
  have hsg : True := trivial
  rw [do_ok hA hB hC hD]
  (repeat' (first | with_reducible refine agr_d (fun hc => ?_) (fun hc => ?_) | with_reducible refine agr_n (fun hc => ?_) (fun hc => ?_) | with_reducible refine acd_d (fun hc => ?_) (fun hc => ?_) | with_reducible refine acd_n (fun hc => ?_) (fun hc => ?_) | with_reducible refine dgr_d (fun hc => ?_) (fun hc => ?_) | with_reducible refine dgr_n (fun hc => ?_) (fun hc => ?_) | with_reducible refine dl_sound _ _ [] [] [] _ _ (fun _ h => absurd h List.not_mem_nil) ?_ | with_reducible refine dc1_p hc ?_ | with_reducible refine ac1_p hc ?_ | with_reducible refine dc1_p hgc ?_ | with_reducible refine ac1_p hgc ?_ | with_reducible refine dc1_sc2 (sz := 1) (lk := 0) hpd ?_ ?_ hpk hF (.bool _) ?_ | simp (disch := omega) only [go_sem, devV, doV, hk, hkg, Nat.reduceAdd, Nat.reduceSub, Nat.reduceMul, Nat.reduceLeDiff, Nat.reduceLT, Nat.reduceEqDiff, Int.reduceLT, Int.reduceLE, Int.reduceToNat, Int.reduceAdd, Int.reduceSub, Int.reduceMul, Int.reduceEq, Int.reduceNeg, reduceCtorEq, true_and, and_true, Int.toNat_natCast, List.getElem?_map, Option.map_some, List.length_map, List.length_take, List.length_drop, List.length_append, Nat.sub_zero, Int.toNat_zero, List.length_replicate, Bool.true_or, Bool.or_true, Bool.false_or, Bool.or_false, false_implies, implies_true]))
  refine ac1_i (copied_con d hd (by omega) _) ?_
  rintro _ ⟨g, c⟩ ⟨bS, bK, bF, bC, bc, rfl, HF, hold⟩
  obtain ⟨o1, o2, o3, o4, o5, o6, o7, hS, hK, hFn, hC1, hci⟩ := HF
  have o4n := o4 node hcn
  have hcin := hci node hcn
  have hcr := cRows_at (bc := bc) hcn
  dsimp only at o1 o7 hS hK hFn hC1 hci hold hcin
  have o1' : 3 ≤ bS := Nat.le_trans (by simp) o1
  have q0 : g 0 = some (devB d) := (hold 0 (by simp)).trans (by simp (disch := omega) only [go_sem, Nat.reduceAdd, Nat.reduceSub, Nat.reduceMul, Nat.reduceLeDiff, Nat.reduceLT, Nat.reduceEqDiff, Int.reduceLT, Int.reduceLE, Int.reduceToNat, Int.reduceAdd, Int.reduceSub, Int.reduceMul, Int.reduceEq, Int.reduceNeg, reduceCtorEq, true_and, and_true, Int.toNat_natCast, List.getElem?_map, Option.map_some, List.length_map, List.length_take, List.length_drop, List.length_append, Nat.sub_zero, Int.toNat_zero, List.length_replicate, Bool.true_or, Bool.or_true, Bool.false_or, Bool.or_false, false_implies, implies_true] <;> rfl)
  have q1 : g 1 = some ⟨[[.int .i8 5, .int .i64 a.s, .str a.b, .int .i64 a.key]], 4, 0⟩ := (hold 1 (by simp)).trans (by simp (disch := omega) only [go_sem, hk, Nat.reduceAdd, Nat.reduceSub, Nat.reduceMul, Nat.reduceLeDiff, Nat.reduceLT, Nat.reduceEqDiff, Int.reduceLT, Int.reduceLE, Int.reduceToNat, Int.reduceAdd, Int.reduceSub, Int.reduceMul, Int.reduceEq, Int.reduceNeg, reduceCtorEq, true_and, and_true, Int.toNat_natCast, List.getElem?_map, Option.map_some, List.length_map, List.length_take, List.length_drop, List.length_append, Nat.sub_zero, Int.toNat_zero, List.length_replicate, Bool.true_or, Bool.or_true, Bool.false_or, Bool.or_false, false_implies, implies_true] <;> rfl)
  have q2 : g 2 = some ⟨[[.sl [] true, .sl [] true, .sl [] true, .int .i64 0, .sl [] true]], 5, 0⟩ := (hold 2 (by simp)).trans (by simp (disch := omega) only [go_sem, Nat.reduceAdd, Nat.reduceSub, Nat.reduceMul, Nat.reduceLeDiff, Nat.reduceLT, Nat.reduceEqDiff, Int.reduceLT, Int.reduceLE, Int.reduceToNat, Int.reduceAdd, Int.reduceSub, Int.reduceMul, Int.reduceEq, Int.reduceNeg, reduceCtorEq, true_and, and_true, Int.toNat_natCast, List.getElem?_map, Option.map_some, List.length_map, List.length_take, List.length_drop, List.length_append, Nat.sub_zero, Int.toNat_zero, List.length_replicate, Bool.true_or, Bool.or_true, Bool.false_or, Bool.or_false, false_implies, implies_true] <;> rfl)
  clear hold o1
  have hP := place_con d.cache[node] false a.s (by omega)
  have hpl : Plain (.sl (d.cache[node].map prV) false) := (plain_pr _ _).2 trivial
  have hfl := hd.f
  have hW := fence_fc d.fen false a.key (by omega)
  have hpf : Plain (.sl (d.fen.map inV) false) := (plain_in _ _).2 trivial
  have hflen : (fenceR d.fen a.key).length ≤ 2000003 := by have := fenceR_len d.fen a.key; omega
  (repeat' (first | with_reducible refine agr_d (fun hc => ?_) (fun hc => ?_) | with_reducible refine agr_n (fun hc => ?_) (fun hc => ?_) | with_reducible refine acd_d (fun hc => ?_) (fun hc => ?_) | with_reducible refine acd_n (fun hc => ?_) (fun hc => ?_) | with_reducible refine dgr_d (fun hc => ?_) (fun hc => ?_) | with_reducible refine dgr_n (fun hc => ?_) (fun hc => ?_) | with_reducible refine dl_sound _ _ [] [] [] _ _ (fun _ h => absurd h List.not_mem_nil) ?_ | with_reducible refine ac1_sc1 (sz := 2) (lk := 0) (.int _ _) ?_ ?_ hpl hP (.int _ _) ?_ | with_reducible refine ac1_fr1 (sz := 1) (lk := 0) (.int _ _) ?_ ?_ hpf hW ?_ | simp (disch := omega) only [go_sem, freshV, hk, hsg, q0, q1, q2, hS, hK, hFn, hC1, hcin, hcr, Nat.reduceAdd, Nat.reduceSub, Nat.reduceMul, Nat.reduceLeDiff, Nat.reduceLT, Nat.reduceEqDiff, Int.reduceLT, Int.reduceLE, Int.reduceToNat, Int.reduceAdd, Int.reduceSub, Int.reduceMul, Int.reduceEq, Int.reduceNeg, reduceCtorEq, true_and, and_true, Int.toNat_natCast, List.getElem?_map, Option.map_some, List.length_map, List.length_take, List.length_drop, List.length_append, Nat.sub_zero, Int.toNat_zero, List.length_replicate, Bool.true_or, Bool.or_true, Bool.false_or, Bool.or_false, false_implies, implies_true]))
  refine conEnd_f (.inl rfl) ?_
  simp (disch := omega) only [go_sem, hS, hK, hFn, hC1, hcin, Nat.reduceAdd, Nat.reduceSub, Nat.reduceMul, Nat.reduceLeDiff, Nat.reduceLT, Nat.reduceEqDiff, Int.reduceLT, Int.reduceLE, Int.reduceToNat, Int.reduceAdd, Int.reduceSub, Int.reduceMul, Int.reduceEq, Int.reduceNeg, reduceCtorEq, true_and, and_true, Int.toNat_natCast, List.getElem?_map, Option.map_some, List.length_map, List.length_take, List.length_drop, List.length_append, Nat.sub_zero, Int.toNat_zero, List.length_replicate, Bool.true_or, Bool.or_true, Bool.false_or, Bool.or_false, false_implies, implies_true]
  have hact : actD d node a = ({ d with fen := fenceR d.fen a.key }, ⟨#[]⟩) := by
    unfold actD
    dsimp only
    rw [if_neg (by omega), if_neg (by omega), if_neg (by omega), if_neg (by omega), if_pos hk]
  rw [hact]
  refine ⟨mny, _, fz_tup3 (fz_dev (d := { d with fen := fenceR d.fen a.key }) rfl (fz_row (sz := 1) (lk := 0) (es := d.s.map txV) ?_ (by simp) (by have := hd.s; omega) ((plain_tx _ _).2 trivial)) (fz_caches (lk := 0) (bc := bc) hd ?_ (fun i h => ?_)) (fz_row (sz := 1) (lk := 0) (es := d.keys.map inV) ?_ (by simp) (by have := hd.k; omega) ((plain_in _ _).2 trivial)) (.plain _ ((plain_in _ _).2 trivial))) (.plain _ (.str _)) (.plain _ (.int _ _)), rfl⟩
  all_goals first | (simp (disch := omega) only [go_sem, hS, hK, hFn, hC1, hcin, Nat.reduceAdd, Nat.reduceSub, Nat.reduceMul, Nat.reduceLeDiff, Nat.reduceLT, Nat.reduceEqDiff, Int.reduceLT, Int.reduceLE, Int.reduceToNat, Int.reduceAdd, Int.reduceSub, Int.reduceMul, Int.reduceEq, Int.reduceNeg, reduceCtorEq, true_and, and_true, Int.toNat_natCast, List.getElem?_map, Option.map_some, List.length_map, List.length_take, List.length_drop, List.length_append, Nat.sub_zero, Int.toNat_zero, List.length_replicate, Bool.true_or, Bool.or_true, Bool.false_or, Bool.or_false, false_implies, implies_true]; done) | (have := o4 i h; have := hci i h; simp (disch := omega) only [go_sem, this, Nat.reduceAdd, Nat.reduceSub, Nat.reduceMul, Nat.reduceLeDiff, Nat.reduceLT, Nat.reduceEqDiff, Int.reduceLT, Int.reduceLE, Int.reduceToNat, Int.reduceAdd, Int.reduceSub, Int.reduceMul, Int.reduceEq, Int.reduceNeg, reduceCtorEq, true_and, and_true, Int.toNat_natCast, List.getElem?_map, Option.map_some, List.length_map, List.length_take, List.length_drop, List.length_append, Nat.sub_zero, Int.toNat_zero, List.length_replicate, Bool.true_or, Bool.or_true, Bool.false_or, Bool.or_false, false_implies, implies_true]; done) | (have := o4 i h; have := hci i h; have : bc i ≠ bc node := (by rcases Nat.lt_or_gt_of_ne hne with h1 | h1 <;> first | exact Nat.ne_of_lt (o5 _ _ h1 hcn) | exact Nat.ne_of_gt (o5 _ _ h1 h)); simp (disch := omega) only [go_sem, hci i h, Nat.reduceAdd, Nat.reduceSub, Nat.reduceMul, Nat.reduceLeDiff, Nat.reduceLT, Nat.reduceEqDiff, Int.reduceLT, Int.reduceLE, Int.reduceToNat, Int.reduceAdd, Int.reduceSub, Int.reduceMul, Int.reduceEq, Int.reduceNeg, reduceCtorEq, true_and, and_true, Int.toNat_natCast, List.getElem?_map, Option.map_some, List.length_map, List.length_take, List.length_drop, List.length_append, Nat.sub_zero, Int.toNat_zero, List.length_replicate, Bool.true_or, Bool.or_true, Bool.false_or, Bool.or_false, false_implies, implies_true]; done) | skip
end Go.Proofs.Ytllijcnbjbfabaa

namespace Go.Proofs.Ytllijcnbjbfabaa
open Go.RowKit
set_option linter.unusedSimpArgs false
set_option linter.unusedVariables false

set_option maxRecDepth 100000 in
set_option maxHeartbeats 32000000 in
theorem Do_6 (d : Dev) (hd : DevOk d) (hm : MayD d) (node : Nat) (hn : node < d.keys.length) (a : Ac) (ha : AcOk a) (hk : a.k = 6) : Con Try.prog 12 [devV d, .int .i64 node, acV a] (· = doV (doR d node a)) := by
  have hA := notA hm hn (by omega) (by omega : a.k ≤ 6)
  have hs1 := ha.s
  have hkr := ha.key
  have hcn : node < d.cache.length := by rw [hm.c]; exact hn
  have hkg : d.keys[node]? = some d.keys[node] := List.getElem?_eq_getElem hn
  have hkd : d.keys.getD node 0 = d.keys[node] := by rw [List.getD_eq_getElem?_getD, hkg]; rfl
  have hcd : d.cache.getD node [] = d.cache[node] := by rw [List.getD_eq_getElem?_getD, List.getElem?_eq_getElem hcn]; rfl
  have hc : PCon Try.prog 36 [devV d] (.int .i64 0) := ⟨by have := Check_con d hd; rw [show chk d = 0 by unfold chk; rw [(checkB_iff d).2 hm]; rfl] at this; exact this, by (simp only [List.nil_append, List.cons_append, List.append_nil, List.forall_mem_cons, List.not_mem_nil, false_implies, implies_true, and_true, true_and, plain_agg, plain_tup, plain_int, plain_bool, plain_str, plain_nilp, plain_nilfn, plain_undef, plain_dev, plain_pr, plain_tx, plain_in, plain_cc])⟩
  have hF : Con Try.prog 38 [devV d, .sl [[.int .i64 d.keys[node]]] false] (· = .bool (fencedB d [d.keys[node]])) := Fenced_con _ _ _ _ d false false [d.keys[node]] (by have := hd.f; omega) (by simp)
  have hpd : Plain (devV d) := (plain_dev d).2 trivial
  have hpk : Plain (.sl [[.int .i64 d.keys[node]]] false) := (plain_in [d.keys[node]] false).2 trivial
  have hcl := hd.ci node hcn
  have hgc := given_c d a.key (by omega)
  refine con_of_awp Try.func12 rfl mixed (by decide) rfl (by kernel_rfl) rfl ?_
  by_cases gb : 68719476736 ≤ d.next
  · rw [refuse_b hA (.inr (.inr ⟨hk, gb⟩))]
    (repeat' (first | with_reducible refine agr_d (fun hc => ?_) (fun hc => ?_) | with_reducible refine agr_n (fun hc => ?_) (fun hc => ?_) | with_reducible refine acd_d (fun hc => ?_) (fun hc => ?_) | with_reducible refine acd_n (fun hc => ?_) (fun hc => ?_) | with_reducible refine dgr_d (fun hc => ?_) (fun hc => ?_) | with_reducible refine dgr_n (fun hc => ?_) (fun hc => ?_) | with_reducible refine dl_sound _ _ [] [] [] _ _ (fun _ h => absurd h List.not_mem_nil) ?_ | with_reducible refine conEnd_p (.inl rfl) ?_ | with_reducible refine conEnd_p (.inr rfl) ?_ | with_reducible refine dc1_p hc ?_ | with_reducible refine ac1_p hc ?_ | with_reducible refine dc1_p hgc ?_ | with_reducible refine ac1_p hgc ?_ | with_reducible refine dc1_sc2 (sz := 1) (lk := 0) hpd ?_ ?_ hpk hF (.bool _) ?_ | simp (disch := omega) only [go_sem, devV, doV, hk, hkg, Nat.reduceAdd, Nat.reduceSub, Nat.reduceMul, Nat.reduceLeDiff, Nat.reduceLT, Nat.reduceEqDiff, Int.reduceLT, Int.reduceLE, Int.reduceToNat, Int.reduceAdd, Int.reduceSub, Int.reduceMul, Int.reduceEq, Int.reduceNeg, reduceCtorEq, true_and, and_true, Int.toNat_natCast, List.getElem?_map, Option.map_some, List.length_map, List.length_take, List.length_drop, List.length_append, Nat.sub_zero, Int.toNat_zero, List.length_replicate, Bool.true_or, Bool.or_true, Bool.false_or, Bool.or_false, false_implies, implies_true]))
  have hB : ¬ refB d a := by rintro (⟨h, _⟩ | ⟨h, _⟩ | ⟨_, h⟩) <;> omega
  have hC : ¬ refC d node a := fun h => h.1 hk
  have hD : ¬ refD d a := by rintro ⟨h, _⟩; omega
  have hsg : True := trivial
  rw [do_ok hA hB hC hD]
  (repeat' (first | with_reducible refine agr_d (fun hc => ?_) (fun hc => ?_) | with_reducible refine agr_n (fun hc => ?_) (fun hc => ?_) | with_reducible refine acd_d (fun hc => ?_) (fun hc => ?_) | with_reducible refine acd_n (fun hc => ?_) (fun hc => ?_) | with_reducible refine dgr_d (fun hc => ?_) (fun hc => ?_) | with_reducible refine dgr_n (fun hc => ?_) (fun hc => ?_) | with_reducible refine dl_sound _ _ [] [] [] _ _ (fun _ h => absurd h List.not_mem_nil) ?_ | with_reducible refine dc1_p hc ?_ | with_reducible refine ac1_p hc ?_ | with_reducible refine dc1_p hgc ?_ | with_reducible refine ac1_p hgc ?_ | with_reducible refine dc1_sc2 (sz := 1) (lk := 0) hpd ?_ ?_ hpk hF (.bool _) ?_ | simp (disch := omega) only [go_sem, devV, doV, hk, hkg, Nat.reduceAdd, Nat.reduceSub, Nat.reduceMul, Nat.reduceLeDiff, Nat.reduceLT, Nat.reduceEqDiff, Int.reduceLT, Int.reduceLE, Int.reduceToNat, Int.reduceAdd, Int.reduceSub, Int.reduceMul, Int.reduceEq, Int.reduceNeg, reduceCtorEq, true_and, and_true, Int.toNat_natCast, List.getElem?_map, Option.map_some, List.length_map, List.length_take, List.length_drop, List.length_append, Nat.sub_zero, Int.toNat_zero, List.length_replicate, Bool.true_or, Bool.or_true, Bool.false_or, Bool.or_false, false_implies, implies_true]))
  refine ac1_i (copied_con d hd (by omega) _) ?_
  rintro _ ⟨g, c⟩ ⟨bS, bK, bF, bC, bc, rfl, HF, hold⟩
  obtain ⟨o1, o2, o3, o4, o5, o6, o7, hS, hK, hFn, hC1, hci⟩ := HF
  have o4n := o4 node hcn
  have hcin := hci node hcn
  have hcr := cRows_at (bc := bc) hcn
  dsimp only at o1 o7 hS hK hFn hC1 hci hold hcin
  have o1' : 3 ≤ bS := Nat.le_trans (by simp) o1
  have q0 : g 0 = some (devB d) := (hold 0 (by simp)).trans (by simp (disch := omega) only [go_sem, Nat.reduceAdd, Nat.reduceSub, Nat.reduceMul, Nat.reduceLeDiff, Nat.reduceLT, Nat.reduceEqDiff, Int.reduceLT, Int.reduceLE, Int.reduceToNat, Int.reduceAdd, Int.reduceSub, Int.reduceMul, Int.reduceEq, Int.reduceNeg, reduceCtorEq, true_and, and_true, Int.toNat_natCast, List.getElem?_map, Option.map_some, List.length_map, List.length_take, List.length_drop, List.length_append, Nat.sub_zero, Int.toNat_zero, List.length_replicate, Bool.true_or, Bool.or_true, Bool.false_or, Bool.or_false, false_implies, implies_true] <;> rfl)
  have q1 : g 1 = some ⟨[[.int .i8 6, .int .i64 a.s, .str a.b, .int .i64 a.key]], 4, 0⟩ := (hold 1 (by simp)).trans (by simp (disch := omega) only [go_sem, hk, Nat.reduceAdd, Nat.reduceSub, Nat.reduceMul, Nat.reduceLeDiff, Nat.reduceLT, Nat.reduceEqDiff, Int.reduceLT, Int.reduceLE, Int.reduceToNat, Int.reduceAdd, Int.reduceSub, Int.reduceMul, Int.reduceEq, Int.reduceNeg, reduceCtorEq, true_and, and_true, Int.toNat_natCast, List.getElem?_map, Option.map_some, List.length_map, List.length_take, List.length_drop, List.length_append, Nat.sub_zero, Int.toNat_zero, List.length_replicate, Bool.true_or, Bool.or_true, Bool.false_or, Bool.or_false, false_implies, implies_true] <;> rfl)
  have q2 : g 2 = some ⟨[[.sl [] true, .sl [] true, .sl [] true, .int .i64 0, .sl [] true]], 5, 0⟩ := (hold 2 (by simp)).trans (by simp (disch := omega) only [go_sem, Nat.reduceAdd, Nat.reduceSub, Nat.reduceMul, Nat.reduceLeDiff, Nat.reduceLT, Nat.reduceEqDiff, Int.reduceLT, Int.reduceLE, Int.reduceToNat, Int.reduceAdd, Int.reduceSub, Int.reduceMul, Int.reduceEq, Int.reduceNeg, reduceCtorEq, true_and, and_true, Int.toNat_natCast, List.getElem?_map, Option.map_some, List.length_map, List.length_take, List.length_drop, List.length_append, Nat.sub_zero, Int.toNat_zero, List.length_replicate, Bool.true_or, Bool.or_true, Bool.false_or, Bool.or_false, false_implies, implies_true] <;> rfl)
  clear hold o1
  have hP := place_con d.cache[node] false a.s (by omega)
  have hpl : Plain (.sl (d.cache[node].map prV) false) := (plain_pr _ _).2 trivial
  have hn0 := hm.n0
  have hk1 := hm.k1
  have hW := put6_fc (16 * d.next + node) (by omega) (by omega)
  have hkset : (d.keys.map inV).set node [V.int .i64 (16 * d.next + node)] = (d.keys.set node (16 * d.next + node)).map inV := by rw [List.map_set]; rfl
  have hkg2 : (d.keys.set node (16 * d.next + (node : Int)))[node]? = some (16 * d.next + (node : Int)) := by rw [List.getElem?_set_self hn]
  have hpq : Plain (.sl [[.int .i64 (16 * d.next + (node : Int))]] false) := (plain_in [16 * d.next + (node : Int)] false).2 trivial
  (repeat' (first | with_reducible refine agr_d (fun hc => ?_) (fun hc => ?_) | with_reducible refine agr_n (fun hc => ?_) (fun hc => ?_) | with_reducible refine acd_d (fun hc => ?_) (fun hc => ?_) | with_reducible refine acd_n (fun hc => ?_) (fun hc => ?_) | with_reducible refine dgr_d (fun hc => ?_) (fun hc => ?_) | with_reducible refine dgr_n (fun hc => ?_) (fun hc => ?_) | with_reducible refine dl_sound _ _ [] [] [] _ _ (fun _ h => absurd h List.not_mem_nil) ?_ | with_reducible refine ac1_sc1 (sz := 2) (lk := 0) (.int _ _) ?_ ?_ hpl hP (.int _ _) ?_ | with_reducible refine ac1_fr3 (sz := 1) (lk := 0) (.sl [] true (by simp)) (.int _ _) ?_ ?_ hpq hW ?_ | simp (disch := omega) only [go_sem, freshV, hk, hsg, q0, q1, q2, hS, hK, hFn, hC1, hcin, hcr, hkg, hkset, hkg2, cRows_len, six, bytesOf, Nat.reduceAdd, Nat.reduceSub, Nat.reduceMul, Nat.reduceLeDiff, Nat.reduceLT, Nat.reduceEqDiff, Int.reduceLT, Int.reduceLE, Int.reduceToNat, Int.reduceAdd, Int.reduceSub, Int.reduceMul, Int.reduceEq, Int.reduceNeg, reduceCtorEq, true_and, and_true, Int.toNat_natCast, List.getElem?_map, Option.map_some, List.length_map, List.length_take, List.length_drop, List.length_append, Nat.sub_zero, Int.toNat_zero, List.length_replicate, Bool.true_or, Bool.or_true, Bool.false_or, Bool.or_false, false_implies, implies_true]))
  refine conEnd_f (.inl rfl) ?_
  simp (disch := omega) only [go_sem, hS, hK, hFn, hC1, hcin, hkset, Nat.reduceAdd, Nat.reduceSub, Nat.reduceMul, Nat.reduceLeDiff, Nat.reduceLT, Nat.reduceEqDiff, Int.reduceLT, Int.reduceLE, Int.reduceToNat, Int.reduceAdd, Int.reduceSub, Int.reduceMul, Int.reduceEq, Int.reduceNeg, reduceCtorEq, true_and, and_true, Int.toNat_natCast, List.getElem?_map, Option.map_some, List.length_map, List.length_take, List.length_drop, List.length_append, Nat.sub_zero, Int.toNat_zero, List.length_replicate, Bool.true_or, Bool.or_true, Bool.false_or, Bool.or_false, false_implies, implies_true]
  have hact : actD d node a = ({ d with keys := d.keys.set node (16 * d.next + node), next := d.next + 1, cache := d.cache.set node [] }, key6 (16 * d.next + node)) := by
    unfold actD
    dsimp only
    rw [if_neg (by omega), if_neg (by omega), if_neg (by omega), if_neg (by omega), if_neg (by omega)]
  rw [hact]
  refine ⟨mny, _, fz_tup3 (fz_dev (d := { d with keys := d.keys.set node (16 * d.next + node), next := d.next + 1, cache := d.cache.set node [] }) rfl (fz_row (sz := 1) (lk := 0) (es := d.s.map txV) ?_ (by simp) (by have := hd.s; omega) ((plain_tx _ _).2 trivial)) (fz_caches1 (lk := 0) (bc := bc) hd hcn ?_ (fun i h hne => ?_) (.weak [] true (.sl _ _ (by simp)))) (fz_row (sz := 1) (lk := 0) (es := (d.keys.set node (16 * d.next + node)).map inV) ?_ (by simp) (by have := hd.k; omega) ((plain_in _ _).2 trivial)) (fz_row (sz := 1) (lk := 0) (es := d.fen.map inV) ?_ (by simp) (by have := hd.f; omega) ((plain_in _ _).2 trivial))) (.plain _ (.str _)) (.plain _ (.int _ _)), rfl⟩
  all_goals first | (simp (disch := omega) only [go_sem, hS, hK, hFn, hC1, hcin, hkset, Nat.reduceAdd, Nat.reduceSub, Nat.reduceMul, Nat.reduceLeDiff, Nat.reduceLT, Nat.reduceEqDiff, Int.reduceLT, Int.reduceLE, Int.reduceToNat, Int.reduceAdd, Int.reduceSub, Int.reduceMul, Int.reduceEq, Int.reduceNeg, reduceCtorEq, true_and, and_true, Int.toNat_natCast, List.getElem?_map, Option.map_some, List.length_map, List.length_take, List.length_drop, List.length_append, Nat.sub_zero, Int.toNat_zero, List.length_replicate, Bool.true_or, Bool.or_true, Bool.false_or, Bool.or_false, false_implies, implies_true]; done) | (have := o4 i h; have := hci i h; simp (disch := omega) only [go_sem, this, Nat.reduceAdd, Nat.reduceSub, Nat.reduceMul, Nat.reduceLeDiff, Nat.reduceLT, Nat.reduceEqDiff, Int.reduceLT, Int.reduceLE, Int.reduceToNat, Int.reduceAdd, Int.reduceSub, Int.reduceMul, Int.reduceEq, Int.reduceNeg, reduceCtorEq, true_and, and_true, Int.toNat_natCast, List.getElem?_map, Option.map_some, List.length_map, List.length_take, List.length_drop, List.length_append, Nat.sub_zero, Int.toNat_zero, List.length_replicate, Bool.true_or, Bool.or_true, Bool.false_or, Bool.or_false, false_implies, implies_true]; done) | (have := o4 i h; have := hci i h; have : bc i ≠ bc node := (by rcases Nat.lt_or_gt_of_ne hne with h1 | h1 <;> first | exact Nat.ne_of_lt (o5 _ _ h1 hcn) | exact Nat.ne_of_gt (o5 _ _ h1 h)); simp (disch := omega) only [go_sem, hci i h, Nat.reduceAdd, Nat.reduceSub, Nat.reduceMul, Nat.reduceLeDiff, Nat.reduceLT, Nat.reduceEqDiff, Int.reduceLT, Int.reduceLE, Int.reduceToNat, Int.reduceAdd, Int.reduceSub, Int.reduceMul, Int.reduceEq, Int.reduceNeg, reduceCtorEq, true_and, and_true, Int.toNat_natCast, List.getElem?_map, Option.map_some, List.length_map, List.length_take, List.length_drop, List.length_append, Nat.sub_zero, Int.toNat_zero, List.length_replicate, Bool.true_or, Bool.or_true, Bool.false_or, Bool.or_false, false_implies, implies_true]; done) | skip
end Go.Proofs.Ytllijcnbjbfabaa

namespace Go.Proofs.Ytllijcnbjbfabaa
open Go.RowKit
set_option linter.unusedSimpArgs false
set_option linter.unusedVariables false

theorem Do_con (d : Dev) (hd : DevOk d) (node : Int) (a : Ac) (ha : AcOk a) : PCon Try.prog 12 [devV d, .int .i64 node, acV a] (doV (doR d node a)) := by
  refine ⟨?_, by (simp only [List.nil_append, List.cons_append, List.append_nil, List.forall_mem_cons, List.not_mem_nil, false_implies, implies_true, and_true, true_and, plain_agg, plain_tup, plain_int, plain_bool, plain_str, plain_nilp, plain_nilfn, plain_undef, plain_dev, plain_pr, plain_tx, plain_in, plain_cc])⟩
  by_cases hA : refA d node a
  · exact Do_a d hd node a ha hA
  have hm : MayD d := by
    refine (checkB_iff d).1 ?_
    cases hb : checkB d with
    | true => rfl
    | false => exact absurd (.inl hb) hA
  have h1 : ¬ node < 0 := fun h => hA (.inr (.inl h))
  have h2 : ¬ (d.keys.length : Int) ≤ node := fun h => hA (.inr (.inr (.inl h)))
  have h3 : ¬ a.k < 1 := fun h => hA (.inr (.inr (.inr (.inl h))))
  have h4 : ¬ 6 < a.k := fun h => hA (.inr (.inr (.inr (.inr h))))
  obtain ⟨n, rfl⟩ : ∃ n : Nat, node = n := ⟨node.toNat, by omega⟩
  have hn : n < d.keys.length := by omega
  have h5 : a.k = 1 ∨ a.k = 2 ∨ a.k = 3 ∨ a.k = 4 ∨ a.k = 5 ∨ a.k = 6 := by omega
  rcases h5 with h | h | h | h | h | h
  · exact Do_1 d hd hm n hn a ha h
  · exact Do_2 d hd hm n hn a ha h
  · exact Do_3 d hd hm n hn a ha h
  · exact Do_4 d hd hm n hn a ha h
  · exact Do_5 d hd hm n hn a ha h
  · exact Do_6 d hd hm n hn a ha h
end Go.Proofs.Ytllijcnbjbfabaa

namespace Go.Proofs.Ytllijcnbjbfabaa
open Go.RowKit
set_option linter.unusedSimpArgs false
set_option linter.unusedVariables false

set_option maxRecDepth 100000 in
set_option maxHeartbeats 32000000 in
theorem stands_early (g : Geo) (l : List Pr) (fl : Bool) (slot head cut kept : Int) (hl : l.length ≤ maxLen)
    (h : ¬ (g.blocks ≤ 8 ∧ l.length ≤ 70 ∧ mayBk g l = true ∧ 0 ≤ slot ∧ slot < g.slots ∧ 0 ≤ head ∧ head ≤ 1099511627776)) :
    Con Try.prog 3 [geoV g, .sl (l.map prV) fl, .int .i64 slot, .int .i64 head, .int .i64 cut, .int .u64 kept] (· = .bool true) := by
  refine con_of_awp Try.func3 rfl mixed (by decide) rfl (by kernel_rfl) rfl ?_
  have hw := wakes20_con
  have hG := Great16_con l fl hl
  by_cases h1 : g.blocks ≤ 8
  · (repeat' (first | with_reducible refine agr_d (fun hc => ?_) (fun hc => ?_) | with_reducible refine agr_n (fun hc => ?_) (fun hc => ?_) | with_reducible refine acd_d (fun hc => ?_) (fun hc => ?_) | with_reducible refine acd_n (fun hc => ?_) (fun hc => ?_) | with_reducible refine dgr_d (fun hc => ?_) (fun hc => ?_) | with_reducible refine dgr_n (fun hc => ?_) (fun hc => ?_) | with_reducible refine dl_sound _ _ [] [] [] _ _ (fun _ h => absurd h List.not_mem_nil) ?_ | simp (disch := omega) only [go_sem, geoV, Nat.reduceAdd, Nat.reduceSub, Nat.reduceMul, Nat.reduceLeDiff, Nat.reduceLT, Nat.reduceEqDiff, Int.reduceLT, Int.reduceLE, Int.reduceToNat, Int.reduceAdd, Int.reduceSub, Int.reduceMul, Int.reduceEq, Int.reduceNeg, reduceCtorEq, true_and, and_true, Int.toNat_natCast, List.getElem?_map, Option.map_some, List.length_map, List.length_take, List.length_drop, List.length_append, Nat.sub_zero, Int.toNat_zero, List.length_replicate, Bool.true_or, Bool.or_true, Bool.false_or, Bool.or_false, false_implies, implies_true]))
    refine ac1_post hG (by (simp only [List.nil_append, List.cons_append, List.append_nil, List.forall_mem_cons, List.not_mem_nil, false_implies, implies_true, and_true, true_and, plain_agg, plain_tup, plain_int, plain_bool, plain_str, plain_nilp, plain_nilfn, plain_undef, plain_dev, plain_pr, plain_tx, plain_in, plain_cc])) ?_
    rintro _ ⟨q, rfl, hq⟩
    cases q
    case true =>
      (repeat' (first | with_reducible refine agr_d (fun hc => ?_) (fun hc => ?_) | with_reducible refine agr_n (fun hc => ?_) (fun hc => ?_) | with_reducible refine acd_d (fun hc => ?_) (fun hc => ?_) | with_reducible refine acd_n (fun hc => ?_) (fun hc => ?_) | with_reducible refine dgr_d (fun hc => ?_) (fun hc => ?_) | with_reducible refine dgr_n (fun hc => ?_) (fun hc => ?_) | with_reducible refine dl_sound _ _ [] [] [] _ _ (fun _ h => absurd h List.not_mem_nil) ?_ | with_reducible refine conEnd_p (.inl rfl) ?_ | with_reducible refine conEnd_p (.inr rfl) ?_ | with_reducible refine dc1_p hw ?_ | with_reducible refine ac1_p hw ?_ | simp (disch := omega) only [go_sem, geoV, Nat.reduceAdd, Nat.reduceSub, Nat.reduceMul, Nat.reduceLeDiff, Nat.reduceLT, Nat.reduceEqDiff, Int.reduceLT, Int.reduceLE, Int.reduceToNat, Int.reduceAdd, Int.reduceSub, Int.reduceMul, Int.reduceEq, Int.reduceNeg, reduceCtorEq, true_and, and_true, Int.toNat_natCast, List.getElem?_map, Option.map_some, List.length_map, List.length_take, List.length_drop, List.length_append, Nat.sub_zero, Int.toNat_zero, List.length_replicate, Bool.true_or, Bool.or_true, Bool.false_or, Bool.or_false, false_implies, implies_true]))
    have hl70 := hq rfl
    have hM := May18_con g l fl (by omega)
    cases hb : mayBk g l with
    | false =>
      rw [hb] at hM
      (repeat' (first | with_reducible refine agr_d (fun hc => ?_) (fun hc => ?_) | with_reducible refine agr_n (fun hc => ?_) (fun hc => ?_) | with_reducible refine acd_d (fun hc => ?_) (fun hc => ?_) | with_reducible refine acd_n (fun hc => ?_) (fun hc => ?_) | with_reducible refine dgr_d (fun hc => ?_) (fun hc => ?_) | with_reducible refine dgr_n (fun hc => ?_) (fun hc => ?_) | with_reducible refine dl_sound _ _ [] [] [] _ _ (fun _ h => absurd h List.not_mem_nil) ?_ | with_reducible refine conEnd_p (.inl rfl) ?_ | with_reducible refine conEnd_p (.inr rfl) ?_ | with_reducible refine dc1_p hM ?_ | with_reducible refine ac1_p hM ?_ | with_reducible refine dc1_p hw ?_ | with_reducible refine ac1_p hw ?_ | simp (disch := omega) only [go_sem, geoV, Nat.reduceAdd, Nat.reduceSub, Nat.reduceMul, Nat.reduceLeDiff, Nat.reduceLT, Nat.reduceEqDiff, Int.reduceLT, Int.reduceLE, Int.reduceToNat, Int.reduceAdd, Int.reduceSub, Int.reduceMul, Int.reduceEq, Int.reduceNeg, reduceCtorEq, true_and, and_true, Int.toNat_natCast, List.getElem?_map, Option.map_some, List.length_map, List.length_take, List.length_drop, List.length_append, Nat.sub_zero, Int.toNat_zero, List.length_replicate, Bool.true_or, Bool.or_true, Bool.false_or, Bool.or_false, false_implies, implies_true]))
    | true =>
      rw [hb] at hM
      by_cases h3 : 0 ≤ slot
      · by_cases h4 : slot < g.slots
        · by_cases h5 : 0 ≤ head
          · by_cases h6 : head ≤ 1099511627776
            · exact absurd ⟨h1, hl70, hb, h3, h4, h5, h6⟩ h
            · (repeat' (first | with_reducible refine agr_d (fun hc => ?_) (fun hc => ?_) | with_reducible refine agr_n (fun hc => ?_) (fun hc => ?_) | with_reducible refine acd_d (fun hc => ?_) (fun hc => ?_) | with_reducible refine acd_n (fun hc => ?_) (fun hc => ?_) | with_reducible refine dgr_d (fun hc => ?_) (fun hc => ?_) | with_reducible refine dgr_n (fun hc => ?_) (fun hc => ?_) | with_reducible refine dl_sound _ _ [] [] [] _ _ (fun _ h => absurd h List.not_mem_nil) ?_ | with_reducible refine conEnd_p (.inl rfl) ?_ | with_reducible refine conEnd_p (.inr rfl) ?_ | with_reducible refine dc1_p hM ?_ | with_reducible refine ac1_p hM ?_ | with_reducible refine dc1_p hw ?_ | with_reducible refine ac1_p hw ?_ | simp (disch := omega) only [go_sem, geoV, Nat.reduceAdd, Nat.reduceSub, Nat.reduceMul, Nat.reduceLeDiff, Nat.reduceLT, Nat.reduceEqDiff, Int.reduceLT, Int.reduceLE, Int.reduceToNat, Int.reduceAdd, Int.reduceSub, Int.reduceMul, Int.reduceEq, Int.reduceNeg, reduceCtorEq, true_and, and_true, Int.toNat_natCast, List.getElem?_map, Option.map_some, List.length_map, List.length_take, List.length_drop, List.length_append, Nat.sub_zero, Int.toNat_zero, List.length_replicate, Bool.true_or, Bool.or_true, Bool.false_or, Bool.or_false, false_implies, implies_true]))
          · (repeat' (first | with_reducible refine agr_d (fun hc => ?_) (fun hc => ?_) | with_reducible refine agr_n (fun hc => ?_) (fun hc => ?_) | with_reducible refine acd_d (fun hc => ?_) (fun hc => ?_) | with_reducible refine acd_n (fun hc => ?_) (fun hc => ?_) | with_reducible refine dgr_d (fun hc => ?_) (fun hc => ?_) | with_reducible refine dgr_n (fun hc => ?_) (fun hc => ?_) | with_reducible refine dl_sound _ _ [] [] [] _ _ (fun _ h => absurd h List.not_mem_nil) ?_ | with_reducible refine conEnd_p (.inl rfl) ?_ | with_reducible refine conEnd_p (.inr rfl) ?_ | with_reducible refine dc1_p hM ?_ | with_reducible refine ac1_p hM ?_ | with_reducible refine dc1_p hw ?_ | with_reducible refine ac1_p hw ?_ | simp (disch := omega) only [go_sem, geoV, Nat.reduceAdd, Nat.reduceSub, Nat.reduceMul, Nat.reduceLeDiff, Nat.reduceLT, Nat.reduceEqDiff, Int.reduceLT, Int.reduceLE, Int.reduceToNat, Int.reduceAdd, Int.reduceSub, Int.reduceMul, Int.reduceEq, Int.reduceNeg, reduceCtorEq, true_and, and_true, Int.toNat_natCast, List.getElem?_map, Option.map_some, List.length_map, List.length_take, List.length_drop, List.length_append, Nat.sub_zero, Int.toNat_zero, List.length_replicate, Bool.true_or, Bool.or_true, Bool.false_or, Bool.or_false, false_implies, implies_true]))
        · (repeat' (first | with_reducible refine agr_d (fun hc => ?_) (fun hc => ?_) | with_reducible refine agr_n (fun hc => ?_) (fun hc => ?_) | with_reducible refine acd_d (fun hc => ?_) (fun hc => ?_) | with_reducible refine acd_n (fun hc => ?_) (fun hc => ?_) | with_reducible refine dgr_d (fun hc => ?_) (fun hc => ?_) | with_reducible refine dgr_n (fun hc => ?_) (fun hc => ?_) | with_reducible refine dl_sound _ _ [] [] [] _ _ (fun _ h => absurd h List.not_mem_nil) ?_ | with_reducible refine conEnd_p (.inl rfl) ?_ | with_reducible refine conEnd_p (.inr rfl) ?_ | with_reducible refine dc1_p hM ?_ | with_reducible refine ac1_p hM ?_ | with_reducible refine dc1_p hw ?_ | with_reducible refine ac1_p hw ?_ | simp (disch := omega) only [go_sem, geoV, Nat.reduceAdd, Nat.reduceSub, Nat.reduceMul, Nat.reduceLeDiff, Nat.reduceLT, Nat.reduceEqDiff, Int.reduceLT, Int.reduceLE, Int.reduceToNat, Int.reduceAdd, Int.reduceSub, Int.reduceMul, Int.reduceEq, Int.reduceNeg, reduceCtorEq, true_and, and_true, Int.toNat_natCast, List.getElem?_map, Option.map_some, List.length_map, List.length_take, List.length_drop, List.length_append, Nat.sub_zero, Int.toNat_zero, List.length_replicate, Bool.true_or, Bool.or_true, Bool.false_or, Bool.or_false, false_implies, implies_true]))
      · (repeat' (first | with_reducible refine agr_d (fun hc => ?_) (fun hc => ?_) | with_reducible refine agr_n (fun hc => ?_) (fun hc => ?_) | with_reducible refine acd_d (fun hc => ?_) (fun hc => ?_) | with_reducible refine acd_n (fun hc => ?_) (fun hc => ?_) | with_reducible refine dgr_d (fun hc => ?_) (fun hc => ?_) | with_reducible refine dgr_n (fun hc => ?_) (fun hc => ?_) | with_reducible refine dl_sound _ _ [] [] [] _ _ (fun _ h => absurd h List.not_mem_nil) ?_ | with_reducible refine conEnd_p (.inl rfl) ?_ | with_reducible refine conEnd_p (.inr rfl) ?_ | with_reducible refine dc1_p hM ?_ | with_reducible refine ac1_p hM ?_ | with_reducible refine dc1_p hw ?_ | with_reducible refine ac1_p hw ?_ | simp (disch := omega) only [go_sem, geoV, Nat.reduceAdd, Nat.reduceSub, Nat.reduceMul, Nat.reduceLeDiff, Nat.reduceLT, Nat.reduceEqDiff, Int.reduceLT, Int.reduceLE, Int.reduceToNat, Int.reduceAdd, Int.reduceSub, Int.reduceMul, Int.reduceEq, Int.reduceNeg, reduceCtorEq, true_and, and_true, Int.toNat_natCast, List.getElem?_map, Option.map_some, List.length_map, List.length_take, List.length_drop, List.length_append, Nat.sub_zero, Int.toNat_zero, List.length_replicate, Bool.true_or, Bool.or_true, Bool.false_or, Bool.or_false, false_implies, implies_true]))
  · (repeat' (first | with_reducible refine agr_d (fun hc => ?_) (fun hc => ?_) | with_reducible refine agr_n (fun hc => ?_) (fun hc => ?_) | with_reducible refine acd_d (fun hc => ?_) (fun hc => ?_) | with_reducible refine acd_n (fun hc => ?_) (fun hc => ?_) | with_reducible refine dgr_d (fun hc => ?_) (fun hc => ?_) | with_reducible refine dgr_n (fun hc => ?_) (fun hc => ?_) | with_reducible refine dl_sound _ _ [] [] [] _ _ (fun _ h => absurd h List.not_mem_nil) ?_ | with_reducible refine conEnd_p (.inl rfl) ?_ | with_reducible refine conEnd_p (.inr rfl) ?_ | with_reducible refine dc1_p hw ?_ | with_reducible refine ac1_p hw ?_ | simp (disch := omega) only [go_sem, geoV, Nat.reduceAdd, Nat.reduceSub, Nat.reduceMul, Nat.reduceLeDiff, Nat.reduceLT, Nat.reduceEqDiff, Int.reduceLT, Int.reduceLE, Int.reduceToNat, Int.reduceAdd, Int.reduceSub, Int.reduceMul, Int.reduceEq, Int.reduceNeg, reduceCtorEq, true_and, and_true, Int.toNat_natCast, List.getElem?_map, Option.map_some, List.length_map, List.length_take, List.length_drop, List.length_append, Nat.sub_zero, Int.toNat_zero, List.length_replicate, Bool.true_or, Bool.or_true, Bool.false_or, Bool.or_false, false_implies, implies_true]))

theorem actOk {s : List ByteArray} {cs : List Pr} {hs : Nat} {hd : ByteArray} {nd : Nat} (H : StandOk s cs hs hd nd) (m : Nat) : AcOk (stAct cs (stAt cs.length m) hs hd) := by
  have hs0 := H.s0
  have hs1 := H.s1
  have hhd := H.hd
  have hno : AcOk noAc := ⟨by unfold noAc; dsimp only; omega, by unfold noAc; dsimp only; omega, by show (0 : Nat) ≤ _; omega, by unfold noAc; dsimp only; omega⟩
  generalize stAt cs.length m = p
  unfold stAct
  split
  · split
    · rename_i h0 h1
      have hi : p.1.toNat < cs.length := by omega
      have hcn := H.cn _ (List.getElem_mem hi)
      rw [show cs.getD p.1.toNat ⟨0, ⟨#[]⟩⟩ = cs[p.1.toNat] by rw [List.getD_eq_getElem?_getD, List.getElem?_eq_getElem hi]; rfl]
      exact ⟨by dsimp only; omega, by dsimp only; omega, by dsimp only; omega, by dsimp only; omega⟩
    · exact hno
  · split
    · exact ⟨by dsimp only; omega, by dsimp only; omega, by show (0 : Nat) ≤ _; omega, by dsimp only; omega⟩
    · split
      · exact ⟨by dsimp only; omega, by dsimp only; omega, by dsimp only; omega, by dsimp only; omega⟩
      · exact hno

theorem Stands_con (g : Geo) (l : List Pr) (fl : Bool) (slot head cut kept : Int) (hl : l.length ≤ maxLen) (hw1 : -9223372036854775808 ≤ g.wait) (hw2 : g.wait ≤ 9223372036854775807) :
    Con Try.prog 3 [geoV g, .sl (l.map prV) fl, .int .i64 slot, .int .i64 head, .int .i64 cut, .int .u64 kept] (· = .bool true) := by
  by_cases hall : g.blocks ≤ 8 ∧ l.length ≤ 70 ∧ mayBk g l = true ∧ 0 ≤ slot ∧ slot < g.slots ∧ 0 ≤ head ∧ head ≤ 1099511627776
  case neg => exact stands_early g l fl slot head cut kept hl hall
  obtain ⟨h8, h70, hmb, hs1, hs2, hh1, hh2⟩ := hall
  obtain ⟨hb, hbl⟩ := mayBk_all hmb
  have hok := Geo.may_ok hb
  obtain ⟨top, hd0, ht, hh0, hF⟩ := Format5_con g hb
  obtain ⟨xh, hxh, hxl⟩ := head_make hh1 hh2
  have hhs := headS_in hok hs1 hs2
  obtain ⟨hs, hhs0⟩ : ∃ hs : Nat, g.headS slot = hs := ⟨(g.headS slot).toNat, by omega⟩
  obtain ⟨nd, hnd⟩ : ∃ nd : Nat, g.nodes = nd := ⟨g.nodes.toNat, by have := hok.n1; omega⟩
  have htb := total_bd hok
  have hsl := heads_len g top hd0 g.slots.toNat
  have hssz := heads_size (g := g) ht hh0 g.slots.toNat
  have hcin := cells_in hmb
  have hinc := cells_inc hmb
  have hcl : (cellsL g l).length ≤ 800 := by
    have h1 := hok.p1
    have h2 := hok.p2
    rw [cellsL_length]
    have : l.length * g.per.toNat ≤ 70 * 8 := Nat.mul_le_mul (by omega) (by omega)
    omega
  have hcr : cellsR g l = (cellsL g l, 0) := if_pos hmb
  have har : actsR g slot head l = (actsL (cellsL g l) hs (mkS xh), 0) := by
    unfold actsR
    rw [hcr, show headR head = (xh, 0) from hxh, hhs0, if_pos ⟨rfl, rfl, by omega⟩]
  have hA := Acts_con g slot head l fl hw1 hw2 (by omega)
  rw [har] at hA
  have hCe := Cells18_con g l fl (by omega) hmb
  have hM := May18_con g l fl (by omega)
  rw [hmb] at hM
  have hHd := Head4_con g slot
  rw [headG_eq, hhs0] at hHd
  have hH5 : PCon Try.prog 17 [.int .i64 head] (.tup [.str (mkS xh), .int .i64 0]) := by
    have := Head5_con head
    rw [hxh] at this
    exact this
  generalize hS : heads g top hd0 g.slots.toNat = s at *
  generalize hCS : cellsL g l = cs at *
  have hx512 : (mkS xh).size ≤ 512 := by rw [mkS_size]; exact hxl
  generalize mkS xh = hdr at *
  have H : StandOk s cs hs hdr nd := by
    refine ⟨by omega, by omega, hssz, hx512, fun c hc => ?_, fun i j hi hj hij => List.pairwise_iff_getElem.1 hinc i j hi hj hij, by have := hok.n1; omega, by have := hok.n2; omega, by omega⟩
    have := hcin c hc
    exact ⟨by omega, by omega, by omega, by omega⟩
  have hlen := actsL_length cs hs hdr
  have hml := many_le cs.length
  have hN : PCon Try.prog 11 [.int .i64 g.nodes, .sl (s.map txV) false] (.tup [devV (newD nd s), .int .i64 0]) := by
    have := New_con g.nodes s false (by have := H.s1; omega) (fun i h => Nat.le_trans (H.si _ (List.getElem_mem h)) (by omega))
    rw [hnd, newR_stand H] at this
    rw [hnd]
    exact this
  have hR : PCon Try.prog 12 [devV (newD nd s), .int .i64 0, .agg [.int .i8 6, .int .i64 0, .str ⟨#[]⟩, .int .i64 0]] (.tup [devV (devAt s cs hs hdr nd 0), .str (key6 16), .int .i64 0]) := by
    have := Do_con (newD nd s) (newD_ok H.n1 (by have := H.s1; omega) (fun i h => Nat.le_trans (H.si _ (List.getElem_mem h)) (by omega))) 0 ⟨6, 0, ⟨#[]⟩, 0⟩ ⟨by dsimp only; omega, by dsimp only; omega, by show (0 : Nat) ≤ _; omega, by dsimp only; omega⟩
    rw [reg_stand H] at this
    exact this
  refine stands_main g l fl slot head cut kept s (devAt s cs hs hdr nd) (newD nd s) (actsL cs hs hdr) cs (key6 16) hdr hs (wantS s cs hs hdr) h8 hl ⟨hs1, hs2⟩ ⟨hh1, hh2⟩ wakes20_con (Great16_con l fl hl) hM hF hN hR hA ?_ ?_ hCe hHd hH5 ?_ ?_ ?_ ?_ ?_ ?_ ?_ ?_ ?_
  · intro j hj
    have hj' : j < many cs.length := by rw [← hlen]; exact hj
    have := Do_con (devAt s cs hs hdr nd j) (devAt_ok H j) 0 (actsL cs hs hdr)[j] (by rw [actsL_get]; exact actOk H j)
    rw [show doR (devAt s cs hs hdr nd j) 0 (actsL cs hs hdr)[j] = (devAt s cs hs hdr nd (j + 1), ⟨#[]⟩, 0) by rw [actsL_get]; exact devAt_step H j hj'] at this
    exact this
  · intro k hk
    rw [hlen] at hk ⊢
    obtain ⟨d, h1, h2, h3⟩ := half_get H k hk kept
    have := Crash_con (devAt s cs hs hdr nd k) (devAt_ok H k) 0 kept
    rw [h1] at this
    exact ⟨d, this, h2, h3⟩
  · intro j hj
    rw [hlen]
    exact done_get H j hj
  · intro j h1 h2
    rw [hlen] at h2
    unfold wantS
    rw [if_pos ⟨h1, h2⟩]
  · intro j h1
    rw [hlen] at h1
    unfold wantS
    rw [if_neg h1]
  · exact sAt_len _
  · rw [hlen]
    have : (cs.take (many cs.length)).drop (many cs.length - cs.length) = [] := List.drop_eq_nil_of_le (by simp; unfold many; split <;> omega)
    show ((_ :: _ : List (List Pr)))[0]? = _
    rw [this]
    rfl
  · simp
  · omega
  · have := H.s1; omega
  · omega
end Go.Proofs.Ytllijcnbjbfabaa

namespace Go.Proofs.Ytllijcnbjbfabaa
open Go.RowKit
set_option linter.unusedSimpArgs false
set_option linter.unusedVariables false

def allS (w : World) : Stab := fun g _ => g < w.heap.size
theorem reads_vr {w : World} {sz c : Nat} {A : Option Addr} {xs : List Value} {es : List (List V)} (h : Reads w w.heap.size sz A es.length xs) (hrow : ∀ r ∈ es, r.length = sz) (h0 : 0 < sz)
    (hx : ∀ i (hi : i < es.length) j (hj : j < es[i].length), ∃ u, xs[i * sz + j]? = some u ∧ u.oneCell' = true ∧ VR noMu (allS w) w es[i][j] u) (hc : es.length ≤ c) : VR noMu (allS w) w (.sl es false) (.slice A es.length c) := by
  rcases Nat.eq_zero_or_pos es.length with hn | hn
  · have : es = [] := List.length_eq_zero_iff.1 hn
    subst this
    exact .sl0 false _ _ (by simp)
  · obtain ⟨ad, rfl, hb, hcell⟩ := h.2 hn
    have hsp : ad = ⟨ad.block, ad.off, none⟩ := by
      obtain ⟨u, h1, _⟩ := hx 0 hn 0 (by rw [hrow _ (List.getElem_mem hn)]; exact h0)
      have h2 := hcell _ _ h1
      simp only [Nat.zero_mul, Nat.add_zero] at h2
      have h3 : ad.add 0 = ad := rfl
      rw [h3] at h2
      unfold World.cell? at h2
      cases hs : ad.spot with
      | none => rw [← hs]
      | some z =>
        rw [hs] at h2
        split at h2
        · simp at h2
        · cases h2
    rw [hsp]
    refine .sl1 es false ad.block ad.off c sz (fun i j => (xs[i * sz + j]?).getD Go.undef) hn hc (by simp) (fun i hi => hrow _ (List.getElem_mem hi)) (fun i j _ _ => hb) (fun i j hi hj => ?_) (fun i j hi hj => ?_) (fun i hi j hj => ?_)
    · obtain ⟨u, h1, h2, h3⟩ := hx i hi j (by rw [hrow _ (List.getElem_mem hi)]; exact hj)
      have := hcell _ _ h1
      rw [hsp, add_none] at this
      rw [h1, Nat.add_assoc]
      exact this
    · obtain ⟨u, h1, h2, h3⟩ := hx i hi j (by rw [hrow _ (List.getElem_mem hi)]; exact hj)
      rw [h1]; exact h2
    · obtain ⟨u, h1, h2, h3⟩ := hx i hi j hj
      rw [h1]; exact h3
theorem prs_vr {w : World} {c : Nat} {A : Option Addr} {l : List Pr} (h : Reads w w.heap.size 2 A l.length (prCells l)) (hc : l.length ≤ c) : VR noMu (allS w) w (.sl (l.map prV) false) (.slice A l.length c) := by
  have := reads_vr (es := l.map prV) (sz := 2) (c := c) (A := A) (xs := prCells l) (w := w) (by rw [List.length_map]; exact h) (fun r hr => by obtain ⟨p, _, rfl⟩ := List.mem_map.1 hr; rfl) (by omega) (fun i hi j hj => ?_) (by rw [List.length_map]; exact hc)
  · rw [List.length_map] at this
    exact this
  · rw [List.length_map] at hi
    obtain ⟨g0, g1⟩ := prCells_get l i hi
    simp only [List.getElem_map, prV, List.length_cons, List.length_nil] at hj ⊢
    match j, hj with
    | 0, _ => exact ⟨_, g0, rfl, .int _ _⟩
    | 1, _ => exact ⟨_, g1, rfl, .str _⟩
theorem geo_vr {w : World} (g : Geo) : VR noMu (allS w) w (.agg [.int .i64 g.nodes, .int .i64 g.slots, .int .i64 g.blocks, .int .i64 g.per, .int .i64 g.journal, .int .i64 g.log, .int .i64 g.lease, .int .i64 g.wait]) g.v := by
  refine .agg _ [.int .i64 g.nodes, .int .i64 g.slots, .int .i64 g.blocks, .int .i64 g.per, .int .i64 g.journal, .int .i64 g.log, .int .i64 g.lease, .int .i64 g.wait] rfl (by simp [Value.oneCell']) fun j hj hj' => ?_
  match j, hj with
  | 0, _ => exact .int _ _
  | 1, _ => exact .int _ _
  | 2, _ => exact .int _ _
  | 3, _ => exact .int _ _
  | 4, _ => exact .int _ _
  | 5, _ => exact .int _ _
  | 6, _ => exact .int _ _
  | 7, _ => exact .int _ _
/-- a contract that says true, as a walk -/
theorem walk_of_con {g : FuncId} {args : List V} {vs : List Value} {w : World} (h : Con Try.prog g args (· = .bool true)) (hv : VRs noMu (allS w) w args vs) :
    Calls Try.prog g vs.toArray w fun e w' => e = .returned (.bool true) ∧ Below w.heap.size w w' := by
  refine (h.2 w (allS w) vs (fun _ _ h => h) hv).mono ?_
  rintro e w' ⟨v, r, S', rfl, rfl, _, hr, _, _, _, hB⟩
  rw [VR.bool_inv hr]
  exact ⟨rfl, hB⟩
end Go.Proofs.Ytllijcnbjbfabaa

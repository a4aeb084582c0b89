/- device: a device that may be; Check; node; by the calculus. -/
import Derived.Test.YtllijcnbjbfabaaDevM27
namespace Go.Proofs.Ytllijcnbjbfabaa
open Go.RowKit
set_option linter.unusedSimpArgs false
set_option linter.unusedVariables false

theorem shortB_iff (l : List ByteArray) : shortB l = true ↔ ∀ t (h : t < l.length), l[t].size ≤ 512 := by
  unfold shortB
  rw [List.all_eq_true]
  constructor
  · intro h t ht
    have := h _ (List.getElem_mem ht)
    simp at this
    omega
  · intro h x hx
    obtain ⟨t, ht, rfl⟩ := List.getElem_of_mem hx
    have := h t ht
    simp
    omega
/-- the last key that one has looked at -/
def lastK (d : Dev) (j : Nat) : Int := match j with | 0 => 0 | j + 1 => d.fen.getD j 0
set_option maxRecDepth 100000 in
set_option maxHeartbeats 16000000 in
theorem wmay_con (d : Dev) (hd : DevOk d) : Con Try.prog 54 [devT d] (· = .bool (checkB d)) := by
  refine con_of_awp Try.func54 rfl mixed (by decide) rfl (by kernel_rfl) rfl ?_
  obtain ⟨q1, q2, q3, q4, q5, q6, q7, q8, q9⟩ := hd
  have hsh : PCon Try.prog 81 [.sl (d.s.map txV) false] (.bool (shortB d.s)) := ⟨short_con d.s false (by omega), by (simp only [List.nil_append, List.cons_append, List.append_nil, List.forall_mem_cons, List.not_mem_nil, false_implies, implies_true, and_true, true_and, plain_agg, plain_tp, plain_fn, plain_tup, plain_int, plain_bool, plain_str, plain_nilp, plain_nilfn, plain_undef, plain_dev, plain_pr, plain_tx, plain_in, plain_cc])⟩
  cases hsb : shortB d.s with
  | false =>
    rw [hsb] at hsh
    have hno : checkB d = false := checkB_no fun h => by rw [(shortB_iff d.s).2 h.s] at hsb; cases hsb
    (repeat' (first | with_reducible (first | refine agr_d (fun hc => ?_) fun hc => ?_ | refine agr_n (fun hc => ?_) fun hc => ?_ | refine acd_d (fun hc => ?_) fun hc => ?_ | refine acd_n (fun hc => ?_) fun hc => ?_ | refine dgr_d (fun hc => ?_) fun hc => ?_ | refine dgr_n (fun hc => ?_) fun hc => ?_ | refine dl_sound _ _ [] [] [] _ _ (fun _ h => absurd h List.not_mem_nil) ?_ | refine conEnd_p (.inl rfl) ?_ | refine conEnd_p (.inr rfl) ?_ | refine dc1_p hsh ?_ | refine ac1_p hsh ?_) | simp (disch := omega) only [go_sem, devT, List.append_eq, Nat.reduceAdd, Nat.reduceSub, Nat.reduceMul, Nat.reduceLeDiff, Nat.reduceLT, Nat.reduceEqDiff, Int.reduceLT, Int.reduceLE, Int.reduceToNat, Int.reduceAdd, Int.reduceSub, Int.reduceMul, Int.reduceEq, Int.reduceNeg, reduceCtorEq, true_and, and_true, Int.toNat_natCast, List.getElem?_map, Option.map_some, List.length_map, List.length_take, List.length_drop, List.length_append, Nat.sub_zero, Int.toNat_zero, List.length_replicate, Bool.true_or, Bool.or_true, Bool.false_or, Bool.or_false, false_implies, implies_true]))
    all_goals (rw [hno])
  | true =>
  rw [hsb] at hsh
  (repeat' (first | with_reducible (first | refine agr_d (fun hc => ?_) fun hc => ?_ | refine agr_n (fun hc => ?_) fun hc => ?_ | refine acd_d (fun hc => ?_) fun hc => ?_ | refine acd_n (fun hc => ?_) fun hc => ?_ | refine dgr_d (fun hc => ?_) fun hc => ?_ | refine dgr_n (fun hc => ?_) fun hc => ?_ | refine dl_sound _ _ [] [] [] _ _ (fun _ h => absurd h List.not_mem_nil) ?_ | refine conEnd_p (.inl rfl) ?_ | refine conEnd_p (.inr rfl) ?_ | refine dc1_p hsh ?_ | refine ac1_p hsh ?_) | simp (disch := omega) only [go_sem, devT, List.append_eq, Nat.reduceAdd, Nat.reduceSub, Nat.reduceMul, Nat.reduceLeDiff, Nat.reduceLT, Nat.reduceEqDiff, Int.reduceLT, Int.reduceLE, Int.reduceToNat, Int.reduceAdd, Int.reduceSub, Int.reduceMul, Int.reduceEq, Int.reduceNeg, reduceCtorEq, true_and, and_true, Int.toNat_natCast, List.getElem?_map, Option.map_some, List.length_map, List.length_take, List.length_drop, List.length_append, Nat.sub_zero, Int.toNat_zero, List.length_replicate, Bool.true_or, Bool.or_true, Bool.false_or, Bool.or_false, false_implies, implies_true]))
  all_goals (first | (rw [checkB_no (fun h => by have := h.s0; have := h.k0; have := h.k1; have := h.c; have := h.n0; have := h.n1; omega)]; done) | skip)
  have hs := (shortB_iff d.s).1 hsb
  refine awp_for d.keys.length (fun j fr st => ev fr (.tmp 0) = devT d ∧ ev fr (.tmp 77) = .sl (d.keys.map inV) false ∧ ev fr (.tmp 78) = .int .i64 d.keys.length ∧ ev fr (.tmp 79) = .int .i64 j ∧ ∀ t (h : t < d.keys.length), t < j → cachedB d.s.length [] (d.cache.getD t []) = true ∧ (d.keys[t] = 0 ∨ (givenB d d.keys[t] = true ∧ d.keys[t] % 16 = (t : Int)))) ?_ ?_
  · refine ⟨?_, ?_, ?_, ?_, fun t _ h => absurd h (by omega)⟩ <;> simp (disch := omega) only [go_sem, Nat.reduceAdd, Nat.reduceSub, Nat.reduceMul, Nat.reduceLeDiff, Nat.reduceLT, Nat.reduceEqDiff, Int.reduceLT, Int.reduceLE, Int.reduceToNat, Int.reduceAdd, Int.reduceSub, Int.reduceMul, Int.reduceEq, Int.reduceNeg, reduceCtorEq, true_and, and_true, Int.toNat_natCast, List.getElem?_map, Option.map_some, List.length_map, List.length_take, List.length_drop, List.length_append, Nat.sub_zero, Int.toNat_zero, List.length_replicate, Bool.true_or, Bool.or_true, Bool.false_or, Bool.or_false, false_implies, implies_true] <;> rfl
  · rintro j' fr st hj' ⟨h0, h77, h78, h79, hk⟩
    by_cases hlt' : j' < d.keys.length
    · have hg : d.keys[j']? = some d.keys[j'] := List.getElem?_eq_getElem hlt'
      have hlc : j' < d.cache.length := by omega
      have hg2 : d.cache[j']? = some d.cache[j'] := List.getElem?_eq_getElem hlc
      have hgd : d.cache.getD j' [] = d.cache[j'] := by rw [List.getD_eq_getElem?_getD, hg2]; rfl
      have hkr := q5 j' hlt'
      have hcc : PCon Try.prog 82 [devT d, .sl (d.cache[j'].map prV) false] (.bool (cachedB d.s.length [] d.cache[j'])) := ⟨wcache_con d _ false (by have := q3 j' hlc; omega) (by omega), by (simp only [List.nil_append, List.cons_append, List.append_nil, List.forall_mem_cons, List.not_mem_nil, false_implies, implies_true, and_true, true_and, plain_agg, plain_tp, plain_fn, plain_tup, plain_int, plain_bool, plain_str, plain_nilp, plain_nilfn, plain_undef, plain_dev, plain_pr, plain_tx, plain_in, plain_cc])⟩
      have hgc : PCon Try.prog 83 [devT d, .int .i64 d.keys[j']] (.bool (givenB d d.keys[j'])) := ⟨wgiven_con d _ (by omega), by (simp only [List.nil_append, List.cons_append, List.append_nil, List.forall_mem_cons, List.not_mem_nil, false_implies, implies_true, and_true, true_and, plain_agg, plain_tp, plain_fn, plain_tup, plain_int, plain_bool, plain_str, plain_nilp, plain_nilfn, plain_undef, plain_dev, plain_pr, plain_tx, plain_in, plain_cc])⟩
      have hnext : (d.keys[j'] = 0 ∨ (givenB d d.keys[j'] = true ∧ d.keys[j'] % 16 = (j' : Int))) → cachedB d.s.length [] d.cache[j'] = true → ∀ t (h : t < d.keys.length), t < j' + 1 → cachedB d.s.length [] (d.cache.getD t []) = true ∧ (d.keys[t] = 0 ∨ (givenB d d.keys[t] = true ∧ d.keys[t] % 16 = (t : Int))) := fun g1 g2 t ht htj => by
        rcases Nat.lt_or_ge t j' with h5 | h5
        · exact hk t ht h5
        · obtain rfl : t = j' := by omega
          exact ⟨by rw [hgd]; exact g2, g1⟩
      have hg16 : givenB d d.keys[j'] = true → 16 ≤ d.keys[j'] := fun h => (of_decide_eq_true h).1
      have hno : cachedB d.s.length [] d.cache[j'] = false ∨ ¬ (d.keys[j'] = 0 ∨ (givenB d d.keys[j'] = true ∧ d.keys[j'] % 16 = (j' : Int))) → checkB d = false := fun h => checkB_no fun hm => by
        rcases h with h | h
        · have := hm.ca j' hlt'
          rw [hgd, h] at this
          cases this
        · exact h (hm.ke j' hlt')
      cases hcb : cachedB d.s.length [] d.cache[j'] with
      | false =>
        rw [hcb] at hcc
        (repeat' (first | with_reducible (first | refine agr_d (fun hc => ?_) fun hc => ?_ | refine agr_n (fun hc => ?_) fun hc => ?_ | refine acd_d (fun hc => ?_) fun hc => ?_ | refine acd_n (fun hc => ?_) fun hc => ?_ | refine dgr_d (fun hc => ?_) fun hc => ?_ | refine dgr_n (fun hc => ?_) fun hc => ?_ | refine dl_sound _ _ [] [] [] _ _ (fun _ h => absurd h List.not_mem_nil) ?_ | refine conEnd_p (.inl rfl) ?_ | refine conEnd_p (.inr rfl) ?_ | refine dc1_p hcc ?_ | refine ac1_p hcc ?_) | simp (disch := omega) only [go_sem, h0, h77, h78, h79, hg, hg2, devT, Nat.reduceAdd, Nat.reduceSub, Nat.reduceMul, Nat.reduceLeDiff, Nat.reduceLT, Nat.reduceEqDiff, Int.reduceLT, Int.reduceLE, Int.reduceToNat, Int.reduceAdd, Int.reduceSub, Int.reduceMul, Int.reduceEq, Int.reduceNeg, reduceCtorEq, true_and, and_true, Int.toNat_natCast, List.getElem?_map, Option.map_some, List.length_map, List.length_take, List.length_drop, List.length_append, Nat.sub_zero, Int.toNat_zero, List.length_replicate, Bool.true_or, Bool.or_true, Bool.false_or, Bool.or_false, false_implies, implies_true]))
        rw [hno (.inl hcb)]
      | true =>
        rw [hcb] at hcc
        cases hgb : givenB d d.keys[j'] with
        | false =>
          rw [hgb] at hgc
          (repeat' (first | with_reducible (first | refine agr_d (fun hc => ?_) fun hc => ?_ | refine agr_n (fun hc => ?_) fun hc => ?_ | refine acd_d (fun hc => ?_) fun hc => ?_ | refine acd_n (fun hc => ?_) fun hc => ?_ | refine dgr_d (fun hc => ?_) fun hc => ?_ | refine dgr_n (fun hc => ?_) fun hc => ?_ | refine dl_sound _ _ [] [] [] _ _ (fun _ h => absurd h List.not_mem_nil) ?_ | refine conEnd_p (.inl rfl) ?_ | refine conEnd_p (.inr rfl) ?_ | refine dc1_p hcc ?_ | refine ac1_p hcc ?_ | refine dc1_p hgc ?_ | refine ac1_p hgc ?_) | simp (disch := omega) only [go_sem, h0, h77, h78, h79, hg, hg2, devT, Nat.reduceAdd, Nat.reduceSub, Nat.reduceMul, Nat.reduceLeDiff, Nat.reduceLT, Nat.reduceEqDiff, Int.reduceLT, Int.reduceLE, Int.reduceToNat, Int.reduceAdd, Int.reduceSub, Int.reduceMul, Int.reduceEq, Int.reduceNeg, reduceCtorEq, true_and, and_true, Int.toNat_natCast, List.getElem?_map, Option.map_some, List.length_map, List.length_take, List.length_drop, List.length_append, Nat.sub_zero, Int.toNat_zero, List.length_replicate, Bool.true_or, Bool.or_true, Bool.false_or, Bool.or_false, false_implies, implies_true]))
          all_goals first
            | (rw [hno (.inr (by rw [hgb]; simp; omega))]; done)
            | (refine ⟨j' + 1, by omega, by omega, rfl, hnext (.inl (by omega)) hcb⟩)
        | true =>
          rw [hgb] at hgc
          have h16 := hg16 hgb
          (repeat' (first | with_reducible (first | refine agr_d (fun hc => ?_) fun hc => ?_ | refine agr_n (fun hc => ?_) fun hc => ?_ | refine acd_d (fun hc => ?_) fun hc => ?_ | refine acd_n (fun hc => ?_) fun hc => ?_ | refine dgr_d (fun hc => ?_) fun hc => ?_ | refine dgr_n (fun hc => ?_) fun hc => ?_ | refine dl_sound _ _ [] [] [] _ _ (fun _ h => absurd h List.not_mem_nil) ?_ | refine conEnd_p (.inl rfl) ?_ | refine conEnd_p (.inr rfl) ?_ | refine dc1_p hcc ?_ | refine ac1_p hcc ?_ | refine dc1_p hgc ?_ | refine ac1_p hgc ?_) | simp (disch := omega) only [go_sem, h0, h77, h78, h79, hg, hg2, devT, Nat.reduceAdd, Nat.reduceSub, Nat.reduceMul, Nat.reduceLeDiff, Nat.reduceLT, Nat.reduceEqDiff, Int.reduceLT, Int.reduceLE, Int.reduceToNat, Int.reduceAdd, Int.reduceSub, Int.reduceMul, Int.reduceEq, Int.reduceNeg, reduceCtorEq, true_and, and_true, Int.toNat_natCast, List.getElem?_map, Option.map_some, List.length_map, List.length_take, List.length_drop, List.length_append, Nat.sub_zero, Int.toNat_zero, List.length_replicate, Bool.true_or, Bool.or_true, Bool.false_or, Bool.or_false, false_implies, implies_true]))
          all_goals first
            | (rw [hno (.inr (by rw [hgb]; simp; omega))]; done)
            | (refine ⟨j' + 1, by omega, by omega, rfl, hnext (.inr ⟨hgb, by omega⟩) hcb⟩)
    · (repeat' (first | with_reducible (first | refine agr_d (fun hc => ?_) fun hc => ?_ | refine agr_n (fun hc => ?_) fun hc => ?_ | refine acd_d (fun hc => ?_) fun hc => ?_ | refine acd_n (fun hc => ?_) fun hc => ?_ | refine dgr_d (fun hc => ?_) fun hc => ?_ | refine dgr_n (fun hc => ?_) fun hc => ?_ | refine dl_sound _ _ [] [] [] _ _ (fun _ h => absurd h List.not_mem_nil) ?_ | refine conEnd_p (.inl rfl) ?_ | refine conEnd_p (.inr rfl) ?_) | simp (disch := omega) only [go_sem, h0, h77, h78, h79, devT, Nat.reduceAdd, Nat.reduceSub, Nat.reduceMul, Nat.reduceLeDiff, Nat.reduceLT, Nat.reduceEqDiff, Int.reduceLT, Int.reduceLE, Int.reduceToNat, Int.reduceAdd, Int.reduceSub, Int.reduceMul, Int.reduceEq, Int.reduceNeg, reduceCtorEq, true_and, and_true, Int.toNat_natCast, List.getElem?_map, Option.map_some, List.length_map, List.length_take, List.length_drop, List.length_append, Nat.sub_zero, Int.toNat_zero, List.length_replicate, Bool.true_or, Bool.or_true, Bool.false_or, Bool.or_false, false_implies, implies_true]))
      refine awp_for d.fen.length (fun j fr st => ev fr (.tmp 0) = devT d ∧ ev fr (.tmp 116) = .sl (d.fen.map inV) false ∧ ev fr (.tmp 117) = .int .i64 d.fen.length ∧ ev fr (.tmp 118) = .int .i64 j ∧ ev fr (.tmp 5) = .int .i64 (lastK d j) ∧ fenP d j) ?_ ?_
      · refine ⟨?_, ?_, ?_, ?_, ?_, fun t _ h => absurd h (by omega)⟩ <;> (try simp (disch := omega) only [go_sem, h0, Nat.reduceAdd, Nat.reduceSub, Nat.reduceMul, Nat.reduceLeDiff, Nat.reduceLT, Nat.reduceEqDiff, Int.reduceLT, Int.reduceLE, Int.reduceToNat, Int.reduceAdd, Int.reduceSub, Int.reduceMul, Int.reduceEq, Int.reduceNeg, reduceCtorEq, true_and, and_true, Int.toNat_natCast, List.getElem?_map, Option.map_some, List.length_map, List.length_take, List.length_drop, List.length_append, Nat.sub_zero, Int.toNat_zero, List.length_replicate, Bool.true_or, Bool.or_true, Bool.false_or, Bool.or_false, false_implies, implies_true]) <;> first | rfl | assumption
      clear h0 h77 h78 h79
      rintro i fr st hi ⟨h0, h116, h117, h118, h5, hf⟩
      by_cases hlt'' : i < d.fen.length
      · have hg : d.fen[i]? = some d.fen[i] := List.getElem?_eq_getElem hlt''
        have hkr := q8 i hlt''
        have hgc : PCon Try.prog 83 [devT d, .int .i64 d.fen[i]] (.bool (givenB d d.fen[i])) := ⟨wgiven_con d _ (by omega), by (simp only [List.nil_append, List.cons_append, List.append_nil, List.forall_mem_cons, List.not_mem_nil, false_implies, implies_true, and_true, true_and, plain_agg, plain_tp, plain_fn, plain_tup, plain_int, plain_bool, plain_str, plain_nilp, plain_nilfn, plain_undef, plain_dev, plain_pr, plain_tx, plain_in, plain_cc])⟩
        have hlast : givenB d d.fen[i] = true → (¬ d.fen[i] ≤ lastK d i ↔ ∀ s (hs : s < d.fen.length), s + 1 = i → d.fen[s] < d.fen[i]) := fun hgi => by
          have h16 : 16 ≤ d.fen[i] := (of_decide_eq_true hgi).1
          cases i with
          | zero => simp only [lastK]; exact ⟨fun _ s _ h => by omega, fun _ => by omega⟩
          | succ i =>
            have hi' : i < d.fen.length := by omega
            have e : lastK d (i + 1) = d.fen[i] := by simp only [lastK]; rw [List.getD_eq_getElem?_getD, List.getElem?_eq_getElem hi']; rfl
            rw [e]
            exact ⟨fun h s hs hst => by obtain rfl : s = i := by omega
                                        omega, fun h => by have := h i hi' rfl; omega⟩
        have hno : ¬ (givenB d d.fen[i] = true ∧ ¬ d.fen[i] ≤ lastK d i) → checkB d = false := fun h => checkB_no fun hm => by
          obtain ⟨g1, g2⟩ := hm.f i hlt'' hlt''
          exact h ⟨g1, (hlast g1).2 g2⟩
        have hlastE : lastK d (i + 1) = d.fen[i] := by simp only [lastK]; rw [List.getD_eq_getElem?_getD, hg]; rfl
        have hyes : givenB d d.fen[i] = true → ¬ d.fen[i] ≤ lastK d i → fenP d (i + 1) := fun g1 g2 t ht htj => by
          rcases Nat.lt_or_ge t i with h6 | h6
          · exact hf t ht h6
          · obtain rfl : t = i := by omega
            exact ⟨g1, (hlast g1).1 g2⟩
        cases hgb : givenB d d.fen[i] with
        | false =>
          rw [hgb] at hgc
          (repeat' (first | with_reducible (first | refine agr_d (fun hc => ?_) fun hc => ?_ | refine agr_n (fun hc => ?_) fun hc => ?_ | refine acd_d (fun hc => ?_) fun hc => ?_ | refine acd_n (fun hc => ?_) fun hc => ?_ | refine dgr_d (fun hc => ?_) fun hc => ?_ | refine dgr_n (fun hc => ?_) fun hc => ?_ | refine dl_sound _ _ [] [] [] _ _ (fun _ h => absurd h List.not_mem_nil) ?_ | refine conEnd_p (.inl rfl) ?_ | refine conEnd_p (.inr rfl) ?_ | refine dc1_p hgc ?_ | refine ac1_p hgc ?_) | simp (disch := omega) only [go_sem, h0, h116, h117, h118, h5, hg, devT, Nat.reduceAdd, Nat.reduceSub, Nat.reduceMul, Nat.reduceLeDiff, Nat.reduceLT, Nat.reduceEqDiff, Int.reduceLT, Int.reduceLE, Int.reduceToNat, Int.reduceAdd, Int.reduceSub, Int.reduceMul, Int.reduceEq, Int.reduceNeg, reduceCtorEq, true_and, and_true, Int.toNat_natCast, List.getElem?_map, Option.map_some, List.length_map, List.length_take, List.length_drop, List.length_append, Nat.sub_zero, Int.toNat_zero, List.length_replicate, Bool.true_or, Bool.or_true, Bool.false_or, Bool.or_false, false_implies, implies_true]))
          all_goals (rw [hno (by rw [hgb]; simp)])
        | true =>
          rw [hgb] at hgc
          (repeat' (first | with_reducible (first | refine agr_d (fun hc => ?_) fun hc => ?_ | refine agr_n (fun hc => ?_) fun hc => ?_ | refine acd_d (fun hc => ?_) fun hc => ?_ | refine acd_n (fun hc => ?_) fun hc => ?_ | refine dgr_d (fun hc => ?_) fun hc => ?_ | refine dgr_n (fun hc => ?_) fun hc => ?_ | refine dl_sound _ _ [] [] [] _ _ (fun _ h => absurd h List.not_mem_nil) ?_ | refine conEnd_p (.inl rfl) ?_ | refine conEnd_p (.inr rfl) ?_ | refine dc1_p hgc ?_ | refine ac1_p hgc ?_) | simp (disch := omega) only [go_sem, h0, h116, h117, h118, h5, hg, devT, Nat.reduceAdd, Nat.reduceSub, Nat.reduceMul, Nat.reduceLeDiff, Nat.reduceLT, Nat.reduceEqDiff, Int.reduceLT, Int.reduceLE, Int.reduceToNat, Int.reduceAdd, Int.reduceSub, Int.reduceMul, Int.reduceEq, Int.reduceNeg, reduceCtorEq, true_and, and_true, Int.toNat_natCast, List.getElem?_map, Option.map_some, List.length_map, List.length_take, List.length_drop, List.length_append, Nat.sub_zero, Int.toNat_zero, List.length_replicate, Bool.true_or, Bool.or_true, Bool.false_or, Bool.or_false, false_implies, implies_true]))
          · rw [hno (by rintro ⟨_, h⟩; exact h (by assumption))]
          · refine ⟨i + 1, by omega, by omega, rfl, by rw [hlastE], hyes hgb (by assumption)⟩
      · (repeat' (first | with_reducible (first | refine agr_d (fun hc => ?_) fun hc => ?_ | refine agr_n (fun hc => ?_) fun hc => ?_ | refine acd_d (fun hc => ?_) fun hc => ?_ | refine acd_n (fun hc => ?_) fun hc => ?_ | refine dgr_d (fun hc => ?_) fun hc => ?_ | refine dgr_n (fun hc => ?_) fun hc => ?_ | refine dl_sound _ _ [] [] [] _ _ (fun _ h => absurd h List.not_mem_nil) ?_ | refine conEnd_p (.inl rfl) ?_ | refine conEnd_p (.inr rfl) ?_) | simp (disch := omega) only [go_sem, h0, h116, h117, h118, h5, devT, Nat.reduceAdd, Nat.reduceSub, Nat.reduceMul, Nat.reduceLeDiff, Nat.reduceLT, Nat.reduceEqDiff, Int.reduceLT, Int.reduceLE, Int.reduceToNat, Int.reduceAdd, Int.reduceSub, Int.reduceMul, Int.reduceEq, Int.reduceNeg, reduceCtorEq, true_and, and_true, Int.toNat_natCast, List.getElem?_map, Option.map_some, List.length_map, List.length_take, List.length_drop, List.length_append, Nat.sub_zero, Int.toNat_zero, List.length_replicate, Bool.true_or, Bool.or_true, Bool.false_or, Bool.or_false, false_implies, implies_true]))
        rw [(checkB_iff d).2 ⟨by omega, by omega, by omega, by omega, by omega, by omega, hs, fun t h => (hk t h (by omega)).1, fun t h => (hk t h (by omega)).2, fun t h h' => hf t h (by omega)⟩]
end Go.Proofs.Ytllijcnbjbfabaa

namespace Go.Proofs.Ytllijcnbjbfabaa
open Go.RowKit
set_option linter.unusedSimpArgs false
set_option linter.unusedVariables false

theorem fenceA_len (l : List Int) (k : Int) (j : Nat) : (fenceA l k j).1.length ≤ 2 * j := by
  induction j with
  | zero => simp [fenceA]
  | succ j ih =>
    simp only [fenceA]
    split
    · omega
    · split <;> simp <;> omega
end Go.Proofs.Ytllijcnbjbfabaa

namespace Go.Proofs.Ytllijcnbjbfabaa
open Go.RowKit
set_option linter.unusedSimpArgs false
set_option linter.unusedVariables false

/-- a cache's length -/
def cLen (d : Dev) (i : Nat) : Nat := (d.cache.getD i []).length
theorem cLen_at {d : Dev} {i : Nat} (h : i < d.cache.length) : cLen d i = d.cache[i].length := by
  unfold cLen
  rw [List.getD_eq_getElem?_getD, List.getElem?_eq_getElem h]
  rfl
/-- rows of slices, each of a block of its own -/
def cRows (d : Dev) (bc : Nat → Nat) (n : Nat) : List (List V) := (List.range n).map fun i => [.bs (bc i) 0 (cLen d i) (cLen d i)]
theorem cRows_len (d : Dev) (bc : Nat → Nat) (n : Nat) : (cRows d bc n).length = n := by simp [cRows]
theorem cRows_succ (d : Dev) (bc : Nat → Nat) (n : Nat) : cRows d bc (n + 1) = cRows d bc n ++ [[.bs (bc n) 0 (cLen d n) (cLen d n)]] := by simp [cRows, List.range_succ]
theorem cRows_congr {d : Dev} {bc bc' : Nat → Nat} {n : Nat} (h : ∀ i, i < n → bc i = bc' i) : cRows d bc n = cRows d bc' n := by
  unfold cRows
  refine List.map_congr_left fun i hi => ?_
  rw [h i (by simpa using hi)]
theorem cRows_all (d : Dev) (bc : Nat → Nat) (n : Nat) : ((cRows d bc n).all fun r => decide (r.length = 1)) = true := by simp [cRows]
/-- a device in blocks of the call's own -/
structure FreshDev (c0 : Nat) (st : St) (d : Dev) (bS bK bF bC : Nat) (bc : Nat → Nat) : Prop where
  o1 : c0 ≤ bS
  o2 : bS < bK
  o3 : bK < bF
  o4 : ∀ i, i < d.cache.length → bF < bc i ∧ bc i < bC
  o5 : ∀ i j, i < j → j < d.cache.length → bc i < bc j
  o6 : bF < bC
  o7 : bC < st.c
  s : st.get bS = some ⟨d.s.map txV, 1, 0⟩
  k : st.get bK = some ⟨d.keys.map inV, 1, 0⟩
  f : st.get bF = some ⟨d.fen.map inV, 1, 0⟩
  c : st.get bC = some ⟨cRows d bc d.cache.length, 1, 0⟩
  ci : ∀ i (h : i < d.cache.length), st.get (bc i) = some ⟨d.cache[i].map prV, 2, 0⟩
def freshV (d : Dev) (bS bK bF bC : Nat) : V := .agg [.bs bS 0 d.s.length d.s.length, .bs bC 0 d.cache.length d.cache.length, .bs bK 0 d.keys.length d.keys.length, .int .i64 d.next, .bs bF 0 d.fen.length d.fen.length]
theorem iconEnd_v {P : Program} {l : List ResultVar} {post : V → St → Prop} {fr : Fr} {st : St} {e : AEx} (he : e = .ret ∨ e = .normal) (h : bindV (rvv P fr st l) fun r => post r st) : iconEnd P l post e fr st := by
  obtain ⟨r, h1, h2⟩ := bindV_some h
  rw [rvv_eq] at h1
  rcases he with rfl | rfl <;> exact ⟨r, h1, h2⟩
set_option maxRecDepth 100000 in
set_option maxHeartbeats 16000000 in
theorem copied_con (d : Dev) (hd : DevOk d) (h0 : 0 < d.cache.length) (st0 : St) : ICon Try.prog 39 [devV d] st0 fun r st => ∃ bS bK bF bC bc, r = freshV d bS bK bF bC ∧ FreshDev st0.c st d bS bK bF bC bc ∧ ∀ b, b < st0.c → st.get b = st0.get b := by
  refine icon_of_awp Try.func39 rfl mixed (by decide) rfl (by kernel_rfl) rfl ?_
  obtain ⟨q1, q2, q3, q4, q5, q6, q7, q8, q9⟩ := hd
  obtain ⟨g0, c0⟩ := st0
  dsimp only
  (repeat' (first | with_reducible (first | refine agr_d (fun hc => ?_) fun hc => ?_ | refine agr_n (fun hc => ?_) fun hc => ?_ | refine acd_d (fun hc => ?_) fun hc => ?_ | refine acd_n (fun hc => ?_) fun hc => ?_ | refine dgr_d (fun hc => ?_) fun hc => ?_ | refine dgr_n (fun hc => ?_) fun hc => ?_ | refine dl_sound _ _ [] [] [] _ _ (fun _ h => absurd h List.not_mem_nil) ?_) | simp (disch := omega) only [go_sem, devV, List.size_toArray, Nat.reduceAdd, Nat.reduceSub, Nat.reduceMul, Nat.reduceLeDiff, Nat.reduceLT, Nat.reduceEqDiff, Int.reduceLT, Int.reduceLE, Int.reduceToNat, Int.reduceAdd, Int.reduceSub, Int.reduceMul, Int.reduceEq, Int.reduceNeg, reduceCtorEq, true_and, and_true, Int.toNat_natCast, List.getElem?_map, Option.map_some, List.length_map, List.length_take, List.length_drop, List.length_append, Nat.sub_zero, Int.toNat_zero, List.length_replicate, Bool.true_or, Bool.or_true, Bool.false_or, Bool.or_false, false_implies, implies_true]))
  have hB : ∀ (S0 C0 K0 F0 N0 : V), True := fun _ _ _ _ _ => trivial
  refine awp_for d.cache.length (fun j fr st => ev fr (.tmp 1) = .ptr c0 0 0 ∧ ev fr (.tmp 2) = .ptr (c0 + 1) 0 0 ∧ ev fr (.tmp 3) = .ptr (c0 + 17) 0 0 ∧ ev fr (.tmp 4) = .int .i64 j ∧ c0 + 19 ≤ st.c ∧
    st.get c0 = some (devB d) ∧ st.get (c0 + 1) = some ⟨[[.sl [] true, .sl [] true, .sl [] true, .int .i64 0, .sl [] true]], 5, 0⟩ ∧
    st.get (c0 + 5) = some ⟨d.s.map txV, 1, 0⟩ ∧ st.get (c0 + 9) = some ⟨d.keys.map inV, 1, 0⟩ ∧ st.get (c0 + 15) = some ⟨d.fen.map inV, 1, 0⟩ ∧ (∀ b, b < c0 → st.get b = g0 b) ∧
    ((j = 0 ∧ st.get (c0 + 17) = some ⟨[[.bs (c0 + 5) 0 d.s.length d.s.length, .sl [] true, .bs (c0 + 9) 0 d.keys.length d.keys.length, .int .i64 d.next, .bs (c0 + 15) 0 d.fen.length d.fen.length]], 5, 0⟩) ∨
     ∃ bC bc, st.get (c0 + 17) = some ⟨[[.bs (c0 + 5) 0 d.s.length d.s.length, .bs bC 0 j j, .bs (c0 + 9) 0 d.keys.length d.keys.length, .int .i64 d.next, .bs (c0 + 15) 0 d.fen.length d.fen.length]], 5, 0⟩ ∧ c0 + 18 < bC ∧ bC < st.c ∧
       (∀ i, i < j → c0 + 18 < bc i ∧ bc i < bC) ∧ (∀ i i', i < i' → i' < j → bc i < bc i') ∧ st.get bC = some ⟨cRows d bc j, 1, 0⟩ ∧ ∀ i (h : i < d.cache.length), i < j → st.get (bc i) = some ⟨d.cache[i].map prV, 2, 0⟩)) ?_ ?_
  · refine ⟨?_, ?_, ?_, ?_, ?_, ?_, ?_, ?_, ?_, ?_, fun b hb => ?_, .inl ⟨rfl, ?_⟩⟩
    all_goals simp (disch := omega) only [go_sem, Nat.reduceAdd, Nat.reduceSub, Nat.reduceMul, Nat.reduceLeDiff, Nat.reduceLT, Nat.reduceEqDiff, Int.reduceLT, Int.reduceLE, Int.reduceToNat, Int.reduceAdd, Int.reduceSub, Int.reduceMul, Int.reduceEq, Int.reduceNeg, reduceCtorEq, true_and, and_true, Int.toNat_natCast, List.getElem?_map, Option.map_some, List.length_map, List.length_take, List.length_drop, List.length_append, Nat.sub_zero, Int.toNat_zero, List.length_replicate, Bool.true_or, Bool.or_true, Bool.false_or, Bool.or_false, false_implies, implies_true]
    all_goals first | rfl | omega
  clear hB
  rintro j fr st hj ⟨h1, h2, h3, h4, hc, b1, b2, bs, bk, bf, hold, hC⟩
  by_cases hlt : j < d.cache.length
  · have hg : d.cache[j]? = some d.cache[j] := List.getElem?_eq_getElem hlt
    have hlj := q3 j hlt
    rcases hC with ⟨rfl, b3⟩ | ⟨bC, bc, b3, o1, o2, o3, o4, bC1, bci⟩
    · (repeat' (first | with_reducible (first | refine agr_d (fun hc => ?_) fun hc => ?_ | refine agr_n (fun hc => ?_) fun hc => ?_ | refine acd_d (fun hc => ?_) fun hc => ?_ | refine acd_n (fun hc => ?_) fun hc => ?_ | refine dgr_d (fun hc => ?_) fun hc => ?_ | refine dgr_n (fun hc => ?_) fun hc => ?_ | refine dl_sound _ _ [] [] [] _ _ (fun _ h => absurd h List.not_mem_nil) ?_) | simp (disch := omega) only [go_sem, h1, h2, h3, h4, hg, b1, b2, b3, devB, List.size_toArray, Nat.reduceAdd, Nat.reduceSub, Nat.reduceMul, Nat.reduceLeDiff, Nat.reduceLT, Nat.reduceEqDiff, Int.reduceLT, Int.reduceLE, Int.reduceToNat, Int.reduceAdd, Int.reduceSub, Int.reduceMul, Int.reduceEq, Int.reduceNeg, reduceCtorEq, true_and, and_true, Int.toNat_natCast, List.getElem?_map, Option.map_some, List.length_map, List.length_take, List.length_drop, List.length_append, Nat.sub_zero, Int.toNat_zero, List.length_replicate, Bool.true_or, Bool.or_true, Bool.false_or, Bool.or_false, false_implies, implies_true]))
      refine ⟨1, by omega, by omega, rfl, by omega, bs, bk, bf, fun b hb => ?_, .inr ⟨st.c + 10, fun _ => st.c + 8, rfl, by omega, by omega, fun i hi => by (dsimp only; omega), fun i i' k1 k2 => by omega, ?_, fun i h hi => ?_⟩⟩
      · (repeat rw [if_neg (by omega)])
        exact hold b hb
      · rw [if_neg (by omega), if_pos rfl, cRows_succ, cLen_at hlt]
        rfl
      · obtain rfl : i = 0 := by omega
        dsimp only
        (repeat rw [if_neg (by omega)])
        try rw [if_pos rfl]
    · (repeat' (first | with_reducible (first | refine agr_d (fun hc => ?_) fun hc => ?_ | refine agr_n (fun hc => ?_) fun hc => ?_ | refine acd_d (fun hc => ?_) fun hc => ?_ | refine acd_n (fun hc => ?_) fun hc => ?_ | refine dgr_d (fun hc => ?_) fun hc => ?_ | refine dgr_n (fun hc => ?_) fun hc => ?_ | refine dl_sound _ _ [] [] [] _ _ (fun _ h => absurd h List.not_mem_nil) ?_) | simp (disch := omega) only [go_sem, h1, h2, h3, h4, hg, b1, b2, b3, bC1, cRows_len, cRows_all, devB, List.size_toArray, Nat.reduceAdd, Nat.reduceSub, Nat.reduceMul, Nat.reduceLeDiff, Nat.reduceLT, Nat.reduceEqDiff, Int.reduceLT, Int.reduceLE, Int.reduceToNat, Int.reduceAdd, Int.reduceSub, Int.reduceMul, Int.reduceEq, Int.reduceNeg, reduceCtorEq, true_and, and_true, Int.toNat_natCast, List.getElem?_map, Option.map_some, List.length_map, List.length_take, List.length_drop, List.length_append, Nat.sub_zero, Int.toNat_zero, List.length_replicate, Bool.true_or, Bool.or_true, Bool.false_or, Bool.or_false, false_implies, implies_true]))
      refine ⟨j + 1, by omega, by omega, rfl, by omega, bs, bk, bf, fun b hb => ?_, .inr ⟨st.c + 10, fun i => if i = j then st.c + 8 else bc i, rfl, by omega, by omega, fun i hi => ?_, fun i i' h1 h2 => ?_, ?_, fun i h hi => ?_⟩⟩
      · (repeat rw [if_neg (by omega)])
        exact hold b hb
      · dsimp only
        by_cases e : i = j
        · rw [if_pos e]; omega
        · rw [if_neg e]
          have := o3 i (by omega)
          omega
      · dsimp only
        rw [if_neg (by omega : ¬ i = j)]
        have := o3 i (by omega)
        by_cases e : i' = j
        · rw [if_pos e]; omega
        · rw [if_neg e]; exact o4 i i' h1 (by omega)
      · rw [if_neg (by omega), if_pos rfl, cRows_succ, cLen_at hlt, if_pos rfl]
        rw [cRows_congr (bc' := bc) fun i hi => if_neg (by omega)]
      · dsimp only
        by_cases e : i = j
        · have e1 : (if i = j then st.c + 8 else bc i) = st.c + 8 := if_pos e
          simp only [e1]
          (repeat rw [if_neg (by omega)])
          rw [if_pos trivial]
          subst e
          rfl
        · have e1 : (if i = j then st.c + 8 else bc i) = bc i := if_neg e
          simp only [e1]
          have := o3 i (by omega)
          (repeat rw [if_neg (by omega)])
          exact bci i h (by omega)
  · obtain rfl : j = d.cache.length := by omega
    rcases hC with ⟨h00, b3⟩ | ⟨bC, bc, b3, o1, o2, o3, o4, bC1, bci⟩
    · omega
    · (repeat' (first | with_reducible (first | refine agr_d (fun hc => ?_) fun hc => ?_ | refine agr_n (fun hc => ?_) fun hc => ?_ | refine acd_d (fun hc => ?_) fun hc => ?_ | refine acd_n (fun hc => ?_) fun hc => ?_ | refine dgr_d (fun hc => ?_) fun hc => ?_ | refine dgr_n (fun hc => ?_) fun hc => ?_ | refine dl_sound _ _ [] [] [] _ _ (fun _ h => absurd h List.not_mem_nil) ?_) | simp (disch := omega) only [go_sem, h1, h2, h3, h4, b1, b2, b3, devB, List.size_toArray, Nat.reduceAdd, Nat.reduceSub, Nat.reduceMul, Nat.reduceLeDiff, Nat.reduceLT, Nat.reduceEqDiff, Int.reduceLT, Int.reduceLE, Int.reduceToNat, Int.reduceAdd, Int.reduceSub, Int.reduceMul, Int.reduceEq, Int.reduceNeg, reduceCtorEq, true_and, and_true, Int.toNat_natCast, List.getElem?_map, Option.map_some, List.length_map, List.length_take, List.length_drop, List.length_append, Nat.sub_zero, Int.toNat_zero, List.length_replicate, Bool.true_or, Bool.or_true, Bool.false_or, Bool.or_false, false_implies, implies_true]))
      refine iconEnd_v (.inl rfl) ?_
      simp (disch := omega) only [go_sem, h2, devB, List.size_toArray, Nat.reduceAdd, Nat.reduceSub, Nat.reduceMul, Nat.reduceLeDiff, Nat.reduceLT, Nat.reduceEqDiff, Int.reduceLT, Int.reduceLE, Int.reduceToNat, Int.reduceAdd, Int.reduceSub, Int.reduceMul, Int.reduceEq, Int.reduceNeg, reduceCtorEq, true_and, and_true, Int.toNat_natCast, List.getElem?_map, Option.map_some, List.length_map, List.length_take, List.length_drop, List.length_append, Nat.sub_zero, Int.toNat_zero, List.length_replicate, Bool.true_or, Bool.or_true, Bool.false_or, Bool.or_false, false_implies, implies_true]
      refine ⟨_, _, _, bC, bc, rfl, ⟨?_, ?_, ?_, fun i hi => ?_, o4, by omega, ?_, ?_, ?_, ?_, ?_, fun i hi => ?_⟩, fun b hb => ?_⟩
      · omega
      · omega
      · omega
      · have := o3 i hi
        omega
      · show bC < st.c + 1
        omega
      · exact (St.get_set _ _ _ _).trans ((if_neg (by omega)).trans bs)
      · exact (St.get_set _ _ _ _).trans ((if_neg (by omega)).trans bk)
      · exact (St.get_set _ _ _ _).trans ((if_neg (by omega)).trans bf)
      · exact (St.get_set _ _ _ _).trans ((if_neg (by omega)).trans bC1)
      · have := o3 i hi
        exact (St.get_set _ _ _ _).trans ((if_neg (by omega)).trans (bci i hi hi))
      · rw [if_neg (by omega)]
        exact hold b hb
end Go.Proofs.Ytllijcnbjbfabaa

namespace Go.Proofs.Ytllijcnbjbfabaa
open Go.RowKit
set_option linter.unusedSimpArgs false
set_option linter.unusedVariables false

set_option maxRecDepth 100000 in
set_option maxHeartbeats 4000000 in
theorem without_fc (l : List Pr) (fl : Bool) (k : Nat) (hl : l.length ≤ 1000000) (hk : k < l.length) : FCon Try.prog 41 [.sl (l.map prV) fl, .int .i64 k] (.sl ((l.eraseIdx k).map prV) false) := by
  refine fcon_of_awp Try.func41 rfl mixed (by decide) rfl (by kernel_rfl) rfl ?_
  (repeat' (first | with_reducible (first | refine agr_d (fun hc => ?_) fun hc => ?_ | refine agr_n (fun hc => ?_) fun hc => ?_ | refine acd_d (fun hc => ?_) fun hc => ?_ | refine acd_n (fun hc => ?_) fun hc => ?_ | refine dgr_d (fun hc => ?_) fun hc => ?_ | refine dgr_n (fun hc => ?_) fun hc => ?_ | refine dl_sound _ _ [] [] [] _ _ (fun _ h => absurd h List.not_mem_nil) ?_) | simp (disch := omega) only [go_sem, Nat.reduceAdd, Nat.reduceSub, Nat.reduceMul, Nat.reduceLeDiff, Nat.reduceLT, Nat.reduceEqDiff, Int.reduceLT, Int.reduceLE, Int.reduceToNat, Int.reduceAdd, Int.reduceSub, Int.reduceMul, Int.reduceEq, Int.reduceNeg, reduceCtorEq, true_and, and_true, Int.toNat_natCast, List.getElem?_map, Option.map_some, List.length_map, List.length_take, List.length_drop, List.length_append, Nat.sub_zero, Int.toNat_zero, List.length_replicate, Bool.true_or, Bool.or_true, Bool.false_or, Bool.or_false, false_implies, implies_true]))
  refine fconEnd_v (.inl rfl) ?_
  have e : l.take k ++ (l.drop ((k : Int) + 1).toNat).take (l.length - ((k : Int) + 1).toNat) = l.eraseIdx k := by
    rw [show ((k : Int) + 1).toNat = k + 1 by omega, List.take_of_length_le (l := l.drop (k + 1)) (by simp), List.eraseIdx_eq_take_drop_succ]
  simp (disch := omega) only [go_sem, e, Nat.reduceAdd, Nat.reduceSub, Nat.reduceMul, Nat.reduceLeDiff, Nat.reduceLT, Nat.reduceEqDiff, Int.reduceLT, Int.reduceLE, Int.reduceToNat, Int.reduceAdd, Int.reduceSub, Int.reduceMul, Int.reduceEq, Int.reduceNeg, reduceCtorEq, true_and, and_true, Int.toNat_natCast, List.getElem?_map, Option.map_some, List.length_map, List.length_take, List.length_drop, List.length_append, Nat.sub_zero, Int.toNat_zero, List.length_replicate, Bool.true_or, Bool.or_true, Bool.false_or, Bool.or_false, false_implies, implies_true]
  refine fzo_end (by rw [St.get_new]; exact if_pos rfl) ?_ ?_ rfl
  · rw [List.length_map, List.length_eraseIdx_of_lt hk]; omega
  · exact sc_pr _


set_option maxRecDepth 100000 in
set_option maxHeartbeats 4000000 in
theorem most6_con : PCon Try.prog 73 [.int .i64 6] (.int .i64 1099511627776) := by
  refine ⟨?_, by (simp only [List.nil_append, List.cons_append, List.append_nil, List.forall_mem_cons, List.not_mem_nil, false_implies, implies_true, and_true, true_and, plain_agg, plain_tup, plain_int, plain_bool, plain_str, plain_nilp, plain_nilfn, plain_undef, plain_dev, plain_pr, plain_tx, plain_in, plain_cc])⟩
  refine con_of_awp Try.func73 rfl mixed (by decide) rfl (by kernel_rfl) rfl ?_
  (repeat' (first | with_reducible (first | refine agr_d (fun hc => ?_) fun hc => ?_ | refine agr_n (fun hc => ?_) fun hc => ?_ | refine acd_d (fun hc => ?_) fun hc => ?_ | refine acd_n (fun hc => ?_) fun hc => ?_ | refine dgr_d (fun hc => ?_) fun hc => ?_ | refine dgr_n (fun hc => ?_) fun hc => ?_ | refine dl_sound _ _ [] [] [] _ _ (fun _ h => absurd h List.not_mem_nil) ?_ | refine conEnd_p (.inl rfl) ?_ | refine conEnd_p (.inr rfl) ?_ | refine awp_unroll 8 ?_) | simp (disch := omega) only [go_sem, Nat.reduceAdd, Nat.reduceSub, Nat.reduceMul, Nat.reduceLeDiff, Nat.reduceLT, Nat.reduceEqDiff, Int.reduceLT, Int.reduceLE, Int.reduceToNat, Int.reduceAdd, Int.reduceSub, Int.reduceMul, Int.reduceEq, Int.reduceNeg, reduceCtorEq, true_and, and_true, Int.toNat_natCast, List.getElem?_map, Option.map_some, List.length_map, List.length_take, List.length_drop, List.length_append, Nat.sub_zero, Int.toNat_zero, List.length_replicate, Bool.true_or, Bool.or_true, Bool.false_or, Bool.or_false, false_implies, implies_true]))
theorem fits6_con (n : Int) (h0 : 0 ≤ n) (h1 : n ≤ 1099511627776) : PCon Try.prog 74 [.int .i64 n, .int .i64 6] (.bool true) := by
  refine ⟨?_, by (simp only [List.nil_append, List.cons_append, List.append_nil, List.forall_mem_cons, List.not_mem_nil, false_implies, implies_true, and_true, true_and, plain_agg, plain_tup, plain_int, plain_bool, plain_str, plain_nilp, plain_nilfn, plain_undef, plain_dev, plain_pr, plain_tx, plain_in, plain_cc])⟩
  refine con_of_awp Try.func74 rfl mixed (by decide) rfl (by kernel_rfl) rfl ?_
  have hm := most6_con
  (repeat' (first | with_reducible (first | refine agr_d (fun hc => ?_) fun hc => ?_ | refine agr_n (fun hc => ?_) fun hc => ?_ | refine acd_d (fun hc => ?_) fun hc => ?_ | refine acd_n (fun hc => ?_) fun hc => ?_ | refine dgr_d (fun hc => ?_) fun hc => ?_ | refine dgr_n (fun hc => ?_) fun hc => ?_ | refine dl_sound _ _ [] [] [] _ _ (fun _ h => absurd h List.not_mem_nil) ?_ | refine conEnd_p (.inl rfl) ?_ | refine conEnd_p (.inr rfl) ?_ | refine dc1_p hm ?_ | refine ac1_p hm ?_) | simp (disch := omega) only [go_sem, Nat.reduceAdd, Nat.reduceSub, Nat.reduceMul, Nat.reduceLeDiff, Nat.reduceLT, Nat.reduceEqDiff, Int.reduceLT, Int.reduceLE, Int.reduceToNat, Int.reduceAdd, Int.reduceSub, Int.reduceMul, Int.reduceEq, Int.reduceNeg, reduceCtorEq, true_and, and_true, Int.toNat_natCast, List.getElem?_map, Option.map_some, List.length_map, List.length_take, List.length_drop, List.length_append, Nat.sub_zero, Int.toNat_zero, List.length_replicate, Bool.true_or, Bool.or_true, Bool.false_or, Bool.or_false, false_implies, implies_true]))
end Go.Proofs.Ytllijcnbjbfabaa

namespace Go.Proofs.Ytllijcnbjbfabaa
open Go.RowKit
set_option linter.unusedSimpArgs false
set_option linter.unusedVariables false

abbrev acV (a : Ac) : V := .agg [.int .i8 a.k, .int .i64 a.s, .str a.b, .int .i64 a.key]
structure AcOk (a : Ac) : Prop where
  k : -128 ≤ a.k ∧ a.k ≤ 127
  s : -9223372036854775808 ≤ a.s ∧ a.s ≤ 9223372036854775807
  b : a.b.size ≤ 1000000000
  key : -9223372036854775808 ≤ a.key ∧ a.key ≤ 9223372036854775807
abbrev doV (p : Dev × ByteArray × Int) : V := .tup [devV p.1, .str p.2.1, .int .i64 p.2.2]
def refA (d : Dev) (node : Int) (a : Ac) : Prop := checkB d = false ∨ node < 0 ∨ (d.keys.length : Int) ≤ node ∨ a.k < 1 ∨ 6 < a.k
def refB (d : Dev) (a : Ac) : Prop := ((a.k = 2 ∨ a.k = 3) ∧ 512 < a.b.size) ∨ (a.k = 5 ∧ givenB d a.key = false) ∨ (a.k = 6 ∧ 68719476736 ≤ d.next)
def refC (d : Dev) (node : Int) (a : Ac) : Prop := a.k ≠ 6 ∧ fencedB d [d.keys.getD node.toNat 0] = true
def refD (d : Dev) (a : Ac) : Prop := (a.k = 1 ∨ a.k = 2 ∨ a.k = 3) ∧ (a.s < 0 ∨ (d.s.length : Int) ≤ a.s)
theorem refuse_a {d : Dev} {node : Int} {a : Ac} (h : refA d node a) : doR d node a = (d, ⟨#[]⟩, 2) := by
  have e : refuseR d node a = 2 := if_pos h
  unfold doR
  rw [if_neg (by rw [e]; decide), e]
theorem refuse_b {d : Dev} {node : Int} {a : Ac} (h1 : ¬ refA d node a) (h : refB d a) : doR d node a = (d, ⟨#[]⟩, 2) := by
  have e : refuseR d node a = 2 := (if_neg h1).trans (if_pos h)
  unfold doR
  rw [if_neg (by rw [e]; decide), e]
theorem refuse_c {d : Dev} {node : Int} {a : Ac} (h1 : ¬ refA d node a) (h2 : ¬ refB d a) (h : refC d node a) : doR d node a = (d, ⟨#[]⟩, 61) := by
  have e : refuseR d node a = 61 := (if_neg h1).trans ((if_neg h2).trans (if_pos h))
  unfold doR
  rw [if_neg (by rw [e]; decide), e]
theorem refuse_d {d : Dev} {node : Int} {a : Ac} (h1 : ¬ refA d node a) (h2 : ¬ refB d a) (h3 : ¬ refC d node a) (h : refD d a) : doR d node a = (d, ⟨#[]⟩, 60) := by
  have e : refuseR d node a = 60 := (if_neg h1).trans ((if_neg h2).trans ((if_neg h3).trans (if_pos h)))
  unfold doR
  rw [if_neg (by rw [e]; decide), e]
theorem do_ok {d : Dev} {node : Int} {a : Ac} (h1 : ¬ refA d node a) (h2 : ¬ refB d a) (h3 : ¬ refC d node a) (h4 : ¬ refD d a) : doR d node a = ((actD d node.toNat a).1, (actD d node.toNat a).2, 0) := by
  have e : refuseR d node a = 0 := (if_neg h1).trans ((if_neg h2).trans ((if_neg h3).trans (if_neg h4)))
  unfold doR
  rw [if_pos e]
set_option maxRecDepth 100000 in
set_option maxHeartbeats 16000000 in
theorem Do_a (d : Dev) (hd : DevOk d) (node : Int) (a : Ac) (ha : AcOk a) (h : refA d node a) : Con Try.prog 12 [devV d, .int .i64 node, acV a] (· = doV (doR d node a)) := by
  rw [refuse_a h]
  refine con_of_awp Try.func12 rfl mixed (by decide) rfl (by kernel_rfl) rfl ?_
  have hc : PCon Try.prog 36 [devV d] (.int .i64 (chk d)) := ⟨Check_con d hd, by (simp only [List.nil_append, List.cons_append, List.append_nil, List.forall_mem_cons, List.not_mem_nil, false_implies, implies_true, and_true, true_and, plain_agg, plain_tup, plain_int, plain_bool, plain_str, plain_nilp, plain_nilfn, plain_undef, plain_dev, plain_pr, plain_tx, plain_in, plain_cc])⟩
  cases hb : checkB d with
  | false =>
    rw [show chk d = 2 by unfold chk; rw [hb]; rfl] at hc
    (repeat' (first | with_reducible (first | refine agr_d (fun hc => ?_) fun hc => ?_ | refine agr_n (fun hc => ?_) fun hc => ?_ | refine acd_d (fun hc => ?_) fun hc => ?_ | refine acd_n (fun hc => ?_) fun hc => ?_ | refine dgr_d (fun hc => ?_) fun hc => ?_ | refine dgr_n (fun hc => ?_) fun hc => ?_ | refine dl_sound _ _ [] [] [] _ _ (fun _ h => absurd h List.not_mem_nil) ?_ | refine conEnd_p (.inl rfl) ?_ | refine conEnd_p (.inr rfl) ?_ | refine dc1_p hc ?_ | refine ac1_p hc ?_) | simp (disch := omega) only [go_sem, devV, doV, Nat.reduceAdd, Nat.reduceSub, Nat.reduceMul, Nat.reduceLeDiff, Nat.reduceLT, Nat.reduceEqDiff, Int.reduceLT, Int.reduceLE, Int.reduceToNat, Int.reduceAdd, Int.reduceSub, Int.reduceMul, Int.reduceEq, Int.reduceNeg, reduceCtorEq, true_and, and_true, Int.toNat_natCast, List.getElem?_map, Option.map_some, List.length_map, List.length_take, List.length_drop, List.length_append, Nat.sub_zero, Int.toNat_zero, List.length_replicate, Bool.true_or, Bool.or_true, Bool.false_or, Bool.or_false, false_implies, implies_true]))
  | true =>
    rw [show chk d = 0 by unfold chk; rw [hb]; rfl] at hc
    have h' : node < 0 ∨ (d.keys.length : Int) ≤ node ∨ a.k < 1 ∨ 6 < a.k := by
      rcases h with h | h
      · rw [hb] at h; cases h
      · exact h
    by_cases g1 : node < 0
    · (repeat' (first | with_reducible (first | refine agr_d (fun hc => ?_) fun hc => ?_ | refine agr_n (fun hc => ?_) fun hc => ?_ | refine acd_d (fun hc => ?_) fun hc => ?_ | refine acd_n (fun hc => ?_) fun hc => ?_ | refine dgr_d (fun hc => ?_) fun hc => ?_ | refine dgr_n (fun hc => ?_) fun hc => ?_ | refine dl_sound _ _ [] [] [] _ _ (fun _ h => absurd h List.not_mem_nil) ?_ | refine conEnd_p (.inl rfl) ?_ | refine conEnd_p (.inr rfl) ?_ | refine dc1_p hc ?_ | refine ac1_p hc ?_) | simp (disch := omega) only [go_sem, devV, doV, Nat.reduceAdd, Nat.reduceSub, Nat.reduceMul, Nat.reduceLeDiff, Nat.reduceLT, Nat.reduceEqDiff, Int.reduceLT, Int.reduceLE, Int.reduceToNat, Int.reduceAdd, Int.reduceSub, Int.reduceMul, Int.reduceEq, Int.reduceNeg, reduceCtorEq, true_and, and_true, Int.toNat_natCast, List.getElem?_map, Option.map_some, List.length_map, List.length_take, List.length_drop, List.length_append, Nat.sub_zero, Int.toNat_zero, List.length_replicate, Bool.true_or, Bool.or_true, Bool.false_or, Bool.or_false, false_implies, implies_true]))
    by_cases g2 : (d.keys.length : Int) ≤ node
    · (repeat' (first | with_reducible (first | refine agr_d (fun hc => ?_) fun hc => ?_ | refine agr_n (fun hc => ?_) fun hc => ?_ | refine acd_d (fun hc => ?_) fun hc => ?_ | refine acd_n (fun hc => ?_) fun hc => ?_ | refine dgr_d (fun hc => ?_) fun hc => ?_ | refine dgr_n (fun hc => ?_) fun hc => ?_ | refine dl_sound _ _ [] [] [] _ _ (fun _ h => absurd h List.not_mem_nil) ?_ | refine conEnd_p (.inl rfl) ?_ | refine conEnd_p (.inr rfl) ?_ | refine dc1_p hc ?_ | refine ac1_p hc ?_) | simp (disch := omega) only [go_sem, devV, doV, Nat.reduceAdd, Nat.reduceSub, Nat.reduceMul, Nat.reduceLeDiff, Nat.reduceLT, Nat.reduceEqDiff, Int.reduceLT, Int.reduceLE, Int.reduceToNat, Int.reduceAdd, Int.reduceSub, Int.reduceMul, Int.reduceEq, Int.reduceNeg, reduceCtorEq, true_and, and_true, Int.toNat_natCast, List.getElem?_map, Option.map_some, List.length_map, List.length_take, List.length_drop, List.length_append, Nat.sub_zero, Int.toNat_zero, List.length_replicate, Bool.true_or, Bool.or_true, Bool.false_or, Bool.or_false, false_implies, implies_true]))
    by_cases g3 : a.k < 1
    · (repeat' (first | with_reducible (first | refine agr_d (fun hc => ?_) fun hc => ?_ | refine agr_n (fun hc => ?_) fun hc => ?_ | refine acd_d (fun hc => ?_) fun hc => ?_ | refine acd_n (fun hc => ?_) fun hc => ?_ | refine dgr_d (fun hc => ?_) fun hc => ?_ | refine dgr_n (fun hc => ?_) fun hc => ?_ | refine dl_sound _ _ [] [] [] _ _ (fun _ h => absurd h List.not_mem_nil) ?_ | refine conEnd_p (.inl rfl) ?_ | refine conEnd_p (.inr rfl) ?_ | refine dc1_p hc ?_ | refine ac1_p hc ?_) | simp (disch := omega) only [go_sem, devV, doV, Nat.reduceAdd, Nat.reduceSub, Nat.reduceMul, Nat.reduceLeDiff, Nat.reduceLT, Nat.reduceEqDiff, Int.reduceLT, Int.reduceLE, Int.reduceToNat, Int.reduceAdd, Int.reduceSub, Int.reduceMul, Int.reduceEq, Int.reduceNeg, reduceCtorEq, true_and, and_true, Int.toNat_natCast, List.getElem?_map, Option.map_some, List.length_map, List.length_take, List.length_drop, List.length_append, Nat.sub_zero, Int.toNat_zero, List.length_replicate, Bool.true_or, Bool.or_true, Bool.false_or, Bool.or_false, false_implies, implies_true]))
    by_cases g4 : 6 < a.k
    · (repeat' (first | with_reducible (first | refine agr_d (fun hc => ?_) fun hc => ?_ | refine agr_n (fun hc => ?_) fun hc => ?_ | refine acd_d (fun hc => ?_) fun hc => ?_ | refine acd_n (fun hc => ?_) fun hc => ?_ | refine dgr_d (fun hc => ?_) fun hc => ?_ | refine dgr_n (fun hc => ?_) fun hc => ?_ | refine dl_sound _ _ [] [] [] _ _ (fun _ h => absurd h List.not_mem_nil) ?_ | refine conEnd_p (.inl rfl) ?_ | refine conEnd_p (.inr rfl) ?_ | refine dc1_p hc ?_ | refine ac1_p hc ?_) | simp (disch := omega) only [go_sem, devV, doV, Nat.reduceAdd, Nat.reduceSub, Nat.reduceMul, Nat.reduceLeDiff, Nat.reduceLT, Nat.reduceEqDiff, Int.reduceLT, Int.reduceLE, Int.reduceToNat, Int.reduceAdd, Int.reduceSub, Int.reduceMul, Int.reduceEq, Int.reduceNeg, reduceCtorEq, true_and, and_true, Int.toNat_natCast, List.getElem?_map, Option.map_some, List.length_map, List.length_take, List.length_drop, List.length_append, Nat.sub_zero, Int.toNat_zero, List.length_replicate, Bool.true_or, Bool.or_true, Bool.false_or, Bool.or_false, false_implies, implies_true]))
    exact absurd h' (by omega)
end Go.Proofs.Ytllijcnbjbfabaa

namespace Go.Proofs.Ytllijcnbjbfabaa
open Go.RowKit
set_option linter.unusedSimpArgs false
set_option linter.unusedVariables false

theorem cRows_at {d : Dev} {bc : Nat → Nat} {i : Nat} (h : i < d.cache.length) : (cRows d bc d.cache.length)[i]? = some [.bs (bc i) 0 d.cache[i].length d.cache[i].length] := by
  unfold cRows
  rw [List.getElem?_map, List.getElem?_range h]
  simp [cLen_at h]
theorem notA {d : Dev} {node : Nat} {a : Ac} (hm : MayD d) (hn : node < d.keys.length) (h1 : 1 ≤ a.k) (h2 : a.k ≤ 6) : ¬ refA d node a := by
  rintro (h | h | h | h | h)
  · rw [(checkB_iff d).2 hm] at h; cases h
  · omega
  · omega
  · omega
  · omega
/-- mny -/
abbrev mny : Nat → Nat := fun _ => 2000000
theorem fz_row {st : St} {b n cap sz lk : Nat} {es : List (List V)} (hk : st.get b = some ⟨es, sz, lk⟩) (hn : n = es.length) (hl : n ≤ 2000000) (hp : Plain (.sl es false)) : Fz st mny (.bs b 0 n cap) (.sl es false) := by
  subst hn
  exact Fz.rows hk hl hp
theorem fz_cache {st : St} {b n cap lk : Nat} {l : List (List Pr)} {cells : List V} (hk : st.get b = some ⟨cells.map (fun v => [v]), 1, lk⟩) (hn : n = l.length) (hl : n ≤ 2000000) (hc : cells.length = l.length)
    (h : ∀ i (h : i < cells.length) (h' : i < l.length), Fz st mny cells[i] (.sl (l[i].map prV) false)) : Fz st mny (.bs b 0 n cap) (.sl (l.map ccV) false) := by
  subst hn
  refine .bs b 0 l.length cap _ _ hk (by simp [hc]) (by simpa using hl) (by simp) (fun a ha ha' => by simp [ccV]) (fun a ha ha' c hc1 hc2 => ?_)
  have h1 : a < cells.length := by simpa using ha
  have h2 : a < l.length := by simpa using ha'
  have e1 : ((cells.map (fun v => [v]))[0 + a]'(by simpa using ha)) = [cells[a]] := by simp
  have e2 : ((l.map ccV)[a]'(by simpa using ha')) = [V.sl (l[a].map prV) false] := by simp [ccV]
  have hc0 : c = 0 := by
    rw [e2] at hc2
    simpa using hc2
  subst hc0
  simp only [e1, e2]
  exact h a h1 h2
theorem cRows_cells (d : Dev) (bc : Nat → Nat) (n : Nat) : cRows d bc n = ((List.range n).map fun i => V.bs (bc i) 0 (cLen d i) (cLen d i)).map (fun v => [v]) := by
  unfold cRows
  rw [List.map_map]
  rfl
theorem fz_dev {st : St} {S C K F : V} {d : Dev} {n : Int} (hn : n = d.next) (hS : Fz st mny S (.sl (d.s.map txV) false)) (hC : Fz st mny C (.sl (d.cache.map ccV) false)) (hK : Fz st mny K (.sl (d.keys.map inV) false)) (hF : Fz st mny F (.sl (d.fen.map inV) false)) :
    Fz st mny (.agg [S, C, K, .int .i64 n, F]) (devV d) := by
  subst hn
  exact fz_agg5 hS hC hK (.plain _ (.int _ _)) hF
/-- the caches as they were copied, but for one -/
theorem fz_caches {st : St} {d : Dev} {bc : Nat → Nat} {bC cap lk : Nat} (hd : DevOk d) (hk : st.get bC = some ⟨cRows d bc d.cache.length, 1, lk⟩) (hci : ∀ i (h : i < d.cache.length), st.get (bc i) = some ⟨d.cache[i].map prV, 2, 0⟩) :
    Fz st mny (.bs bC 0 d.cache.length cap) (.sl (d.cache.map ccV) false) := by
  rw [cRows_cells] at hk
  refine fz_cache hk rfl (by have := hd.c; omega) (by simp) (fun i h h' => ?_)
  have e : ((List.range d.cache.length).map fun i => V.bs (bc i) 0 (cLen d i) (cLen d i))[i] = V.bs (bc i) 0 d.cache[i].length d.cache[i].length := by simp [cLen_at h']
  rw [e]
  exact fz_row (hci i h') (by simp) (by have := hd.ci i h'; omega) ((plain_pr _ _).2 trivial)
theorem fz_caches1 {st : St} {d : Dev} {bc : Nat → Nat} {bC cap lk : Nat} {node : Nat} {v : V} {c : List Pr} (hd : DevOk d) (hn : node < d.cache.length) (hk : st.get bC = some ⟨(cRows d bc d.cache.length).set node [v], 1, lk⟩)
    (hci : ∀ i (h : i < d.cache.length), i ≠ node → st.get (bc i) = some ⟨d.cache[i].map prV, 2, 0⟩) (hv : Fz st mny v (.sl (c.map prV) false)) :
    Fz st mny (.bs bC 0 d.cache.length cap) (.sl ((d.cache.set node c).map ccV) false) := by
  have e0 : (cRows d bc d.cache.length).set node [v] = (((List.range d.cache.length).map fun i => V.bs (bc i) 0 (cLen d i) (cLen d i)).set node v).map (fun v => [v]) := by rw [cRows_cells, List.map_set]
  rw [e0] at hk
  refine fz_cache hk (by simp) (by have := hd.c; omega) (by simp) (fun i h h' => ?_)
  have hi : i < d.cache.length := by simpa using h'
  by_cases e : node = i
  · subst e
    simp only [List.getElem_set_self]
    exact hv
  · rw [List.getElem_set_ne e, List.getElem_set_ne e]
    have e : ((List.range d.cache.length).map fun i => V.bs (bc i) 0 (cLen d i) (cLen d i))[i]'(by simpa using hi) = V.bs (bc i) 0 d.cache[i].length d.cache[i].length := by simp [cLen_at hi]
    rw [e]
    exact fz_row (hci i hi (by omega)) (by simp) (by have := hd.ci i hi; omega) ((plain_pr _ _).2 trivial)
set_option maxRecDepth 100000 in
set_option maxHeartbeats 16000000 in
theorem Do_1 (d : Dev) (hd : DevOk d) (hm : MayD d) (node : Nat) (hn : node < d.keys.length) (a : Ac) (ha : AcOk a) (hk : a.k = 1) : Con Try.prog 12 [devV d, .int .i64 node, acV a] (· = doV (doR d node a)) := by
  have hA := notA hm hn (by omega) (by omega : a.k ≤ 6)
  have hB : ¬ refB d a := by rintro (⟨h, _⟩ | ⟨h, _⟩ | ⟨h, _⟩) <;> omega
  have hcn : node < d.cache.length := by rw [hm.c]; exact hn
  have hkg : d.keys[node]? = some d.keys[node] := List.getElem?_eq_getElem hn
  have hkd : d.keys.getD node 0 = d.keys[node] := by rw [List.getD_eq_getElem?_getD, hkg]; rfl
  have hCd : refC d node a ↔ fencedB d [d.keys[node]] = true := by
    unfold refC
    rw [Int.toNat_natCast, hkd]
    exact ⟨fun h => h.2, fun h => ⟨by omega, h⟩⟩
  have hDd : refD d a ↔ (a.s < 0 ∨ (d.s.length : Int) ≤ a.s) := ⟨fun h => h.2, fun h => ⟨.inl hk, h⟩⟩
  have hc : PCon Try.prog 36 [devV d] (.int .i64 0) := ⟨by have := Check_con d hd; rw [show chk d = 0 by unfold chk; rw [(checkB_iff d).2 hm]; rfl] at this; exact this, by (simp only [List.nil_append, List.cons_append, List.append_nil, List.forall_mem_cons, List.not_mem_nil, false_implies, implies_true, and_true, true_and, plain_agg, plain_tup, plain_int, plain_bool, plain_str, plain_nilp, plain_nilfn, plain_undef, plain_dev, plain_pr, plain_tx, plain_in, plain_cc])⟩
  have hF : Con Try.prog 38 [devV d, .sl [[.int .i64 d.keys[node]]] false] (· = .bool (fencedB d [d.keys[node]])) := Fenced_con _ _ _ _ d false false [d.keys[node]] (by have := hd.f; omega) (by simp)
  have hpd : Plain (devV d) := (plain_dev d).2 trivial
  have hpk : Plain (.sl [[.int .i64 d.keys[node]]] false) := (plain_in [d.keys[node]] false).2 trivial
  have hcl := hd.ci node hcn
  refine con_of_awp Try.func12 rfl mixed (by decide) rfl (by kernel_rfl) rfl ?_
  cases hfb : fencedB d [d.keys[node]] with
  | true =>
    rw [hfb] at hF
    rw [refuse_c hA hB (hCd.2 hfb)]
    (repeat' (first | with_reducible (first | refine agr_d (fun hc => ?_) fun hc => ?_ | refine agr_n (fun hc => ?_) fun hc => ?_ | refine acd_d (fun hc => ?_) fun hc => ?_ | refine acd_n (fun hc => ?_) fun hc => ?_ | refine dgr_d (fun hc => ?_) fun hc => ?_ | refine dgr_n (fun hc => ?_) fun hc => ?_ | refine dl_sound _ _ [] [] [] _ _ (fun _ h => absurd h List.not_mem_nil) ?_ | refine conEnd_p (.inl rfl) ?_ | refine conEnd_p (.inr rfl) ?_ | refine dc1_p hc ?_ | refine ac1_p hc ?_ | refine dc1_sc2 (sz := 1) (lk := 0) hpd ?_ ?_ hpk hF (.bool _) ?_) | simp (disch := omega) only [go_sem, devV, doV, hk, hkg, Nat.reduceAdd, Nat.reduceSub, Nat.reduceMul, Nat.reduceLeDiff, Nat.reduceLT, Nat.reduceEqDiff, Int.reduceLT, Int.reduceLE, Int.reduceToNat, Int.reduceAdd, Int.reduceSub, Int.reduceMul, Int.reduceEq, Int.reduceNeg, reduceCtorEq, true_and, and_true, Int.toNat_natCast, List.getElem?_map, Option.map_some, List.length_map, List.length_take, List.length_drop, List.length_append, Nat.sub_zero, Int.toNat_zero, List.length_replicate, Bool.true_or, Bool.or_true, Bool.false_or, Bool.or_false, false_implies, implies_true]))
  | false =>
    rw [hfb] at hF
    have hC : ¬ refC d node a := by rw [hCd, hfb]; simp
    by_cases g1 : a.s < 0
    · rw [refuse_d hA hB hC (hDd.2 (.inl g1))]
      (repeat' (first | with_reducible (first | refine agr_d (fun hc => ?_) fun hc => ?_ | refine agr_n (fun hc => ?_) fun hc => ?_ | refine acd_d (fun hc => ?_) fun hc => ?_ | refine acd_n (fun hc => ?_) fun hc => ?_ | refine dgr_d (fun hc => ?_) fun hc => ?_ | refine dgr_n (fun hc => ?_) fun hc => ?_ | refine dl_sound _ _ [] [] [] _ _ (fun _ h => absurd h List.not_mem_nil) ?_ | refine conEnd_p (.inl rfl) ?_ | refine conEnd_p (.inr rfl) ?_ | refine dc1_p hc ?_ | refine ac1_p hc ?_ | refine dc1_sc2 (sz := 1) (lk := 0) hpd ?_ ?_ hpk hF (.bool _) ?_) | simp (disch := omega) only [go_sem, devV, doV, hk, hkg, Nat.reduceAdd, Nat.reduceSub, Nat.reduceMul, Nat.reduceLeDiff, Nat.reduceLT, Nat.reduceEqDiff, Int.reduceLT, Int.reduceLE, Int.reduceToNat, Int.reduceAdd, Int.reduceSub, Int.reduceMul, Int.reduceEq, Int.reduceNeg, reduceCtorEq, true_and, and_true, Int.toNat_natCast, List.getElem?_map, Option.map_some, List.length_map, List.length_take, List.length_drop, List.length_append, Nat.sub_zero, Int.toNat_zero, List.length_replicate, Bool.true_or, Bool.or_true, Bool.false_or, Bool.or_false, false_implies, implies_true]))
    by_cases g2 : (d.s.length : Int) ≤ a.s
    · rw [refuse_d hA hB hC (hDd.2 (.inr g2))]
      (repeat' (first | with_reducible (first | refine agr_d (fun hc => ?_) fun hc => ?_ | refine agr_n (fun hc => ?_) fun hc => ?_ | refine acd_d (fun hc => ?_) fun hc => ?_ | refine acd_n (fun hc => ?_) fun hc => ?_ | refine dgr_d (fun hc => ?_) fun hc => ?_ | refine dgr_n (fun hc => ?_) fun hc => ?_ | refine dl_sound _ _ [] [] [] _ _ (fun _ h => absurd h List.not_mem_nil) ?_ | refine conEnd_p (.inl rfl) ?_ | refine conEnd_p (.inr rfl) ?_ | refine dc1_p hc ?_ | refine ac1_p hc ?_ | refine dc1_sc2 (sz := 1) (lk := 0) hpd ?_ ?_ hpk hF (.bool _) ?_) | simp (disch := omega) only [go_sem, devV, doV, hk, hkg, Nat.reduceAdd, Nat.reduceSub, Nat.reduceMul, Nat.reduceLeDiff, Nat.reduceLT, Nat.reduceEqDiff, Int.reduceLT, Int.reduceLE, Int.reduceToNat, Int.reduceAdd, Int.reduceSub, Int.reduceMul, Int.reduceEq, Int.reduceNeg, reduceCtorEq, true_and, and_true, Int.toNat_natCast, List.getElem?_map, Option.map_some, List.length_map, List.length_take, List.length_drop, List.length_append, Nat.sub_zero, Int.toNat_zero, List.length_replicate, Bool.true_or, Bool.or_true, Bool.false_or, Bool.or_false, false_implies, implies_true]))
    have hD : ¬ refD d a := by rw [hDd]; omega
    rw [do_ok hA hB hC hD]
    (repeat' (first | with_reducible (first | refine agr_d (fun hc => ?_) fun hc => ?_ | refine agr_n (fun hc => ?_) fun hc => ?_ | refine acd_d (fun hc => ?_) fun hc => ?_ | refine acd_n (fun hc => ?_) fun hc => ?_ | refine dgr_d (fun hc => ?_) fun hc => ?_ | refine dgr_n (fun hc => ?_) fun hc => ?_ | refine dl_sound _ _ [] [] [] _ _ (fun _ h => absurd h List.not_mem_nil) ?_ | refine conEnd_p (.inl rfl) ?_ | refine conEnd_p (.inr rfl) ?_ | refine dc1_p hc ?_ | refine ac1_p hc ?_ | refine dc1_sc2 (sz := 1) (lk := 0) hpd ?_ ?_ hpk hF (.bool _) ?_) | simp (disch := omega) only [go_sem, devV, doV, hk, hkg, Nat.reduceAdd, Nat.reduceSub, Nat.reduceMul, Nat.reduceLeDiff, Nat.reduceLT, Nat.reduceEqDiff, Int.reduceLT, Int.reduceLE, Int.reduceToNat, Int.reduceAdd, Int.reduceSub, Int.reduceMul, Int.reduceEq, Int.reduceNeg, reduceCtorEq, true_and, and_true, Int.toNat_natCast, List.getElem?_map, Option.map_some, List.length_map, List.length_take, List.length_drop, List.length_append, Nat.sub_zero, Int.toNat_zero, List.length_replicate, Bool.true_or, Bool.or_true, Bool.false_or, Bool.or_false, false_implies, implies_true]))
    refine ac1_i (copied_con d hd (by omega) _) ?_
    rintro _ ⟨g, c⟩ ⟨bS, bK, bF, bC, bc, rfl, HF, hold⟩
    obtain ⟨o1, o2, o3, o4, o5, o6, o7, hS, hK, hFn, hC1, hci⟩ := HF
    have o4n := o4 node hcn
    have hcin := hci node hcn
    have hcr := cRows_at (bc := bc) hcn
    dsimp only at o1 o7 hS hK hFn hC1 hci hold hcin
    have o1' : 3 ≤ bS := Nat.le_trans (by simp) o1
    have q0 : g 0 = some (devB d) := (hold 0 (by simp)).trans (by simp (disch := omega) only [go_sem, Nat.reduceAdd, Nat.reduceSub, Nat.reduceMul, Nat.reduceLeDiff, Nat.reduceLT, Nat.reduceEqDiff, Int.reduceLT, Int.reduceLE, Int.reduceToNat, Int.reduceAdd, Int.reduceSub, Int.reduceMul, Int.reduceEq, Int.reduceNeg, reduceCtorEq, true_and, and_true, Int.toNat_natCast, List.getElem?_map, Option.map_some, List.length_map, List.length_take, List.length_drop, List.length_append, Nat.sub_zero, Int.toNat_zero, List.length_replicate, Bool.true_or, Bool.or_true, Bool.false_or, Bool.or_false, false_implies, implies_true] <;> rfl)
    have q1 : g 1 = some ⟨[[.int .i8 1, .int .i64 a.s, .str a.b, .int .i64 a.key]], 4, 0⟩ := (hold 1 (by simp)).trans (by simp (disch := omega) only [go_sem, hk, Nat.reduceAdd, Nat.reduceSub, Nat.reduceMul, Nat.reduceLeDiff, Nat.reduceLT, Nat.reduceEqDiff, Int.reduceLT, Int.reduceLE, Int.reduceToNat, Int.reduceAdd, Int.reduceSub, Int.reduceMul, Int.reduceEq, Int.reduceNeg, reduceCtorEq, true_and, and_true, Int.toNat_natCast, List.getElem?_map, Option.map_some, List.length_map, List.length_take, List.length_drop, List.length_append, Nat.sub_zero, Int.toNat_zero, List.length_replicate, Bool.true_or, Bool.or_true, Bool.false_or, Bool.or_false, false_implies, implies_true] <;> rfl)
    have q2 : g 2 = some ⟨[[.sl [] true, .sl [] true, .sl [] true, .int .i64 0, .sl [] true]], 5, 0⟩ := (hold 2 (by simp)).trans (by simp (disch := omega) only [go_sem, Nat.reduceAdd, Nat.reduceSub, Nat.reduceMul, Nat.reduceLeDiff, Nat.reduceLT, Nat.reduceEqDiff, Int.reduceLT, Int.reduceLE, Int.reduceToNat, Int.reduceAdd, Int.reduceSub, Int.reduceMul, Int.reduceEq, Int.reduceNeg, reduceCtorEq, true_and, and_true, Int.toNat_natCast, List.getElem?_map, Option.map_some, List.length_map, List.length_take, List.length_drop, List.length_append, Nat.sub_zero, Int.toNat_zero, List.length_replicate, Bool.true_or, Bool.or_true, Bool.false_or, Bool.or_false, false_implies, implies_true] <;> rfl)
    clear hold o1
    have hP := place_con d.cache[node] false a.s (by omega)
    have hpl : Plain (.sl (d.cache[node].map prV) false) := (plain_pr _ _).2 trivial
    have hs1 := ha.s
    have hcd : d.cache.getD node [] = d.cache[node] := by rw [List.getD_eq_getElem?_getD, List.getElem?_eq_getElem hcn]; rfl
    have hsl : a.s.toNat < d.s.length := by omega
    have hsg : d.s[a.s.toNat]? = some d.s[a.s.toNat] := List.getElem?_eq_getElem hsl
    cases hpn : placeN d.cache[node] a.s with
    | none =>
      rw [placeR, hpn] at hP
      (repeat' (first | with_reducible (first | refine agr_d (fun hc => ?_) fun hc => ?_ | refine agr_n (fun hc => ?_) fun hc => ?_ | refine acd_d (fun hc => ?_) fun hc => ?_ | refine acd_n (fun hc => ?_) fun hc => ?_ | refine dgr_d (fun hc => ?_) fun hc => ?_ | refine dgr_n (fun hc => ?_) fun hc => ?_ | refine dl_sound _ _ [] [] [] _ _ (fun _ h => absurd h List.not_mem_nil) ?_ | refine ac1_sc1 (sz := 2) (lk := 0) (.int _ _) ?_ ?_ hpl hP (.int _ _) ?_) | simp (disch := omega) only [go_sem, freshV, hk, hsg, q0, q1, q2, hS, hK, hFn, hC1, hcin, hcr, Nat.reduceAdd, Nat.reduceSub, Nat.reduceMul, Nat.reduceLeDiff, Nat.reduceLT, Nat.reduceEqDiff, Int.reduceLT, Int.reduceLE, Int.reduceToNat, Int.reduceAdd, Int.reduceSub, Int.reduceMul, Int.reduceEq, Int.reduceNeg, reduceCtorEq, true_and, and_true, Int.toNat_natCast, List.getElem?_map, Option.map_some, List.length_map, List.length_take, List.length_drop, List.length_append, Nat.sub_zero, Int.toNat_zero, List.length_replicate, Bool.true_or, Bool.or_true, Bool.false_or, Bool.or_false, false_implies, implies_true]))
      refine conEnd_f (.inl rfl) ?_
      simp (disch := omega) only [go_sem, hS, hK, hFn, hC1, hcin, Nat.reduceAdd, Nat.reduceSub, Nat.reduceMul, Nat.reduceLeDiff, Nat.reduceLT, Nat.reduceEqDiff, Int.reduceLT, Int.reduceLE, Int.reduceToNat, Int.reduceAdd, Int.reduceSub, Int.reduceMul, Int.reduceEq, Int.reduceNeg, reduceCtorEq, true_and, and_true, Int.toNat_natCast, List.getElem?_map, Option.map_some, List.length_map, List.length_take, List.length_drop, List.length_append, Nat.sub_zero, Int.toNat_zero, List.length_replicate, Bool.true_or, Bool.or_true, Bool.false_or, Bool.or_false, false_implies, implies_true]
      have hact : actD d node a = (d, d.s[a.s.toNat]) := by
        unfold actD
        dsimp only
        rw [if_pos hk, hcd, hpn]
        simp [List.getD_eq_getElem?_getD, hsl]
      rw [hact]
      refine ⟨mny, _, fz_tup3 (fz_dev (d := d) rfl (fz_row (sz := 1) (lk := 0) ?_ (by simp) (by have := hd.s; omega) ((plain_tx _ _).2 trivial)) (fz_caches (lk := 0) (bc := bc) hd ?_ (fun i h => ?_)) (fz_row (sz := 1) (lk := 0) ?_ (by simp) (by have := hd.k; omega) ((plain_in _ _).2 trivial)) (fz_row (sz := 1) (lk := 0) ?_ (by simp) (by have := hd.f; omega) ((plain_in _ _).2 trivial))) (.plain _ (.str _)) (.plain _ (.int _ _)), rfl⟩
      · simp (disch := omega) only [go_sem, hS, Nat.reduceAdd, Nat.reduceSub, Nat.reduceMul, Nat.reduceLeDiff, Nat.reduceLT, Nat.reduceEqDiff, Int.reduceLT, Int.reduceLE, Int.reduceToNat, Int.reduceAdd, Int.reduceSub, Int.reduceMul, Int.reduceEq, Int.reduceNeg, reduceCtorEq, true_and, and_true, Int.toNat_natCast, List.getElem?_map, Option.map_some, List.length_map, List.length_take, List.length_drop, List.length_append, Nat.sub_zero, Int.toNat_zero, List.length_replicate, Bool.true_or, Bool.or_true, Bool.false_or, Bool.or_false, false_implies, implies_true]
      · simp (disch := omega) only [go_sem, hC1, Nat.reduceAdd, Nat.reduceSub, Nat.reduceMul, Nat.reduceLeDiff, Nat.reduceLT, Nat.reduceEqDiff, Int.reduceLT, Int.reduceLE, Int.reduceToNat, Int.reduceAdd, Int.reduceSub, Int.reduceMul, Int.reduceEq, Int.reduceNeg, reduceCtorEq, true_and, and_true, Int.toNat_natCast, List.getElem?_map, Option.map_some, List.length_map, List.length_take, List.length_drop, List.length_append, Nat.sub_zero, Int.toNat_zero, List.length_replicate, Bool.true_or, Bool.or_true, Bool.false_or, Bool.or_false, false_implies, implies_true]
      · have := o4 i h
        have := hci i h
        simp (disch := omega) only [go_sem, this, Nat.reduceAdd, Nat.reduceSub, Nat.reduceMul, Nat.reduceLeDiff, Nat.reduceLT, Nat.reduceEqDiff, Int.reduceLT, Int.reduceLE, Int.reduceToNat, Int.reduceAdd, Int.reduceSub, Int.reduceMul, Int.reduceEq, Int.reduceNeg, reduceCtorEq, true_and, and_true, Int.toNat_natCast, List.getElem?_map, Option.map_some, List.length_map, List.length_take, List.length_drop, List.length_append, Nat.sub_zero, Int.toNat_zero, List.length_replicate, Bool.true_or, Bool.or_true, Bool.false_or, Bool.or_false, false_implies, implies_true]
      · simp (disch := omega) only [go_sem, hK, Nat.reduceAdd, Nat.reduceSub, Nat.reduceMul, Nat.reduceLeDiff, Nat.reduceLT, Nat.reduceEqDiff, Int.reduceLT, Int.reduceLE, Int.reduceToNat, Int.reduceAdd, Int.reduceSub, Int.reduceMul, Int.reduceEq, Int.reduceNeg, reduceCtorEq, true_and, and_true, Int.toNat_natCast, List.getElem?_map, Option.map_some, List.length_map, List.length_take, List.length_drop, List.length_append, Nat.sub_zero, Int.toNat_zero, List.length_replicate, Bool.true_or, Bool.or_true, Bool.false_or, Bool.or_false, false_implies, implies_true]
      · simp (disch := omega) only [go_sem, hFn, Nat.reduceAdd, Nat.reduceSub, Nat.reduceMul, Nat.reduceLeDiff, Nat.reduceLT, Nat.reduceEqDiff, Int.reduceLT, Int.reduceLE, Int.reduceToNat, Int.reduceAdd, Int.reduceSub, Int.reduceMul, Int.reduceEq, Int.reduceNeg, reduceCtorEq, true_and, and_true, Int.toNat_natCast, List.getElem?_map, Option.map_some, List.length_map, List.length_take, List.length_drop, List.length_append, Nat.sub_zero, Int.toNat_zero, List.length_replicate, Bool.true_or, Bool.or_true, Bool.false_or, Bool.or_false, false_implies, implies_true]
    | some q =>
      obtain ⟨hq, hqs⟩ := placeN_lt hpn
      have hqg : d.cache[node][q]? = some d.cache[node][q] := List.getElem?_eq_getElem hq
      rw [placeR, hpn] at hP
      (repeat' (first | with_reducible (first | refine agr_d (fun hc => ?_) fun hc => ?_ | refine agr_n (fun hc => ?_) fun hc => ?_ | refine acd_d (fun hc => ?_) fun hc => ?_ | refine acd_n (fun hc => ?_) fun hc => ?_ | refine dgr_d (fun hc => ?_) fun hc => ?_ | refine dgr_n (fun hc => ?_) fun hc => ?_ | refine dl_sound _ _ [] [] [] _ _ (fun _ h => absurd h List.not_mem_nil) ?_ | refine ac1_sc1 (sz := 2) (lk := 0) (.int _ _) ?_ ?_ hpl hP (.int _ _) ?_) | simp (disch := omega) only [go_sem, freshV, hk, hsg, q0, q1, q2, hS, hK, hFn, hC1, hcin, hcr, hqg, Nat.reduceAdd, Nat.reduceSub, Nat.reduceMul, Nat.reduceLeDiff, Nat.reduceLT, Nat.reduceEqDiff, Int.reduceLT, Int.reduceLE, Int.reduceToNat, Int.reduceAdd, Int.reduceSub, Int.reduceMul, Int.reduceEq, Int.reduceNeg, reduceCtorEq, true_and, and_true, Int.toNat_natCast, List.getElem?_map, Option.map_some, List.length_map, List.length_take, List.length_drop, List.length_append, Nat.sub_zero, Int.toNat_zero, List.length_replicate, Bool.true_or, Bool.or_true, Bool.false_or, Bool.or_false, false_implies, implies_true]))
      refine conEnd_f (.inl rfl) ?_
      simp (disch := omega) only [go_sem, hS, hK, hFn, hC1, hcin, Nat.reduceAdd, Nat.reduceSub, Nat.reduceMul, Nat.reduceLeDiff, Nat.reduceLT, Nat.reduceEqDiff, Int.reduceLT, Int.reduceLE, Int.reduceToNat, Int.reduceAdd, Int.reduceSub, Int.reduceMul, Int.reduceEq, Int.reduceNeg, reduceCtorEq, true_and, and_true, Int.toNat_natCast, List.getElem?_map, Option.map_some, List.length_map, List.length_take, List.length_drop, List.length_append, Nat.sub_zero, Int.toNat_zero, List.length_replicate, Bool.true_or, Bool.or_true, Bool.false_or, Bool.or_false, false_implies, implies_true]
      have hact : actD d node a = (d, d.cache[node][q].t) := by
        unfold actD
        dsimp only
        rw [if_pos hk, hcd, hpn]
        simp [List.getD_eq_getElem?_getD, hq]
      rw [hact]
      refine ⟨mny, _, fz_tup3 (fz_dev (d := d) rfl (fz_row (sz := 1) (lk := 0) ?_ (by simp) (by have := hd.s; omega) ((plain_tx _ _).2 trivial)) (fz_caches (lk := 0) (bc := bc) hd ?_ (fun i h => ?_)) (fz_row (sz := 1) (lk := 0) ?_ (by simp) (by have := hd.k; omega) ((plain_in _ _).2 trivial)) (fz_row (sz := 1) (lk := 0) ?_ (by simp) (by have := hd.f; omega) ((plain_in _ _).2 trivial))) (.plain _ (.str _)) (.plain _ (.int _ _)), rfl⟩
      · simp (disch := omega) only [go_sem, hS, Nat.reduceAdd, Nat.reduceSub, Nat.reduceMul, Nat.reduceLeDiff, Nat.reduceLT, Nat.reduceEqDiff, Int.reduceLT, Int.reduceLE, Int.reduceToNat, Int.reduceAdd, Int.reduceSub, Int.reduceMul, Int.reduceEq, Int.reduceNeg, reduceCtorEq, true_and, and_true, Int.toNat_natCast, List.getElem?_map, Option.map_some, List.length_map, List.length_take, List.length_drop, List.length_append, Nat.sub_zero, Int.toNat_zero, List.length_replicate, Bool.true_or, Bool.or_true, Bool.false_or, Bool.or_false, false_implies, implies_true]
      · simp (disch := omega) only [go_sem, hC1, Nat.reduceAdd, Nat.reduceSub, Nat.reduceMul, Nat.reduceLeDiff, Nat.reduceLT, Nat.reduceEqDiff, Int.reduceLT, Int.reduceLE, Int.reduceToNat, Int.reduceAdd, Int.reduceSub, Int.reduceMul, Int.reduceEq, Int.reduceNeg, reduceCtorEq, true_and, and_true, Int.toNat_natCast, List.getElem?_map, Option.map_some, List.length_map, List.length_take, List.length_drop, List.length_append, Nat.sub_zero, Int.toNat_zero, List.length_replicate, Bool.true_or, Bool.or_true, Bool.false_or, Bool.or_false, false_implies, implies_true]
      · have := o4 i h
        have := hci i h
        simp (disch := omega) only [go_sem, this, Nat.reduceAdd, Nat.reduceSub, Nat.reduceMul, Nat.reduceLeDiff, Nat.reduceLT, Nat.reduceEqDiff, Int.reduceLT, Int.reduceLE, Int.reduceToNat, Int.reduceAdd, Int.reduceSub, Int.reduceMul, Int.reduceEq, Int.reduceNeg, reduceCtorEq, true_and, and_true, Int.toNat_natCast, List.getElem?_map, Option.map_some, List.length_map, List.length_take, List.length_drop, List.length_append, Nat.sub_zero, Int.toNat_zero, List.length_replicate, Bool.true_or, Bool.or_true, Bool.false_or, Bool.or_false, false_implies, implies_true]
      · simp (disch := omega) only [go_sem, hK, Nat.reduceAdd, Nat.reduceSub, Nat.reduceMul, Nat.reduceLeDiff, Nat.reduceLT, Nat.reduceEqDiff, Int.reduceLT, Int.reduceLE, Int.reduceToNat, Int.reduceAdd, Int.reduceSub, Int.reduceMul, Int.reduceEq, Int.reduceNeg, reduceCtorEq, true_and, and_true, Int.toNat_natCast, List.getElem?_map, Option.map_some, List.length_map, List.length_take, List.length_drop, List.length_append, Nat.sub_zero, Int.toNat_zero, List.length_replicate, Bool.true_or, Bool.or_true, Bool.false_or, Bool.or_false, false_implies, implies_true]
      · simp (disch := omega) only [go_sem, hFn, Nat.reduceAdd, Nat.reduceSub, Nat.reduceMul, Nat.reduceLeDiff, Nat.reduceLT, Nat.reduceEqDiff, Int.reduceLT, Int.reduceLE, Int.reduceToNat, Int.reduceAdd, Int.reduceSub, Int.reduceMul, Int.reduceEq, Int.reduceNeg, reduceCtorEq, true_and, and_true, Int.toNat_natCast, List.getElem?_map, Option.map_some, List.length_map, List.length_take, List.length_drop, List.length_append, Nat.sub_zero, Int.toNat_zero, List.length_replicate, Bool.true_or, Bool.or_true, Bool.false_or, Bool.or_false, false_implies, implies_true]
end Go.Proofs.Ytllijcnbjbfabaa

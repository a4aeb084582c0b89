/- breakwaterref18.Cells, by the calculus. -/
import Derived.Test.YtllijcnbjbfabaaSettleStandsM29
namespace Go.Proofs.Ytllijcnbjbfabaa
open Go.RowKit
set_option linter.unusedSimpArgs false
set_option linter.unusedVariables false

theorem dataG_eq (g : Geo) (b k : Int) : dataG g b k = g.dataS b k := by
  unfold dataG Geo.dataS
  by_cases h : g.may = true ∧ (0 ≤ b ∧ b ≤ g.blocks - 1) ∧ 0 ≤ k ∧ k ≤ g.per - 1
  · rw [if_pos h, if_pos ⟨h.1, h.2.1.1, by omega, h.2.2.1, by omega⟩]
  · rw [if_neg h, if_neg (fun h' => h ⟨h'.1, ⟨h'.2.1, by omega⟩, h'.2.2.2.1, by omega⟩)]
theorem headG_eq (g : Geo) (i : Int) : headG g i = g.headS i := by
  unfold headG Geo.headS
  by_cases h : g.may = true ∧ 0 ≤ i ∧ i ≤ g.slots - 1
  · rw [if_pos h, if_pos ⟨h.1, h.2.1, by omega⟩]
  · rw [if_neg h, if_neg (fun h' => h ⟨h'.1, h'.2.1, by omega⟩)]
/-- a row of cells in a slot -/
def RowS (fr : Fr) (st : St) (t : Nat) (o : List Pr) : Prop := (o = [] ∧ ev fr (.tmp t) = .sl [] true) ∨ ∃ b, 1 ≤ b ∧ b < st.c ∧ ev fr (.tmp t) = .bs b 0 o.length o.length ∧ st.get b = some ⟨o.map prV, 2, 0⟩
theorem cellsL_take' (g : Geo) (l : List Pr) (j : Nat) (h : j < l.length) : cellsL g (l.take (j + 1)) = cellsL g (l.take j) ++ cellsOf g l[j] := by
  rw [List.take_succ_eq_append_getElem h, cellsL_snoc]
theorem cellsOf_take' (g : Geo) (x : Pr) (k : Nat) (h : k < g.per.toNat) : (cellsOf g x).take (k + 1) = (cellsOf g x).take k ++ [⟨g.dataS x.n (k : Int), pieceB x.t k⟩] := by
  have hl : k < (cellsOf g x).length := by rw [cellsOf_length]; exact h
  rw [List.take_succ_eq_append_getElem hl]
  congr 2
  simp [cellsOf]
theorem snoc_pr (o : List Pr) (n : Int) (t : ByteArray) : o.map prV ++ [[V.int .i64 n, V.str t]] = (o ++ [Pr.mk n t]).map prV := by rw [List.map_append]; rfl
set_option maxRecDepth 100000 in
set_option maxHeartbeats 16000000 in
theorem Cells18_con (g : Geo) (l : List Pr) (fl : Bool) (hl : l.length ≤ 100) (hmb : mayBk g l = true) : PCon Try.prog 15 [geoV g, .sl (l.map prV) fl] (.tup [.sl ((cellsL g l).map prV) false, .int .i64 0]) := by
  refine ⟨?_, by (simp only [List.nil_append, List.cons_append, List.append_nil, List.forall_mem_cons, List.not_mem_nil, false_implies, implies_true, and_true, true_and, plain_agg, plain_tup, plain_int, plain_bool, plain_str, plain_nilp, plain_nilfn, plain_undef, plain_dev, plain_pr, plain_tx, plain_in, plain_cc])⟩
  have hm := May18_con g l fl (by omega)
  rw [hmb] at hm
  obtain ⟨hb, hall⟩ := mayBk_all hmb
  obtain ⟨h1, h2, h3, h4, h5, h6, h7, h8, h9, h10, h11, h12, h13, h14, h15⟩ := Geo.may_ok hb
  obtain ⟨p, hp⟩ : ∃ p : Nat, g.per = p := ⟨g.per.toNat, by omega⟩
  have hpn : g.per.toNat = p := by omega
  refine con_of_awp Try.func15 rfl mixed (by decide) rfl (by kernel_rfl) rfl ?_
  (repeat' (first | with_reducible refine agr_d (fun hc => ?_) (fun hc => ?_) | with_reducible refine agr_n (fun hc => ?_) (fun hc => ?_) | with_reducible refine acd_d (fun hc => ?_) (fun hc => ?_) | with_reducible refine acd_n (fun hc => ?_) (fun hc => ?_) | with_reducible refine dgr_d (fun hc => ?_) (fun hc => ?_) | with_reducible refine dgr_n (fun hc => ?_) (fun hc => ?_) | with_reducible refine dl_sound _ _ [] [] [] _ _ (fun _ h => absurd h List.not_mem_nil) ?_ | with_reducible refine dc1_p hm ?_ | with_reducible refine ac1_p hm ?_ | simp (disch := omega) only [go_sem, geoV, Nat.reduceAdd, Nat.reduceSub, Nat.reduceMul, Nat.reduceLeDiff, Nat.reduceLT, Nat.reduceEqDiff, Int.reduceLT, Int.reduceLE, Int.reduceToNat, Int.reduceAdd, Int.reduceSub, Int.reduceMul, Int.reduceEq, Int.reduceNeg, reduceCtorEq, true_and, and_true, Int.toNat_natCast, List.getElem?_map, Option.map_some, List.length_map, List.length_take, List.length_drop, List.length_append, Nat.sub_zero, Int.toNat_zero, List.length_replicate, Bool.true_or, Bool.or_true, Bool.false_or, Bool.or_false, false_implies, implies_true]))
  refine awp_for l.length (fun j fr st => ev fr (.tmp 1) = .sl (l.map prV) fl ∧ ev fr (.tmp 2) = .ptr 0 0 0 ∧ ev fr (.tmp 7) = .int .i64 j ∧ 1 ≤ st.c ∧ st.get 0 = some (geoB g) ∧ RowS fr st 6 (cellsL g (l.take j))) ?_ ?_
  · refine ⟨?_, ?_, ?_, ?_, ?_, .inl ⟨rfl, ?_⟩⟩ <;> simp (disch := omega) only [go_sem, Nat.reduceAdd, Nat.reduceSub, Nat.reduceMul, Nat.reduceLeDiff, Nat.reduceLT, Nat.reduceEqDiff, Int.reduceLT, Int.reduceLE, Int.reduceToNat, Int.reduceAdd, Int.reduceSub, Int.reduceMul, Int.reduceEq, Int.reduceNeg, reduceCtorEq, true_and, and_true, Int.toNat_natCast, List.getElem?_map, Option.map_some, List.length_map, List.length_take, List.length_drop, List.length_append, Nat.sub_zero, Int.toNat_zero, List.length_replicate, Bool.true_or, Bool.or_true, Bool.false_or, Bool.or_false, false_implies, implies_true] <;> rfl
  rintro j fr st hj ⟨t1, t2, t7, hc1, hgb, hrow⟩
  by_cases hlt : j < l.length
  · have hg : l[j]? = some l[j] := List.getElem?_eq_getElem hlt
    obtain ⟨hx1, hx2, hx3⟩ := hall _ (List.getElem_mem hlt)
    have hP := Pieces18_con g hb l[j].t hx3
    have hpcl : (piecesL g.per l[j].t).length = p := by rw [piecesL_length, hpn]
    have hol : (cellsL g (l.take j)).length ≤ 800 := by
      rw [cellsL_length, hpn, List.length_take, Nat.min_eq_left (by omega)]
      have : j * p ≤ 100 * 8 := Nat.mul_le_mul (by omega) (by omega)
      omega
    generalize ho : cellsL g (l.take j) = o at hrow hol
    (repeat' (first | with_reducible refine agr_d (fun hc => ?_) (fun hc => ?_) | with_reducible refine agr_n (fun hc => ?_) (fun hc => ?_) | with_reducible refine acd_d (fun hc => ?_) (fun hc => ?_) | with_reducible refine acd_n (fun hc => ?_) (fun hc => ?_) | with_reducible refine dgr_d (fun hc => ?_) (fun hc => ?_) | with_reducible refine dgr_n (fun hc => ?_) (fun hc => ?_) | with_reducible refine dl_sound _ _ [] [] [] _ _ (fun _ h => absurd h List.not_mem_nil) ?_ | with_reducible refine dc1_p hP ?_ | with_reducible refine ac1_p hP ?_ | simp (disch := omega) only [go_sem, t1, t2, t7, hg, hgb, geoB, Nat.reduceAdd, Nat.reduceSub, Nat.reduceMul, Nat.reduceLeDiff, Nat.reduceLT, Nat.reduceEqDiff, Int.reduceLT, Int.reduceLE, Int.reduceToNat, Int.reduceAdd, Int.reduceSub, Int.reduceMul, Int.reduceEq, Int.reduceNeg, reduceCtorEq, true_and, and_true, Int.toNat_natCast, List.getElem?_map, Option.map_some, List.length_map, List.length_take, List.length_drop, List.length_append, Nat.sub_zero, Int.toNat_zero, List.length_replicate, Bool.true_or, Bool.or_true, Bool.false_or, Bool.or_false, false_implies, implies_true]))
    refine awp_for p (fun k fr st => ev fr (.tmp 1) = .sl (l.map prV) fl ∧ ev fr (.tmp 2) = .ptr 0 0 0 ∧ ev fr (.tmp 7) = .int .i64 j ∧ ev fr (.tmp 8) = .sl ((piecesL g.per l[j].t).map txV) false ∧ ev fr (.tmp 10) = .int .i64 k ∧ 1 ≤ st.c ∧ st.get 0 = some (geoB g) ∧ RowS fr st 6 (o ++ (cellsOf g l[j]).take k)) ?_ ?_
    · refine ⟨?_, ?_, ?_, ?_, ?_, ?_, ?_, ?_⟩
      · simp (disch := omega) only [go_sem, t1, Nat.reduceAdd, Nat.reduceSub, Nat.reduceMul, Nat.reduceLeDiff, Nat.reduceLT, Nat.reduceEqDiff, Int.reduceLT, Int.reduceLE, Int.reduceToNat, Int.reduceAdd, Int.reduceSub, Int.reduceMul, Int.reduceEq, Int.reduceNeg, reduceCtorEq, true_and, and_true, Int.toNat_natCast, List.getElem?_map, Option.map_some, List.length_map, List.length_take, List.length_drop, List.length_append, Nat.sub_zero, Int.toNat_zero, List.length_replicate, Bool.true_or, Bool.or_true, Bool.false_or, Bool.or_false, false_implies, implies_true]
      · simp (disch := omega) only [go_sem, t2, Nat.reduceAdd, Nat.reduceSub, Nat.reduceMul, Nat.reduceLeDiff, Nat.reduceLT, Nat.reduceEqDiff, Int.reduceLT, Int.reduceLE, Int.reduceToNat, Int.reduceAdd, Int.reduceSub, Int.reduceMul, Int.reduceEq, Int.reduceNeg, reduceCtorEq, true_and, and_true, Int.toNat_natCast, List.getElem?_map, Option.map_some, List.length_map, List.length_take, List.length_drop, List.length_append, Nat.sub_zero, Int.toNat_zero, List.length_replicate, Bool.true_or, Bool.or_true, Bool.false_or, Bool.or_false, false_implies, implies_true]
      · simp (disch := omega) only [go_sem, t7, Nat.reduceAdd, Nat.reduceSub, Nat.reduceMul, Nat.reduceLeDiff, Nat.reduceLT, Nat.reduceEqDiff, Int.reduceLT, Int.reduceLE, Int.reduceToNat, Int.reduceAdd, Int.reduceSub, Int.reduceMul, Int.reduceEq, Int.reduceNeg, reduceCtorEq, true_and, and_true, Int.toNat_natCast, List.getElem?_map, Option.map_some, List.length_map, List.length_take, List.length_drop, List.length_append, Nat.sub_zero, Int.toNat_zero, List.length_replicate, Bool.true_or, Bool.or_true, Bool.false_or, Bool.or_false, false_implies, implies_true]
      · simp (disch := omega) only [go_sem, Nat.reduceAdd, Nat.reduceSub, Nat.reduceMul, Nat.reduceLeDiff, Nat.reduceLT, Nat.reduceEqDiff, Int.reduceLT, Int.reduceLE, Int.reduceToNat, Int.reduceAdd, Int.reduceSub, Int.reduceMul, Int.reduceEq, Int.reduceNeg, reduceCtorEq, true_and, and_true, Int.toNat_natCast, List.getElem?_map, Option.map_some, List.length_map, List.length_take, List.length_drop, List.length_append, Nat.sub_zero, Int.toNat_zero, List.length_replicate, Bool.true_or, Bool.or_true, Bool.false_or, Bool.or_false, false_implies, implies_true]
      · simp (disch := omega) only [go_sem, Nat.reduceAdd, Nat.reduceSub, Nat.reduceMul, Nat.reduceLeDiff, Nat.reduceLT, Nat.reduceEqDiff, Int.reduceLT, Int.reduceLE, Int.reduceToNat, Int.reduceAdd, Int.reduceSub, Int.reduceMul, Int.reduceEq, Int.reduceNeg, reduceCtorEq, true_and, and_true, Int.toNat_natCast, List.getElem?_map, Option.map_some, List.length_map, List.length_take, List.length_drop, List.length_append, Nat.sub_zero, Int.toNat_zero, List.length_replicate, Bool.true_or, Bool.or_true, Bool.false_or, Bool.or_false, false_implies, implies_true] <;> rfl
      · simp (disch := omega) only [go_sem, List.size_toArray, Nat.reduceAdd, Nat.reduceSub, Nat.reduceMul, Nat.reduceLeDiff, Nat.reduceLT, Nat.reduceEqDiff, Int.reduceLT, Int.reduceLE, Int.reduceToNat, Int.reduceAdd, Int.reduceSub, Int.reduceMul, Int.reduceEq, Int.reduceNeg, reduceCtorEq, true_and, and_true, Int.toNat_natCast, List.getElem?_map, Option.map_some, List.length_map, List.length_take, List.length_drop, List.length_append, Nat.sub_zero, Int.toNat_zero, List.length_replicate, Bool.true_or, Bool.or_true, Bool.false_or, Bool.or_false, false_implies, implies_true] <;> omega
      · simp (disch := omega) only [go_sem, hgb, Nat.reduceAdd, Nat.reduceSub, Nat.reduceMul, Nat.reduceLeDiff, Nat.reduceLT, Nat.reduceEqDiff, Int.reduceLT, Int.reduceLE, Int.reduceToNat, Int.reduceAdd, Int.reduceSub, Int.reduceMul, Int.reduceEq, Int.reduceNeg, reduceCtorEq, true_and, and_true, Int.toNat_natCast, List.getElem?_map, Option.map_some, List.length_map, List.length_take, List.length_drop, List.length_append, Nat.sub_zero, Int.toNat_zero, List.length_replicate, Bool.true_or, Bool.or_true, Bool.false_or, Bool.or_false, false_implies, implies_true]
      rw [List.take_zero, List.append_nil]
      rcases hrow with ⟨h0, t6⟩ | ⟨b, hb1, hb2, t6, hbk⟩
      · exact .inl ⟨h0, by simp (disch := omega) only [go_sem, t6, Nat.reduceAdd, Nat.reduceSub, Nat.reduceMul, Nat.reduceLeDiff, Nat.reduceLT, Nat.reduceEqDiff, Int.reduceLT, Int.reduceLE, Int.reduceToNat, Int.reduceAdd, Int.reduceSub, Int.reduceMul, Int.reduceEq, Int.reduceNeg, reduceCtorEq, true_and, and_true, Int.toNat_natCast, List.getElem?_map, Option.map_some, List.length_map, List.length_take, List.length_drop, List.length_append, Nat.sub_zero, Int.toNat_zero, List.length_replicate, Bool.true_or, Bool.or_true, Bool.false_or, Bool.or_false, false_implies, implies_true]⟩
      · exact .inr ⟨b, hb1, by simp (disch := omega) only [go_sem, List.size_toArray, Nat.reduceAdd, Nat.reduceSub, Nat.reduceMul, Nat.reduceLeDiff, Nat.reduceLT, Nat.reduceEqDiff, Int.reduceLT, Int.reduceLE, Int.reduceToNat, Int.reduceAdd, Int.reduceSub, Int.reduceMul, Int.reduceEq, Int.reduceNeg, reduceCtorEq, true_and, and_true, Int.toNat_natCast, List.getElem?_map, Option.map_some, List.length_map, List.length_take, List.length_drop, List.length_append, Nat.sub_zero, Int.toNat_zero, List.length_replicate, Bool.true_or, Bool.or_true, Bool.false_or, Bool.or_false, false_implies, implies_true] <;> omega, by simp (disch := omega) only [go_sem, t6, Nat.reduceAdd, Nat.reduceSub, Nat.reduceMul, Nat.reduceLeDiff, Nat.reduceLT, Nat.reduceEqDiff, Int.reduceLT, Int.reduceLE, Int.reduceToNat, Int.reduceAdd, Int.reduceSub, Int.reduceMul, Int.reduceEq, Int.reduceNeg, reduceCtorEq, true_and, and_true, Int.toNat_natCast, List.getElem?_map, Option.map_some, List.length_map, List.length_take, List.length_drop, List.length_append, Nat.sub_zero, Int.toNat_zero, List.length_replicate, Bool.true_or, Bool.or_true, Bool.false_or, Bool.or_false, false_implies, implies_true], hbk⟩
    clear t1 t2 t7 hc1 hgb hrow
    rintro k fr st hk ⟨t1, t2, t7, t8, t10, hc1, hgb, hrow⟩
    by_cases hkt : k < p
    · have hpk : (piecesL g.per l[j].t)[k]? = some (pieceB l[j].t k) := by simp [piecesL, hpn, hkt]
      have hD := Data4_con g l[j].n k
      rw [dataG_eq] at hD
      have htk := cellsOf_take' g l[j] k (by omega)
      have hol2 : (o ++ (cellsOf g l[j]).take k).length ≤ 900 := by simp; omega
      have hnx : o ++ (cellsOf g l[j]).take (k + 1) = (o ++ (cellsOf g l[j]).take k) ++ [⟨g.dataS l[j].n (k : Int), pieceB l[j].t k⟩] := by rw [htk, List.append_assoc]
      generalize o ++ (cellsOf g l[j]).take k = o2 at hrow hol2 hnx
      rcases hrow with ⟨rfl, t6⟩ | ⟨b, hb1, hb2, t6, hbk⟩
      · (repeat' (first | with_reducible refine agr_d (fun hc => ?_) (fun hc => ?_) | with_reducible refine agr_n (fun hc => ?_) (fun hc => ?_) | with_reducible refine acd_d (fun hc => ?_) (fun hc => ?_) | with_reducible refine acd_n (fun hc => ?_) (fun hc => ?_) | with_reducible refine dgr_d (fun hc => ?_) (fun hc => ?_) | with_reducible refine dgr_n (fun hc => ?_) (fun hc => ?_) | with_reducible refine dl_sound _ _ [] [] [] _ _ (fun _ h => absurd h List.not_mem_nil) ?_ | with_reducible refine dc1_p hD ?_ | with_reducible refine ac1_p hD ?_ | simp (disch := omega) only [go_sem, t1, t2, t7, t8, t10, t6, hg, hgb, hpk, hpcl, List.size_toArray, geoB, Nat.reduceAdd, Nat.reduceSub, Nat.reduceMul, Nat.reduceLeDiff, Nat.reduceLT, Nat.reduceEqDiff, Int.reduceLT, Int.reduceLE, Int.reduceToNat, Int.reduceAdd, Int.reduceSub, Int.reduceMul, Int.reduceEq, Int.reduceNeg, reduceCtorEq, true_and, and_true, Int.toNat_natCast, List.getElem?_map, Option.map_some, List.length_map, List.length_take, List.length_drop, List.length_append, Nat.sub_zero, Int.toNat_zero, List.length_replicate, Bool.true_or, Bool.or_true, Bool.false_or, Bool.or_false, false_implies, implies_true]))
        refine ⟨k + 1, by omega, by omega, rfl, ?_⟩
        rw [hnx]
        refine .inr ⟨st.c + 15, by omega, ?_, ?_, ?_⟩
        · simp (disch := omega) only [go_sem, Nat.reduceAdd, Nat.reduceSub, Nat.reduceMul, Nat.reduceLeDiff, Nat.reduceLT, Nat.reduceEqDiff, Int.reduceLT, Int.reduceLE, Int.reduceToNat, Int.reduceAdd, Int.reduceSub, Int.reduceMul, Int.reduceEq, Int.reduceNeg, reduceCtorEq, true_and, and_true, Int.toNat_natCast, List.getElem?_map, Option.map_some, List.length_map, List.length_take, List.length_drop, List.length_append, Nat.sub_zero, Int.toNat_zero, List.length_replicate, Bool.true_or, Bool.or_true, Bool.false_or, Bool.or_false, false_implies, implies_true] <;> omega
        · simp (disch := omega) only [go_sem, Nat.reduceAdd, Nat.reduceSub, Nat.reduceMul, Nat.reduceLeDiff, Nat.reduceLT, Nat.reduceEqDiff, Int.reduceLT, Int.reduceLE, Int.reduceToNat, Int.reduceAdd, Int.reduceSub, Int.reduceMul, Int.reduceEq, Int.reduceNeg, reduceCtorEq, true_and, and_true, Int.toNat_natCast, List.getElem?_map, Option.map_some, List.length_map, List.length_take, List.length_drop, List.length_append, Nat.sub_zero, Int.toNat_zero, List.length_replicate, Bool.true_or, Bool.or_true, Bool.false_or, Bool.or_false, false_implies, implies_true] <;> rfl
        · simp (disch := omega) only [go_sem, Nat.reduceAdd, Nat.reduceSub, Nat.reduceMul, Nat.reduceLeDiff, Nat.reduceLT, Nat.reduceEqDiff, Int.reduceLT, Int.reduceLE, Int.reduceToNat, Int.reduceAdd, Int.reduceSub, Int.reduceMul, Int.reduceEq, Int.reduceNeg, reduceCtorEq, true_and, and_true, Int.toNat_natCast, List.getElem?_map, Option.map_some, List.length_map, List.length_take, List.length_drop, List.length_append, Nat.sub_zero, Int.toNat_zero, List.length_replicate, Bool.true_or, Bool.or_true, Bool.false_or, Bool.or_false, false_implies, implies_true] <;> rfl
      · (repeat' (first | with_reducible refine agr_d (fun hc => ?_) (fun hc => ?_) | with_reducible refine agr_n (fun hc => ?_) (fun hc => ?_) | with_reducible refine acd_d (fun hc => ?_) (fun hc => ?_) | with_reducible refine acd_n (fun hc => ?_) (fun hc => ?_) | with_reducible refine dgr_d (fun hc => ?_) (fun hc => ?_) | with_reducible refine dgr_n (fun hc => ?_) (fun hc => ?_) | with_reducible refine dl_sound _ _ [] [] [] _ _ (fun _ h => absurd h List.not_mem_nil) ?_ | with_reducible refine dc1_p hD ?_ | with_reducible refine ac1_p hD ?_ | simp (disch := omega) only [go_sem, t1, t2, t7, t8, t10, t6, hg, hgb, hbk, hpk, hpcl, snoc_pr, List.size_toArray, geoB, Nat.reduceAdd, Nat.reduceSub, Nat.reduceMul, Nat.reduceLeDiff, Nat.reduceLT, Nat.reduceEqDiff, Int.reduceLT, Int.reduceLE, Int.reduceToNat, Int.reduceAdd, Int.reduceSub, Int.reduceMul, Int.reduceEq, Int.reduceNeg, reduceCtorEq, true_and, and_true, Int.toNat_natCast, List.getElem?_map, Option.map_some, List.length_map, List.length_take, List.length_drop, List.length_append, Nat.sub_zero, Int.toNat_zero, List.length_replicate, Bool.true_or, Bool.or_true, Bool.false_or, Bool.or_false, false_implies, implies_true]))
        refine ⟨k + 1, by omega, by omega, rfl, ?_⟩
        rw [hnx]
        refine .inr ⟨st.c + 15, by omega, ?_, ?_, ?_⟩
        · simp (disch := omega) only [go_sem, Nat.reduceAdd, Nat.reduceSub, Nat.reduceMul, Nat.reduceLeDiff, Nat.reduceLT, Nat.reduceEqDiff, Int.reduceLT, Int.reduceLE, Int.reduceToNat, Int.reduceAdd, Int.reduceSub, Int.reduceMul, Int.reduceEq, Int.reduceNeg, reduceCtorEq, true_and, and_true, Int.toNat_natCast, List.getElem?_map, Option.map_some, List.length_map, List.length_take, List.length_drop, List.length_append, Nat.sub_zero, Int.toNat_zero, List.length_replicate, Bool.true_or, Bool.or_true, Bool.false_or, Bool.or_false, false_implies, implies_true] <;> omega
        · simp (disch := omega) only [go_sem, Nat.reduceAdd, Nat.reduceSub, Nat.reduceMul, Nat.reduceLeDiff, Nat.reduceLT, Nat.reduceEqDiff, Int.reduceLT, Int.reduceLE, Int.reduceToNat, Int.reduceAdd, Int.reduceSub, Int.reduceMul, Int.reduceEq, Int.reduceNeg, reduceCtorEq, true_and, and_true, Int.toNat_natCast, List.getElem?_map, Option.map_some, List.length_map, List.length_take, List.length_drop, List.length_append, Nat.sub_zero, Int.toNat_zero, List.length_replicate, Bool.true_or, Bool.or_true, Bool.false_or, Bool.or_false, false_implies, implies_true] <;> rfl
        · simp (disch := omega) only [go_sem, Nat.reduceAdd, Nat.reduceSub, Nat.reduceMul, Nat.reduceLeDiff, Nat.reduceLT, Nat.reduceEqDiff, Int.reduceLT, Int.reduceLE, Int.reduceToNat, Int.reduceAdd, Int.reduceSub, Int.reduceMul, Int.reduceEq, Int.reduceNeg, reduceCtorEq, true_and, and_true, Int.toNat_natCast, List.getElem?_map, Option.map_some, List.length_map, List.length_take, List.length_drop, List.length_append, Nat.sub_zero, Int.toNat_zero, List.length_replicate, Bool.true_or, Bool.or_true, Bool.false_or, Bool.or_false, false_implies, implies_true] <;> rfl
    · obtain rfl : k = p := by omega
      have hfin : o ++ (cellsOf g l[j]).take k = cellsL g (l.take (j + 1)) := by
        rw [List.take_of_length_le (by rw [cellsOf_length]; omega), ← ho, cellsL_take' g l j hlt]
      rw [hfin] at hrow
      (repeat' (first | with_reducible refine agr_d (fun hc => ?_) (fun hc => ?_) | with_reducible refine agr_n (fun hc => ?_) (fun hc => ?_) | with_reducible refine acd_d (fun hc => ?_) (fun hc => ?_) | with_reducible refine acd_n (fun hc => ?_) (fun hc => ?_) | with_reducible refine dgr_d (fun hc => ?_) (fun hc => ?_) | with_reducible refine dgr_n (fun hc => ?_) (fun hc => ?_) | with_reducible refine dl_sound _ _ [] [] [] _ _ (fun _ h => absurd h List.not_mem_nil) ?_ | simp (disch := omega) only [go_sem, t1, t2, t7, t8, t10, hgb, hpcl, geoB, Nat.reduceAdd, Nat.reduceSub, Nat.reduceMul, Nat.reduceLeDiff, Nat.reduceLT, Nat.reduceEqDiff, Int.reduceLT, Int.reduceLE, Int.reduceToNat, Int.reduceAdd, Int.reduceSub, Int.reduceMul, Int.reduceEq, Int.reduceNeg, reduceCtorEq, true_and, and_true, Int.toNat_natCast, List.getElem?_map, Option.map_some, List.length_map, List.length_take, List.length_drop, List.length_append, Nat.sub_zero, Int.toNat_zero, List.length_replicate, Bool.true_or, Bool.or_true, Bool.false_or, Bool.or_false, false_implies, implies_true]))
      refine ⟨j + 1, by omega, by omega, rfl, hc1, ?_⟩
      rcases hrow with ⟨h0, t6⟩ | ⟨b, hb1, hb2, t6, hbk⟩
      · exact .inl ⟨h0, by simp (disch := omega) only [go_sem, t6, Nat.reduceAdd, Nat.reduceSub, Nat.reduceMul, Nat.reduceLeDiff, Nat.reduceLT, Nat.reduceEqDiff, Int.reduceLT, Int.reduceLE, Int.reduceToNat, Int.reduceAdd, Int.reduceSub, Int.reduceMul, Int.reduceEq, Int.reduceNeg, reduceCtorEq, true_and, and_true, Int.toNat_natCast, List.getElem?_map, Option.map_some, List.length_map, List.length_take, List.length_drop, List.length_append, Nat.sub_zero, Int.toNat_zero, List.length_replicate, Bool.true_or, Bool.or_true, Bool.false_or, Bool.or_false, false_implies, implies_true]⟩
      · exact .inr ⟨b, hb1, hb2, by simp (disch := omega) only [go_sem, t6, Nat.reduceAdd, Nat.reduceSub, Nat.reduceMul, Nat.reduceLeDiff, Nat.reduceLT, Nat.reduceEqDiff, Int.reduceLT, Int.reduceLE, Int.reduceToNat, Int.reduceAdd, Int.reduceSub, Int.reduceMul, Int.reduceEq, Int.reduceNeg, reduceCtorEq, true_and, and_true, Int.toNat_natCast, List.getElem?_map, Option.map_some, List.length_map, List.length_take, List.length_drop, List.length_append, Nat.sub_zero, Int.toNat_zero, List.length_replicate, Bool.true_or, Bool.or_true, Bool.false_or, Bool.or_false, false_implies, implies_true], hbk⟩
  · obtain rfl : j = l.length := by omega
    rw [List.take_length] at hrow
    rcases hrow with ⟨h0, t6⟩ | ⟨b, hb1, hb2, t6, hbk⟩
    · (repeat' (first | with_reducible refine agr_d (fun hc => ?_) (fun hc => ?_) | with_reducible refine agr_n (fun hc => ?_) (fun hc => ?_) | with_reducible refine acd_d (fun hc => ?_) (fun hc => ?_) | with_reducible refine acd_n (fun hc => ?_) (fun hc => ?_) | with_reducible refine dgr_d (fun hc => ?_) (fun hc => ?_) | with_reducible refine dgr_n (fun hc => ?_) (fun hc => ?_) | with_reducible refine dl_sound _ _ [] [] [] _ _ (fun _ h => absurd h List.not_mem_nil) ?_ | simp (disch := omega) only [go_sem, t1, t2, t7, t6, hgb, geoB, Nat.reduceAdd, Nat.reduceSub, Nat.reduceMul, Nat.reduceLeDiff, Nat.reduceLT, Nat.reduceEqDiff, Int.reduceLT, Int.reduceLE, Int.reduceToNat, Int.reduceAdd, Int.reduceSub, Int.reduceMul, Int.reduceEq, Int.reduceNeg, reduceCtorEq, true_and, and_true, Int.toNat_natCast, List.getElem?_map, Option.map_some, List.length_map, List.length_take, List.length_drop, List.length_append, Nat.sub_zero, Int.toNat_zero, List.length_replicate, Bool.true_or, Bool.or_true, Bool.false_or, Bool.or_false, false_implies, implies_true]))
      refine conEnd_f (.inl rfl) ?_
      simp (disch := omega) only [go_sem, Nat.reduceAdd, Nat.reduceSub, Nat.reduceMul, Nat.reduceLeDiff, Nat.reduceLT, Nat.reduceEqDiff, Int.reduceLT, Int.reduceLE, Int.reduceToNat, Int.reduceAdd, Int.reduceSub, Int.reduceMul, Int.reduceEq, Int.reduceNeg, reduceCtorEq, true_and, and_true, Int.toNat_natCast, List.getElem?_map, Option.map_some, List.length_map, List.length_take, List.length_drop, List.length_append, Nat.sub_zero, Int.toNat_zero, List.length_replicate, Bool.true_or, Bool.or_true, Bool.false_or, Bool.or_false, false_implies, implies_true]
      exact ⟨mny, _, fz_tup2 (.weak [] true (.sl _ _ (by simp))) (.plain _ (.int _ _)), by rw [h0]; rfl⟩
    · have hcl : (cellsL g l).length ≤ 2000000 := by
        rw [cellsL_length, hpn]
        have : l.length * p ≤ 100 * 8 := Nat.mul_le_mul (by omega) (by omega)
        omega
      (repeat' (first | with_reducible refine agr_d (fun hc => ?_) (fun hc => ?_) | with_reducible refine agr_n (fun hc => ?_) (fun hc => ?_) | with_reducible refine acd_d (fun hc => ?_) (fun hc => ?_) | with_reducible refine acd_n (fun hc => ?_) (fun hc => ?_) | with_reducible refine dgr_d (fun hc => ?_) (fun hc => ?_) | with_reducible refine dgr_n (fun hc => ?_) (fun hc => ?_) | with_reducible refine dl_sound _ _ [] [] [] _ _ (fun _ h => absurd h List.not_mem_nil) ?_ | simp (disch := omega) only [go_sem, t1, t2, t7, t6, hgb, hbk, geoB, Nat.reduceAdd, Nat.reduceSub, Nat.reduceMul, Nat.reduceLeDiff, Nat.reduceLT, Nat.reduceEqDiff, Int.reduceLT, Int.reduceLE, Int.reduceToNat, Int.reduceAdd, Int.reduceSub, Int.reduceMul, Int.reduceEq, Int.reduceNeg, reduceCtorEq, true_and, and_true, Int.toNat_natCast, List.getElem?_map, Option.map_some, List.length_map, List.length_take, List.length_drop, List.length_append, Nat.sub_zero, Int.toNat_zero, List.length_replicate, Bool.true_or, Bool.or_true, Bool.false_or, Bool.or_false, false_implies, implies_true]))
      refine conEnd_f (.inl rfl) ?_
      simp (disch := omega) only [go_sem, hbk, Nat.reduceAdd, Nat.reduceSub, Nat.reduceMul, Nat.reduceLeDiff, Nat.reduceLT, Nat.reduceEqDiff, Int.reduceLT, Int.reduceLE, Int.reduceToNat, Int.reduceAdd, Int.reduceSub, Int.reduceMul, Int.reduceEq, Int.reduceNeg, reduceCtorEq, true_and, and_true, Int.toNat_natCast, List.getElem?_map, Option.map_some, List.length_map, List.length_take, List.length_drop, List.length_append, Nat.sub_zero, Int.toNat_zero, List.length_replicate, Bool.true_or, Bool.or_true, Bool.false_or, Bool.or_false, false_implies, implies_true]
      exact ⟨mny, _, fz_tup2 (fz_row hbk (by simp) hcl ((plain_pr _ _).2 trivial)) (.plain _ (.int _ _)), rfl⟩
end Go.Proofs.Ytllijcnbjbfabaa

namespace Go.Proofs.Ytllijcnbjbfabaa
open Go.RowKit
set_option linter.unusedSimpArgs false
set_option linter.unusedVariables false

theorem totalG_eq {g : Geo} (h : g.OK) : totalG g = g.total := by
  unfold totalG
  rw [if_pos (Geo.ok_may h), dataG_eq, dataS_of h (by have := h.b1; omega) (by omega) (by have := h.p1; omega) (by omega)]
  have e : (g.blocks - 1) * g.per = g.blocks * g.per - g.per := by rw [Int.sub_mul, Int.one_mul]
  unfold Geo.atD Geo.total
  omega
theorem heads_zero (g : Geo) (top hd : ByteArray) (n : Nat) (h : g.total.toNat = n) : (List.replicate n [V.str ⟨#[]⟩]).set 0 [V.str top] = (heads g top hd 0).map txV := by
  simp only [heads, List.map_set, List.map_replicate, h]
  rfl
set_option maxRecDepth 100000 in
set_option maxHeartbeats 16000000 in
theorem Format5_con (g : Geo) (hb : g.may = true) : ∃ top hd : ByteArray, top.size ≤ 512 ∧ hd.size ≤ 512 ∧ PCon Try.prog 10 [geoV g] (.tup [.sl ((heads g top hd g.slots.toNat).map txV) false, .int .i64 0]) := by
  have hok := Geo.may_ok hb
  obtain ⟨xb, hxb, hxl⟩ := bytes_ok hok
  obtain ⟨xh, hxh, hhl⟩ := head_make (n := 0) (by omega) (by omega)
  refine ⟨mkS xb, mkS xh, by rw [mkS_size]; exact hxl, by rw [mkS_size]; exact hhl, ?_, by (simp only [List.nil_append, List.cons_append, List.append_nil, List.forall_mem_cons, List.not_mem_nil, false_implies, implies_true, and_true, true_and, plain_agg, plain_tup, plain_int, plain_bool, plain_str, plain_nilp, plain_nilfn, plain_undef, plain_dev, plain_pr, plain_tx, plain_in, plain_cc])⟩
  have hB : PCon Try.prog 34 [geoV g] (.tup [.str (mkS xb), .int .i64 0]) := by
    have := Bytes5_con g hb
    rw [hxb] at this
    exact this
  have hH : PCon Try.prog 17 [.int .i64 0] (.tup [.str (mkS xh), .int .i64 0]) := by
    have := Head5_con 0
    rw [hxh] at this
    exact this
  have hT := Total4_con g
  rw [totalG_eq hok] at hT
  have hTb := total_bd hok
  have hat := hok.sj
  obtain ⟨h1, h2, h3, h4, h5, h6, h7, h8, h9, h10, h11, h12, h13, h14, h15⟩ := hok
  have hok := Geo.may_ok hb
  have hT0 : 0 < g.total := by unfold Geo.atD at hTb; omega
  obtain ⟨n, hn⟩ : ∃ n : Nat, g.total = n := ⟨g.total.toNat, by omega⟩
  have hnn : g.total.toNat = n := by omega
  obtain ⟨s, hs⟩ : ∃ s : Nat, g.slots = s := ⟨g.slots.toNat, by omega⟩
  have hss : g.slots.toNat = s := by omega
  have h0n : 0 < n := by omega
  rw [hn] at hT
  rw [hss]
  have hr0 : (List.replicate n [V.str ⟨#[]⟩])[0]? = some [V.str ⟨#[]⟩] := by rw [List.getElem?_replicate, if_pos (by omega)]
  have hz := heads_zero g (mkS xb) (mkS xh) n hnn
  generalize mkS xb = top at *
  generalize mkS xh = hd at *
  refine con_of_awp Try.func10 rfl mixed (by decide) rfl (by kernel_rfl) rfl ?_
  (repeat' (first | with_reducible refine agr_d (fun hc => ?_) (fun hc => ?_) | with_reducible refine agr_n (fun hc => ?_) (fun hc => ?_) | with_reducible refine acd_d (fun hc => ?_) (fun hc => ?_) | with_reducible refine acd_n (fun hc => ?_) (fun hc => ?_) | with_reducible refine dgr_d (fun hc => ?_) (fun hc => ?_) | with_reducible refine dgr_n (fun hc => ?_) (fun hc => ?_) | with_reducible refine dl_sound _ _ [] [] [] _ _ (fun _ h => absurd h List.not_mem_nil) ?_ | with_reducible refine dc1_p hB ?_ | with_reducible refine ac1_p hB ?_ | with_reducible refine dc1_p hH ?_ | with_reducible refine ac1_p hH ?_ | with_reducible refine dc1_p hT ?_ | with_reducible refine ac1_p hT ?_ | simp (disch := omega) only [go_sem, geoV, hr0, hz, Int.toNat_natCast, Nat.reduceAdd, Nat.reduceSub, Nat.reduceMul, Nat.reduceLeDiff, Nat.reduceLT, Nat.reduceEqDiff, Int.reduceLT, Int.reduceLE, Int.reduceToNat, Int.reduceAdd, Int.reduceSub, Int.reduceMul, Int.reduceEq, Int.reduceNeg, reduceCtorEq, true_and, and_true, Int.toNat_natCast, List.getElem?_map, Option.map_some, List.length_map, List.length_take, List.length_drop, List.length_append, Nat.sub_zero, Int.toNat_zero, List.length_replicate, Bool.true_or, Bool.or_true, Bool.false_or, Bool.or_false, false_implies, implies_true]))
  refine awp_for s (fun j fr st => ev fr (.tmp 1) = .ptr 0 0 0 ∧ ev fr (.tmp 6) = .str hd ∧ ev fr (.tmp 9) = .int .i64 j ∧ 1 ≤ st.c ∧ st.get 0 = some (geoB g) ∧ ev fr (.tmp 8) = .bs 1 0 n n ∧ st.get 1 = some ⟨(heads g top hd j).map txV, 1, 0⟩) ?_ ?_
  · refine ⟨?_, ?_, ?_, ?_, ?_, ?_, ?_⟩
    all_goals first | (simp (disch := omega) only [go_sem, hz, Nat.reduceAdd, Nat.reduceSub, Nat.reduceMul, Nat.reduceLeDiff, Nat.reduceLT, Nat.reduceEqDiff, Int.reduceLT, Int.reduceLE, Int.reduceToNat, Int.reduceAdd, Int.reduceSub, Int.reduceMul, Int.reduceEq, Int.reduceNeg, reduceCtorEq, true_and, and_true, Int.toNat_natCast, List.getElem?_map, Option.map_some, List.length_map, List.length_take, List.length_drop, List.length_append, Nat.sub_zero, Int.toNat_zero, List.length_replicate, Bool.true_or, Bool.or_true, Bool.false_or, Bool.or_false, false_implies, implies_true]; done) | (simp (disch := omega) only [go_sem, hz, Nat.reduceAdd, Nat.reduceSub, Nat.reduceMul, Nat.reduceLeDiff, Nat.reduceLT, Nat.reduceEqDiff, Int.reduceLT, Int.reduceLE, Int.reduceToNat, Int.reduceAdd, Int.reduceSub, Int.reduceMul, Int.reduceEq, Int.reduceNeg, reduceCtorEq, true_and, and_true, Int.toNat_natCast, List.getElem?_map, Option.map_some, List.length_map, List.length_take, List.length_drop, List.length_append, Nat.sub_zero, Int.toNat_zero, List.length_replicate, Bool.true_or, Bool.or_true, Bool.false_or, Bool.or_false, false_implies, implies_true] <;> rfl) | skip
  rintro j fr st hj ⟨t1, t6, t9, hc1, hgb, t8, hbk⟩
  by_cases hlt : j < s
  · have hHd := Head4_con g j
    rw [headG_eq] at hHd
    have hin := headS_in hok (i := (j : Int)) (by omega) (by omega)
    have hl := heads_len g top hd j
    rw [hnn] at hl
    obtain ⟨y, hy⟩ : ∃ y, (heads g top hd j)[(g.headS j).toNat]? = some y := ⟨_, List.getElem?_eq_getElem (by rw [hl]; omega)⟩
    have hset : ((heads g top hd j).map txV).set (g.headS j).toNat [.str hd] = (heads g top hd (j + 1)).map txV := by
      simp only [heads, List.map_set]; rfl
    (repeat' (first | with_reducible refine agr_d (fun hc => ?_) (fun hc => ?_) | with_reducible refine agr_n (fun hc => ?_) (fun hc => ?_) | with_reducible refine acd_d (fun hc => ?_) (fun hc => ?_) | with_reducible refine acd_n (fun hc => ?_) (fun hc => ?_) | with_reducible refine dgr_d (fun hc => ?_) (fun hc => ?_) | with_reducible refine dgr_n (fun hc => ?_) (fun hc => ?_) | with_reducible refine dl_sound _ _ [] [] [] _ _ (fun _ h => absurd h List.not_mem_nil) ?_ | with_reducible refine dc1_p hHd ?_ | with_reducible refine ac1_p hHd ?_ | simp (disch := omega) only [go_sem, t1, t6, t9, t8, hgb, hbk, hy, hl, hset, geoB, Nat.reduceAdd, Nat.reduceSub, Nat.reduceMul, Nat.reduceLeDiff, Nat.reduceLT, Nat.reduceEqDiff, Int.reduceLT, Int.reduceLE, Int.reduceToNat, Int.reduceAdd, Int.reduceSub, Int.reduceMul, Int.reduceEq, Int.reduceNeg, reduceCtorEq, true_and, and_true, Int.toNat_natCast, List.getElem?_map, Option.map_some, List.length_map, List.length_take, List.length_drop, List.length_append, Nat.sub_zero, Int.toNat_zero, List.length_replicate, Bool.true_or, Bool.or_true, Bool.false_or, Bool.or_false, false_implies, implies_true]))
    exact ⟨j + 1, by omega, by omega, rfl, rfl⟩
  · obtain rfl : j = s := by omega
    have hl := heads_len g top hd j
    rw [hnn] at hl
    (repeat' (first | with_reducible refine agr_d (fun hc => ?_) (fun hc => ?_) | with_reducible refine agr_n (fun hc => ?_) (fun hc => ?_) | with_reducible refine acd_d (fun hc => ?_) (fun hc => ?_) | with_reducible refine acd_n (fun hc => ?_) (fun hc => ?_) | with_reducible refine dgr_d (fun hc => ?_) (fun hc => ?_) | with_reducible refine dgr_n (fun hc => ?_) (fun hc => ?_) | with_reducible refine dl_sound _ _ [] [] [] _ _ (fun _ h => absurd h List.not_mem_nil) ?_ | simp (disch := omega) only [go_sem, t1, t6, t9, t8, hgb, hbk, geoB, Nat.reduceAdd, Nat.reduceSub, Nat.reduceMul, Nat.reduceLeDiff, Nat.reduceLT, Nat.reduceEqDiff, Int.reduceLT, Int.reduceLE, Int.reduceToNat, Int.reduceAdd, Int.reduceSub, Int.reduceMul, Int.reduceEq, Int.reduceNeg, reduceCtorEq, true_and, and_true, Int.toNat_natCast, List.getElem?_map, Option.map_some, List.length_map, List.length_take, List.length_drop, List.length_append, Nat.sub_zero, Int.toNat_zero, List.length_replicate, Bool.true_or, Bool.or_true, Bool.false_or, Bool.or_false, false_implies, implies_true]))
    refine conEnd_f (.inl rfl) ?_
    simp (disch := omega) only [go_sem, hbk, Nat.reduceAdd, Nat.reduceSub, Nat.reduceMul, Nat.reduceLeDiff, Nat.reduceLT, Nat.reduceEqDiff, Int.reduceLT, Int.reduceLE, Int.reduceToNat, Int.reduceAdd, Int.reduceSub, Int.reduceMul, Int.reduceEq, Int.reduceNeg, reduceCtorEq, true_and, and_true, Int.toNat_natCast, List.getElem?_map, Option.map_some, List.length_map, List.length_take, List.length_drop, List.length_append, Nat.sub_zero, Int.toNat_zero, List.length_replicate, Bool.true_or, Bool.or_true, Bool.false_or, Bool.or_false, false_implies, implies_true]
    exact ⟨mny, _, fz_tup2 (fz_row hbk (by simp [hl]) (by omega) ((plain_tx _ _).2 trivial)) (.plain _ (.int _ _)), rfl⟩
end Go.Proofs.Ytllijcnbjbfabaa

namespace Go.Proofs.Ytllijcnbjbfabaa
open Go.RowKit
set_option linter.unusedSimpArgs false
set_option linter.unusedVariables false

theorem set_same {α : Type} {l : List α} {i : Nat} {x : α} (h : l[i]? = some x) : l.set i x = l := by
  obtain ⟨hi, rfl⟩ := List.getElem?_eq_some_iff.1 h
  exact List.set_getElem_self hi
set_option maxRecDepth 100000 in
set_option maxHeartbeats 32000000 in
theorem Do_3 (d : Dev) (hd : DevOk d) (hm : MayD d) (node : Nat) (hn : node < d.keys.length) (a : Ac) (ha : AcOk a) (hk : a.k = 3) : Con Try.prog 12 [devV d, .int .i64 node, acV a] (· = doV (doR d node a)) := by
  have hA := notA hm hn (by omega) (by omega : a.k ≤ 6)
  have hs1 := ha.s
  have hkr := ha.key
  have hcn : node < d.cache.length := by rw [hm.c]; exact hn
  have hkg : d.keys[node]? = some d.keys[node] := List.getElem?_eq_getElem hn
  have hkd : d.keys.getD node 0 = d.keys[node] := by rw [List.getD_eq_getElem?_getD, hkg]; rfl
  have hcd : d.cache.getD node [] = d.cache[node] := by rw [List.getD_eq_getElem?_getD, List.getElem?_eq_getElem hcn]; rfl
  have hc : PCon Try.prog 36 [devV d] (.int .i64 0) := ⟨by have := Check_con d hd; rw [show chk d = 0 by unfold chk; rw [(checkB_iff d).2 hm]; rfl] at this; exact this, by (simp only [List.nil_append, List.cons_append, List.append_nil, List.forall_mem_cons, List.not_mem_nil, false_implies, implies_true, and_true, true_and, plain_agg, plain_tup, plain_int, plain_bool, plain_str, plain_nilp, plain_nilfn, plain_undef, plain_dev, plain_pr, plain_tx, plain_in, plain_cc])⟩
  have hF : Con Try.prog 38 [devV d, .sl [[.int .i64 d.keys[node]]] false] (· = .bool (fencedB d [d.keys[node]])) := Fenced_con _ _ _ _ d false false [d.keys[node]] (by have := hd.f; omega) (by simp)
  have hpd : Plain (devV d) := (plain_dev d).2 trivial
  have hpk : Plain (.sl [[.int .i64 d.keys[node]]] false) := (plain_in [d.keys[node]] false).2 trivial
  have hcl := hd.ci node hcn
  have hgc := given_c d a.key (by omega)
  refine con_of_awp Try.func12 rfl mixed (by decide) rfl (by kernel_rfl) rfl ?_
  by_cases gb : 512 < a.b.size
  · rw [refuse_b hA (.inl ⟨by omega, gb⟩)]
    (repeat' (first | with_reducible refine agr_d (fun hc => ?_) (fun hc => ?_) | with_reducible refine agr_n (fun hc => ?_) (fun hc => ?_) | with_reducible refine acd_d (fun hc => ?_) (fun hc => ?_) | with_reducible refine acd_n (fun hc => ?_) (fun hc => ?_) | with_reducible refine dgr_d (fun hc => ?_) (fun hc => ?_) | with_reducible refine dgr_n (fun hc => ?_) (fun hc => ?_) | with_reducible refine dl_sound _ _ [] [] [] _ _ (fun _ h => absurd h List.not_mem_nil) ?_ | with_reducible refine conEnd_p (.inl rfl) ?_ | with_reducible refine conEnd_p (.inr rfl) ?_ | with_reducible refine dc1_p hc ?_ | with_reducible refine ac1_p hc ?_ | with_reducible refine dc1_p hgc ?_ | with_reducible refine ac1_p hgc ?_ | with_reducible refine dc1_sc2 (sz := 1) (lk := 0) hpd ?_ ?_ hpk hF (.bool _) ?_ | simp (disch := omega) only [go_sem, devV, doV, hk, hkg, Nat.reduceAdd, Nat.reduceSub, Nat.reduceMul, Nat.reduceLeDiff, Nat.reduceLT, Nat.reduceEqDiff, Int.reduceLT, Int.reduceLE, Int.reduceToNat, Int.reduceAdd, Int.reduceSub, Int.reduceMul, Int.reduceEq, Int.reduceNeg, reduceCtorEq, true_and, and_true, Int.toNat_natCast, List.getElem?_map, Option.map_some, List.length_map, List.length_take, List.length_drop, List.length_append, Nat.sub_zero, Int.toNat_zero, List.length_replicate, Bool.true_or, Bool.or_true, Bool.false_or, Bool.or_false, false_implies, implies_true]))
  have hB : ¬ refB d a := by rintro (⟨_, h⟩ | ⟨h, _⟩ | ⟨h, _⟩) <;> omega
  have hCd : refC d node a ↔ fencedB d [d.keys[node]] = true := by
    unfold refC
    rw [Int.toNat_natCast, hkd]
    exact ⟨fun h => h.2, fun h => ⟨by omega, h⟩⟩
  cases hfb : fencedB d [d.keys[node]] with
  | true =>
    rw [hfb] at hF
    rw [refuse_c hA hB (hCd.2 hfb)]
    (repeat' (first | with_reducible refine agr_d (fun hc => ?_) (fun hc => ?_) | with_reducible refine agr_n (fun hc => ?_) (fun hc => ?_) | with_reducible refine acd_d (fun hc => ?_) (fun hc => ?_) | with_reducible refine acd_n (fun hc => ?_) (fun hc => ?_) | with_reducible refine dgr_d (fun hc => ?_) (fun hc => ?_) | with_reducible refine dgr_n (fun hc => ?_) (fun hc => ?_) | with_reducible refine dl_sound _ _ [] [] [] _ _ (fun _ h => absurd h List.not_mem_nil) ?_ | with_reducible refine conEnd_p (.inl rfl) ?_ | with_reducible refine conEnd_p (.inr rfl) ?_ | with_reducible refine dc1_p hc ?_ | with_reducible refine ac1_p hc ?_ | with_reducible refine dc1_p hgc ?_ | with_reducible refine ac1_p hgc ?_ | with_reducible refine dc1_sc2 (sz := 1) (lk := 0) hpd ?_ ?_ hpk hF (.bool _) ?_ | simp (disch := omega) only [go_sem, devV, doV, hk, hkg, Nat.reduceAdd, Nat.reduceSub, Nat.reduceMul, Nat.reduceLeDiff, Nat.reduceLT, Nat.reduceEqDiff, Int.reduceLT, Int.reduceLE, Int.reduceToNat, Int.reduceAdd, Int.reduceSub, Int.reduceMul, Int.reduceEq, Int.reduceNeg, reduceCtorEq, true_and, and_true, Int.toNat_natCast, List.getElem?_map, Option.map_some, List.length_map, List.length_take, List.length_drop, List.length_append, Nat.sub_zero, Int.toNat_zero, List.length_replicate, Bool.true_or, Bool.or_true, Bool.false_or, Bool.or_false, false_implies, implies_true]))
  | false =>
  rw [hfb] at hF
  have hC : ¬ refC d node a := by rw [hCd, hfb]; simp
  have hDd : refD d a ↔ (a.s < 0 ∨ (d.s.length : Int) ≤ a.s) := ⟨fun h => h.2, fun h => ⟨by omega, h⟩⟩
  by_cases g1 : a.s < 0
  · rw [refuse_d hA hB hC (hDd.2 (.inl g1))]
    (repeat' (first | with_reducible refine agr_d (fun hc => ?_) (fun hc => ?_) | with_reducible refine agr_n (fun hc => ?_) (fun hc => ?_) | with_reducible refine acd_d (fun hc => ?_) (fun hc => ?_) | with_reducible refine acd_n (fun hc => ?_) (fun hc => ?_) | with_reducible refine dgr_d (fun hc => ?_) (fun hc => ?_) | with_reducible refine dgr_n (fun hc => ?_) (fun hc => ?_) | with_reducible refine dl_sound _ _ [] [] [] _ _ (fun _ h => absurd h List.not_mem_nil) ?_ | with_reducible refine conEnd_p (.inl rfl) ?_ | with_reducible refine conEnd_p (.inr rfl) ?_ | with_reducible refine dc1_p hc ?_ | with_reducible refine ac1_p hc ?_ | with_reducible refine dc1_p hgc ?_ | with_reducible refine ac1_p hgc ?_ | with_reducible refine dc1_sc2 (sz := 1) (lk := 0) hpd ?_ ?_ hpk hF (.bool _) ?_ | simp (disch := omega) only [go_sem, devV, doV, hk, hkg, Nat.reduceAdd, Nat.reduceSub, Nat.reduceMul, Nat.reduceLeDiff, Nat.reduceLT, Nat.reduceEqDiff, Int.reduceLT, Int.reduceLE, Int.reduceToNat, Int.reduceAdd, Int.reduceSub, Int.reduceMul, Int.reduceEq, Int.reduceNeg, reduceCtorEq, true_and, and_true, Int.toNat_natCast, List.getElem?_map, Option.map_some, List.length_map, List.length_take, List.length_drop, List.length_append, Nat.sub_zero, Int.toNat_zero, List.length_replicate, Bool.true_or, Bool.or_true, Bool.false_or, Bool.or_false, false_implies, implies_true]))
  by_cases g2 : (d.s.length : Int) ≤ a.s
  · rw [refuse_d hA hB hC (hDd.2 (.inr g2))]
    (repeat' (first | with_reducible refine agr_d (fun hc => ?_) (fun hc => ?_) | with_reducible refine agr_n (fun hc => ?_) (fun hc => ?_) | with_reducible refine acd_d (fun hc => ?_) (fun hc => ?_) | with_reducible refine acd_n (fun hc => ?_) (fun hc => ?_) | with_reducible refine dgr_d (fun hc => ?_) (fun hc => ?_) | with_reducible refine dgr_n (fun hc => ?_) (fun hc => ?_) | with_reducible refine dl_sound _ _ [] [] [] _ _ (fun _ h => absurd h List.not_mem_nil) ?_ | with_reducible refine conEnd_p (.inl rfl) ?_ | with_reducible refine conEnd_p (.inr rfl) ?_ | with_reducible refine dc1_p hc ?_ | with_reducible refine ac1_p hc ?_ | with_reducible refine dc1_p hgc ?_ | with_reducible refine ac1_p hgc ?_ | with_reducible refine dc1_sc2 (sz := 1) (lk := 0) hpd ?_ ?_ hpk hF (.bool _) ?_ | simp (disch := omega) only [go_sem, devV, doV, hk, hkg, Nat.reduceAdd, Nat.reduceSub, Nat.reduceMul, Nat.reduceLeDiff, Nat.reduceLT, Nat.reduceEqDiff, Int.reduceLT, Int.reduceLE, Int.reduceToNat, Int.reduceAdd, Int.reduceSub, Int.reduceMul, Int.reduceEq, Int.reduceNeg, reduceCtorEq, true_and, and_true, Int.toNat_natCast, List.getElem?_map, Option.map_some, List.length_map, List.length_take, List.length_drop, List.length_append, Nat.sub_zero, Int.toNat_zero, List.length_replicate, Bool.true_or, Bool.or_true, Bool.false_or, Bool.or_false, false_implies, implies_true]))
  have hD : ¬ refD d a := by rw [hDd]; omega
  have hsl : a.s.toNat < d.s.length := by omega
  have hsg : d.s[a.s.toNat]? = some d.s[a.s.toNat] := List.getElem?_eq_getElem hsl
  rw [do_ok hA hB hC hD]
  (repeat' (first | with_reducible refine agr_d (fun hc => ?_) (fun hc => ?_) | with_reducible refine agr_n (fun hc => ?_) (fun hc => ?_) | with_reducible refine acd_d (fun hc => ?_) (fun hc => ?_) | with_reducible refine acd_n (fun hc => ?_) (fun hc => ?_) | with_reducible refine dgr_d (fun hc => ?_) (fun hc => ?_) | with_reducible refine dgr_n (fun hc => ?_) (fun hc => ?_) | with_reducible refine dl_sound _ _ [] [] [] _ _ (fun _ h => absurd h List.not_mem_nil) ?_ | with_reducible refine dc1_p hc ?_ | with_reducible refine ac1_p hc ?_ | with_reducible refine dc1_p hgc ?_ | with_reducible refine ac1_p hgc ?_ | with_reducible refine dc1_sc2 (sz := 1) (lk := 0) hpd ?_ ?_ hpk hF (.bool _) ?_ | simp (disch := omega) only [go_sem, devV, doV, hk, hkg, Nat.reduceAdd, Nat.reduceSub, Nat.reduceMul, Nat.reduceLeDiff, Nat.reduceLT, Nat.reduceEqDiff, Int.reduceLT, Int.reduceLE, Int.reduceToNat, Int.reduceAdd, Int.reduceSub, Int.reduceMul, Int.reduceEq, Int.reduceNeg, reduceCtorEq, true_and, and_true, Int.toNat_natCast, List.getElem?_map, Option.map_some, List.length_map, List.length_take, List.length_drop, List.length_append, Nat.sub_zero, Int.toNat_zero, List.length_replicate, Bool.true_or, Bool.or_true, Bool.false_or, Bool.or_false, false_implies, implies_true]))
  refine ac1_i (copied_con d hd (by omega) _) ?_
  rintro _ ⟨g, c⟩ ⟨bS, bK, bF, bC, bc, rfl, HF, hold⟩
  obtain ⟨o1, o2, o3, o4, o5, o6, o7, hS, hK, hFn, hC1, hci⟩ := HF
  have o4n := o4 node hcn
  have hcin := hci node hcn
  have hcr := cRows_at (bc := bc) hcn
  dsimp only at o1 o7 hS hK hFn hC1 hci hold hcin
  have o1' : 3 ≤ bS := Nat.le_trans (by simp) o1
  have q0 : g 0 = some (devB d) := (hold 0 (by simp)).trans (by simp (disch := omega) only [go_sem, Nat.reduceAdd, Nat.reduceSub, Nat.reduceMul, Nat.reduceLeDiff, Nat.reduceLT, Nat.reduceEqDiff, Int.reduceLT, Int.reduceLE, Int.reduceToNat, Int.reduceAdd, Int.reduceSub, Int.reduceMul, Int.reduceEq, Int.reduceNeg, reduceCtorEq, true_and, and_true, Int.toNat_natCast, List.getElem?_map, Option.map_some, List.length_map, List.length_take, List.length_drop, List.length_append, Nat.sub_zero, Int.toNat_zero, List.length_replicate, Bool.true_or, Bool.or_true, Bool.false_or, Bool.or_false, false_implies, implies_true] <;> rfl)
  have q1 : g 1 = some ⟨[[.int .i8 3, .int .i64 a.s, .str a.b, .int .i64 a.key]], 4, 0⟩ := (hold 1 (by simp)).trans (by simp (disch := omega) only [go_sem, hk, Nat.reduceAdd, Nat.reduceSub, Nat.reduceMul, Nat.reduceLeDiff, Nat.reduceLT, Nat.reduceEqDiff, Int.reduceLT, Int.reduceLE, Int.reduceToNat, Int.reduceAdd, Int.reduceSub, Int.reduceMul, Int.reduceEq, Int.reduceNeg, reduceCtorEq, true_and, and_true, Int.toNat_natCast, List.getElem?_map, Option.map_some, List.length_map, List.length_take, List.length_drop, List.length_append, Nat.sub_zero, Int.toNat_zero, List.length_replicate, Bool.true_or, Bool.or_true, Bool.false_or, Bool.or_false, false_implies, implies_true] <;> rfl)
  have q2 : g 2 = some ⟨[[.sl [] true, .sl [] true, .sl [] true, .int .i64 0, .sl [] true]], 5, 0⟩ := (hold 2 (by simp)).trans (by simp (disch := omega) only [go_sem, Nat.reduceAdd, Nat.reduceSub, Nat.reduceMul, Nat.reduceLeDiff, Nat.reduceLT, Nat.reduceEqDiff, Int.reduceLT, Int.reduceLE, Int.reduceToNat, Int.reduceAdd, Int.reduceSub, Int.reduceMul, Int.reduceEq, Int.reduceNeg, reduceCtorEq, true_and, and_true, Int.toNat_natCast, List.getElem?_map, Option.map_some, List.length_map, List.length_take, List.length_drop, List.length_append, Nat.sub_zero, Int.toNat_zero, List.length_replicate, Bool.true_or, Bool.or_true, Bool.false_or, Bool.or_false, false_implies, implies_true] <;> rfl)
  clear hold o1
  have hP := place_con d.cache[node] false a.s (by omega)
  have hpl : Plain (.sl (d.cache[node].map prV) false) := (plain_pr _ _).2 trivial
  cases hpn : placeN d.cache[node] a.s with
  | none =>
    rw [placeR, hpn] at hP
    have hap : d.cache[node].map prV ++ [[V.int .i64 a.s, V.str a.b]] = (d.cache[node] ++ [(⟨a.s, a.b⟩ : Pr)]).map prV := by simp [prV]
    (repeat' (first | with_reducible refine agr_d (fun hc => ?_) (fun hc => ?_) | with_reducible refine agr_n (fun hc => ?_) (fun hc => ?_) | with_reducible refine acd_d (fun hc => ?_) (fun hc => ?_) | with_reducible refine acd_n (fun hc => ?_) (fun hc => ?_) | with_reducible refine dgr_d (fun hc => ?_) (fun hc => ?_) | with_reducible refine dgr_n (fun hc => ?_) (fun hc => ?_) | with_reducible refine dl_sound _ _ [] [] [] _ _ (fun _ h => absurd h List.not_mem_nil) ?_ | with_reducible refine ac1_sc1 (sz := 2) (lk := 0) (.int _ _) ?_ ?_ hpl hP (.int _ _) ?_ | simp (disch := omega) only [go_sem, freshV, hk, hsg, q0, q1, q2, hS, hK, hFn, hC1, hcin, hcr, hap, cRows_len, Nat.reduceAdd, Nat.reduceSub, Nat.reduceMul, Nat.reduceLeDiff, Nat.reduceLT, Nat.reduceEqDiff, Int.reduceLT, Int.reduceLE, Int.reduceToNat, Int.reduceAdd, Int.reduceSub, Int.reduceMul, Int.reduceEq, Int.reduceNeg, reduceCtorEq, true_and, and_true, Int.toNat_natCast, List.getElem?_map, Option.map_some, List.length_map, List.length_take, List.length_drop, List.length_append, Nat.sub_zero, Int.toNat_zero, List.length_replicate, Bool.true_or, Bool.or_true, Bool.false_or, Bool.or_false, false_implies, implies_true]))
    refine conEnd_f (.inl rfl) ?_
    simp (disch := omega) only [go_sem, hS, hK, hFn, hC1, hcin, hap, Nat.reduceAdd, Nat.reduceSub, Nat.reduceMul, Nat.reduceLeDiff, Nat.reduceLT, Nat.reduceEqDiff, Int.reduceLT, Int.reduceLE, Int.reduceToNat, Int.reduceAdd, Int.reduceSub, Int.reduceMul, Int.reduceEq, Int.reduceNeg, reduceCtorEq, true_and, and_true, Int.toNat_natCast, List.getElem?_map, Option.map_some, List.length_map, List.length_take, List.length_drop, List.length_append, Nat.sub_zero, Int.toNat_zero, List.length_replicate, Bool.true_or, Bool.or_true, Bool.false_or, Bool.or_false, false_implies, implies_true]
    have hact : actD d node a = ({ d with cache := d.cache.set node (d.cache[node] ++ [(⟨a.s, a.b⟩ : Pr)]) }, ⟨#[]⟩) := by
      unfold actD
      dsimp only
      rw [if_neg (by omega), if_neg (by omega), if_pos hk, hcd, hpn]
    rw [hact]
    refine ⟨mny, _, fz_tup3 (fz_dev (d := { d with cache := d.cache.set node (d.cache[node] ++ [(⟨a.s, a.b⟩ : Pr)]) }) rfl (fz_row (sz := 1) (lk := 0) (es := d.s.map txV) ?_ (by simp) (by have := hd.s; omega) ((plain_tx _ _).2 trivial)) (fz_caches1 (lk := 0) (bc := bc) hd hcn ?_ (fun i h hne => ?_) (fz_row (b := c + 1 + 1 + 10) (n := d.cache[node].length + 1) (cap := d.cache[node].length + 1) (sz := 2) (lk := 0) (es := (d.cache[node] ++ [(⟨a.s, a.b⟩ : Pr)]).map prV) ?_ (by simp) (by omega) ((plain_pr _ _).2 trivial))) (fz_row (sz := 1) (lk := 0) (es := d.keys.map inV) ?_ (by simp) (by have := hd.k; omega) ((plain_in _ _).2 trivial)) (fz_row (sz := 1) (lk := 0) (es := d.fen.map inV) ?_ (by simp) (by have := hd.f; omega) ((plain_in _ _).2 trivial))) (.plain _ (.str _)) (.plain _ (.int _ _)), rfl⟩
    all_goals first | (simp (disch := omega) only [go_sem, hS, hK, hFn, hC1, hcin, hap, Nat.reduceAdd, Nat.reduceSub, Nat.reduceMul, Nat.reduceLeDiff, Nat.reduceLT, Nat.reduceEqDiff, Int.reduceLT, Int.reduceLE, Int.reduceToNat, Int.reduceAdd, Int.reduceSub, Int.reduceMul, Int.reduceEq, Int.reduceNeg, reduceCtorEq, true_and, and_true, Int.toNat_natCast, List.getElem?_map, Option.map_some, List.length_map, List.length_take, List.length_drop, List.length_append, Nat.sub_zero, Int.toNat_zero, List.length_replicate, Bool.true_or, Bool.or_true, Bool.false_or, Bool.or_false, false_implies, implies_true]; done) | (have := o4 i h; have := hci i h; simp (disch := omega) only [go_sem, this, Nat.reduceAdd, Nat.reduceSub, Nat.reduceMul, Nat.reduceLeDiff, Nat.reduceLT, Nat.reduceEqDiff, Int.reduceLT, Int.reduceLE, Int.reduceToNat, Int.reduceAdd, Int.reduceSub, Int.reduceMul, Int.reduceEq, Int.reduceNeg, reduceCtorEq, true_and, and_true, Int.toNat_natCast, List.getElem?_map, Option.map_some, List.length_map, List.length_take, List.length_drop, List.length_append, Nat.sub_zero, Int.toNat_zero, List.length_replicate, Bool.true_or, Bool.or_true, Bool.false_or, Bool.or_false, false_implies, implies_true]; done) | (have := o4 i h; have := hci i h; have : bc i ≠ bc node := (by rcases Nat.lt_or_gt_of_ne hne with h1 | h1 <;> first | exact Nat.ne_of_lt (o5 _ _ h1 hcn) | exact Nat.ne_of_gt (o5 _ _ h1 h)); simp (disch := omega) only [go_sem, hci i h, Nat.reduceAdd, Nat.reduceSub, Nat.reduceMul, Nat.reduceLeDiff, Nat.reduceLT, Nat.reduceEqDiff, Int.reduceLT, Int.reduceLE, Int.reduceToNat, Int.reduceAdd, Int.reduceSub, Int.reduceMul, Int.reduceEq, Int.reduceNeg, reduceCtorEq, true_and, and_true, Int.toNat_natCast, List.getElem?_map, Option.map_some, List.length_map, List.length_take, List.length_drop, List.length_append, Nat.sub_zero, Int.toNat_zero, List.length_replicate, Bool.true_or, Bool.or_true, Bool.false_or, Bool.or_false, false_implies, implies_true]; done) | skip
  | some q =>
    obtain ⟨hq, hqs⟩ := placeN_lt hpn
    have hqg : d.cache[node][q]? = some d.cache[node][q] := List.getElem?_eq_getElem hq
    rw [placeR, hpn] at hP
    have hset : (d.cache[node].map prV).set q [V.int .i64 d.cache[node][q].n, V.str a.b] = (d.cache[node].set q (⟨a.s, a.b⟩ : Pr)).map prV := by rw [List.map_set, hqs]; rfl
    have hself : (cRows d bc d.cache.length).set node [V.bs (bc node) 0 d.cache[node].length d.cache[node].length] = cRows d bc d.cache.length := set_same hcr
    (repeat' (first | with_reducible refine agr_d (fun hc => ?_) (fun hc => ?_) | with_reducible refine agr_n (fun hc => ?_) (fun hc => ?_) | with_reducible refine acd_d (fun hc => ?_) (fun hc => ?_) | with_reducible refine acd_n (fun hc => ?_) (fun hc => ?_) | with_reducible refine dgr_d (fun hc => ?_) (fun hc => ?_) | with_reducible refine dgr_n (fun hc => ?_) (fun hc => ?_) | with_reducible refine dl_sound _ _ [] [] [] _ _ (fun _ h => absurd h List.not_mem_nil) ?_ | with_reducible refine ac1_sc1 (sz := 2) (lk := 0) (.int _ _) ?_ ?_ hpl hP (.int _ _) ?_ | simp (disch := omega) only [go_sem, freshV, hk, hsg, q0, q1, q2, hS, hK, hFn, hC1, hcin, hcr, hset, hqg, cRows_len, Nat.reduceAdd, Nat.reduceSub, Nat.reduceMul, Nat.reduceLeDiff, Nat.reduceLT, Nat.reduceEqDiff, Int.reduceLT, Int.reduceLE, Int.reduceToNat, Int.reduceAdd, Int.reduceSub, Int.reduceMul, Int.reduceEq, Int.reduceNeg, reduceCtorEq, true_and, and_true, Int.toNat_natCast, List.getElem?_map, Option.map_some, List.length_map, List.length_take, List.length_drop, List.length_append, Nat.sub_zero, Int.toNat_zero, List.length_replicate, Bool.true_or, Bool.or_true, Bool.false_or, Bool.or_false, false_implies, implies_true]))
    refine conEnd_f (.inl rfl) ?_
    simp (disch := omega) only [go_sem, hS, hK, hFn, hC1, hcin, hset, hself, Nat.reduceAdd, Nat.reduceSub, Nat.reduceMul, Nat.reduceLeDiff, Nat.reduceLT, Nat.reduceEqDiff, Int.reduceLT, Int.reduceLE, Int.reduceToNat, Int.reduceAdd, Int.reduceSub, Int.reduceMul, Int.reduceEq, Int.reduceNeg, reduceCtorEq, true_and, and_true, Int.toNat_natCast, List.getElem?_map, Option.map_some, List.length_map, List.length_take, List.length_drop, List.length_append, Nat.sub_zero, Int.toNat_zero, List.length_replicate, Bool.true_or, Bool.or_true, Bool.false_or, Bool.or_false, false_implies, implies_true]
    have hact : actD d node a = ({ d with cache := d.cache.set node (d.cache[node].set q (⟨a.s, a.b⟩ : Pr)) }, ⟨#[]⟩) := by
      unfold actD
      dsimp only
      rw [if_neg (by omega), if_neg (by omega), if_pos hk, hcd, hpn]
    rw [hact]
    refine ⟨mny, _, fz_tup3 (fz_dev (d := { d with cache := d.cache.set node (d.cache[node].set q (⟨a.s, a.b⟩ : Pr)) }) rfl (fz_row (sz := 1) (lk := 0) (es := d.s.map txV) ?_ (by simp) (by have := hd.s; omega) ((plain_tx _ _).2 trivial)) (fz_caches1 (lk := 0) (bc := bc) hd hcn ?_ (fun i h hne => ?_) (fz_row (n := d.cache[node].length) (cap := d.cache[node].length) (b := bc node) (sz := 2) (lk := 0) (es := (d.cache[node].set q (⟨a.s, a.b⟩ : Pr)).map prV) ?_ (by simp) (by omega) ((plain_pr _ _).2 trivial))) (fz_row (sz := 1) (lk := 0) (es := d.keys.map inV) ?_ (by simp) (by have := hd.k; omega) ((plain_in _ _).2 trivial)) (fz_row (sz := 1) (lk := 0) (es := d.fen.map inV) ?_ (by simp) (by have := hd.f; omega) ((plain_in _ _).2 trivial))) (.plain _ (.str _)) (.plain _ (.int _ _)), rfl⟩
    all_goals first | (simp (disch := omega) only [go_sem, hS, hK, hFn, hC1, hcin, hset, hself, Nat.reduceAdd, Nat.reduceSub, Nat.reduceMul, Nat.reduceLeDiff, Nat.reduceLT, Nat.reduceEqDiff, Int.reduceLT, Int.reduceLE, Int.reduceToNat, Int.reduceAdd, Int.reduceSub, Int.reduceMul, Int.reduceEq, Int.reduceNeg, reduceCtorEq, true_and, and_true, Int.toNat_natCast, List.getElem?_map, Option.map_some, List.length_map, List.length_take, List.length_drop, List.length_append, Nat.sub_zero, Int.toNat_zero, List.length_replicate, Bool.true_or, Bool.or_true, Bool.false_or, Bool.or_false, false_implies, implies_true]; done) | (have := o4 i h; have := hci i h; simp (disch := omega) only [go_sem, this, Nat.reduceAdd, Nat.reduceSub, Nat.reduceMul, Nat.reduceLeDiff, Nat.reduceLT, Nat.reduceEqDiff, Int.reduceLT, Int.reduceLE, Int.reduceToNat, Int.reduceAdd, Int.reduceSub, Int.reduceMul, Int.reduceEq, Int.reduceNeg, reduceCtorEq, true_and, and_true, Int.toNat_natCast, List.getElem?_map, Option.map_some, List.length_map, List.length_take, List.length_drop, List.length_append, Nat.sub_zero, Int.toNat_zero, List.length_replicate, Bool.true_or, Bool.or_true, Bool.false_or, Bool.or_false, false_implies, implies_true]; done) | (have := o4 i h; have := hci i h; have : bc i ≠ bc node := (by rcases Nat.lt_or_gt_of_ne hne with h1 | h1 <;> first | exact Nat.ne_of_lt (o5 _ _ h1 hcn) | exact Nat.ne_of_gt (o5 _ _ h1 h)); simp (disch := omega) only [go_sem, hci i h, Nat.reduceAdd, Nat.reduceSub, Nat.reduceMul, Nat.reduceLeDiff, Nat.reduceLT, Nat.reduceEqDiff, Int.reduceLT, Int.reduceLE, Int.reduceToNat, Int.reduceAdd, Int.reduceSub, Int.reduceMul, Int.reduceEq, Int.reduceNeg, reduceCtorEq, true_and, and_true, Int.toNat_natCast, List.getElem?_map, Option.map_some, List.length_map, List.length_take, List.length_drop, List.length_append, Nat.sub_zero, Int.toNat_zero, List.length_replicate, Bool.true_or, Bool.or_true, Bool.false_or, Bool.or_false, false_implies, implies_true]; done) | skip
end Go.Proofs.Ytllijcnbjbfabaa

namespace Go.Proofs.Ytllijcnbjbfabaa
open Go.RowKit
set_option linter.unusedSimpArgs false
set_option linter.unusedVariables false

def badN (d : Dev) (node : Int) : Prop := checkB d = false ∨ node < 0 ∨ (d.keys.length : Int) ≤ node
instance (d : Dev) (node : Int) : Decidable (badN d node) := by unfold badN; exact inferInstance
def startR (d : Dev) (node : Int) : Dev × Int := if badN d node then (d, 2) else ({ d with cache := d.cache.set node.toNat [], keys := d.keys.set node.toNat 0 }, 0)
abbrev pairV (p : Dev × Int) : V := .tup [devV p.1, .int .i64 p.2]
theorem badN_split {d : Dev} {node : Int} (h : ¬ badN d node) : ∃ n : Nat, node = n ∧ n < d.keys.length ∧ MayD d := by
  have hm : MayD d := by
    refine (checkB_iff d).1 ?_
    cases hb : checkB d with
    | true => rfl
    | false => exact absurd (.inl hb) h
  have h1 : ¬ node < 0 := fun h' => h (.inr (.inl h'))
  have h2 : ¬ (d.keys.length : Int) ≤ node := fun h' => h (.inr (.inr h'))
  exact ⟨node.toNat, by omega, by omega, hm⟩
set_option maxRecDepth 100000 in
set_option maxHeartbeats 16000000 in
theorem Start_con (d : Dev) (hd : DevOk d) (node : Int) : PCon Try.prog 64 [devV d, .int .i64 node] (pairV (startR d node)) := by
  refine ⟨?_, by (simp only [List.nil_append, List.cons_append, List.append_nil, List.forall_mem_cons, List.not_mem_nil, false_implies, implies_true, and_true, true_and, plain_agg, plain_tup, plain_int, plain_bool, plain_str, plain_nilp, plain_nilfn, plain_undef, plain_dev, plain_pr, plain_tx, plain_in, plain_cc])⟩
  refine con_of_awp Try.func64 rfl mixed (by decide) rfl (by kernel_rfl) rfl ?_
  have hc : PCon Try.prog 36 [devV d] (.int .i64 (chk d)) := ⟨Check_con d hd, by (simp only [List.nil_append, List.cons_append, List.append_nil, List.forall_mem_cons, List.not_mem_nil, false_implies, implies_true, and_true, true_and, plain_agg, plain_tup, plain_int, plain_bool, plain_str, plain_nilp, plain_nilfn, plain_undef, plain_dev, plain_pr, plain_tx, plain_in, plain_cc])⟩
  by_cases hbad : badN d node
  · rw [show startR d node = (d, 2) from if_pos hbad]
    cases hb : checkB d with
    | false =>
      rw [show chk d = 2 by unfold chk; rw [hb]; rfl] at hc
      (repeat' (first | with_reducible refine agr_d (fun hc => ?_) (fun hc => ?_) | with_reducible refine agr_n (fun hc => ?_) (fun hc => ?_) | with_reducible refine acd_d (fun hc => ?_) (fun hc => ?_) | with_reducible refine acd_n (fun hc => ?_) (fun hc => ?_) | with_reducible refine dgr_d (fun hc => ?_) (fun hc => ?_) | with_reducible refine dgr_n (fun hc => ?_) (fun hc => ?_) | with_reducible refine dl_sound _ _ [] [] [] _ _ (fun _ h => absurd h List.not_mem_nil) ?_ | with_reducible refine conEnd_p (.inl rfl) ?_ | with_reducible refine conEnd_p (.inr rfl) ?_ | with_reducible refine dc1_p hc ?_ | with_reducible refine ac1_p hc ?_ | simp (disch := omega) only [go_sem, devV, pairV, Nat.reduceAdd, Nat.reduceSub, Nat.reduceMul, Nat.reduceLeDiff, Nat.reduceLT, Nat.reduceEqDiff, Int.reduceLT, Int.reduceLE, Int.reduceToNat, Int.reduceAdd, Int.reduceSub, Int.reduceMul, Int.reduceEq, Int.reduceNeg, reduceCtorEq, true_and, and_true, Int.toNat_natCast, List.getElem?_map, Option.map_some, List.length_map, List.length_take, List.length_drop, List.length_append, Nat.sub_zero, Int.toNat_zero, List.length_replicate, Bool.true_or, Bool.or_true, Bool.false_or, Bool.or_false, false_implies, implies_true]))
    | true =>
      rw [show chk d = 0 by unfold chk; rw [hb]; rfl] at hc
      by_cases g1 : node < 0
      · (repeat' (first | with_reducible refine agr_d (fun hc => ?_) (fun hc => ?_) | with_reducible refine agr_n (fun hc => ?_) (fun hc => ?_) | with_reducible refine acd_d (fun hc => ?_) (fun hc => ?_) | with_reducible refine acd_n (fun hc => ?_) (fun hc => ?_) | with_reducible refine dgr_d (fun hc => ?_) (fun hc => ?_) | with_reducible refine dgr_n (fun hc => ?_) (fun hc => ?_) | with_reducible refine dl_sound _ _ [] [] [] _ _ (fun _ h => absurd h List.not_mem_nil) ?_ | with_reducible refine conEnd_p (.inl rfl) ?_ | with_reducible refine conEnd_p (.inr rfl) ?_ | with_reducible refine dc1_p hc ?_ | with_reducible refine ac1_p hc ?_ | simp (disch := omega) only [go_sem, devV, pairV, Nat.reduceAdd, Nat.reduceSub, Nat.reduceMul, Nat.reduceLeDiff, Nat.reduceLT, Nat.reduceEqDiff, Int.reduceLT, Int.reduceLE, Int.reduceToNat, Int.reduceAdd, Int.reduceSub, Int.reduceMul, Int.reduceEq, Int.reduceNeg, reduceCtorEq, true_and, and_true, Int.toNat_natCast, List.getElem?_map, Option.map_some, List.length_map, List.length_take, List.length_drop, List.length_append, Nat.sub_zero, Int.toNat_zero, List.length_replicate, Bool.true_or, Bool.or_true, Bool.false_or, Bool.or_false, false_implies, implies_true]))
      by_cases g2 : (d.keys.length : Int) ≤ node
      · (repeat' (first | with_reducible refine agr_d (fun hc => ?_) (fun hc => ?_) | with_reducible refine agr_n (fun hc => ?_) (fun hc => ?_) | with_reducible refine acd_d (fun hc => ?_) (fun hc => ?_) | with_reducible refine acd_n (fun hc => ?_) (fun hc => ?_) | with_reducible refine dgr_d (fun hc => ?_) (fun hc => ?_) | with_reducible refine dgr_n (fun hc => ?_) (fun hc => ?_) | with_reducible refine dl_sound _ _ [] [] [] _ _ (fun _ h => absurd h List.not_mem_nil) ?_ | with_reducible refine conEnd_p (.inl rfl) ?_ | with_reducible refine conEnd_p (.inr rfl) ?_ | with_reducible refine dc1_p hc ?_ | with_reducible refine ac1_p hc ?_ | simp (disch := omega) only [go_sem, devV, pairV, Nat.reduceAdd, Nat.reduceSub, Nat.reduceMul, Nat.reduceLeDiff, Nat.reduceLT, Nat.reduceEqDiff, Int.reduceLT, Int.reduceLE, Int.reduceToNat, Int.reduceAdd, Int.reduceSub, Int.reduceMul, Int.reduceEq, Int.reduceNeg, reduceCtorEq, true_and, and_true, Int.toNat_natCast, List.getElem?_map, Option.map_some, List.length_map, List.length_take, List.length_drop, List.length_append, Nat.sub_zero, Int.toNat_zero, List.length_replicate, Bool.true_or, Bool.or_true, Bool.false_or, Bool.or_false, false_implies, implies_true]))
      rcases hbad with h | h | h
      · rw [hb] at h; cases h
      · omega
      · omega
  have hbs := badN_split hbad
  rw [show startR d node = _ from if_neg hbad]
  obtain ⟨node, rfl, hn, hm⟩ := hbs
  rw [Int.toNat_natCast]
  have hcn : node < d.cache.length := by rw [hm.c]; exact hn
  have hkg : d.keys[node]? = some d.keys[node] := List.getElem?_eq_getElem hn
  rw [show chk d = 0 by unfold chk; rw [(checkB_iff d).2 hm]; rfl] at hc
  (repeat' (first | with_reducible refine agr_d (fun hc => ?_) (fun hc => ?_) | with_reducible refine agr_n (fun hc => ?_) (fun hc => ?_) | with_reducible refine acd_d (fun hc => ?_) (fun hc => ?_) | with_reducible refine acd_n (fun hc => ?_) (fun hc => ?_) | with_reducible refine dgr_d (fun hc => ?_) (fun hc => ?_) | with_reducible refine dgr_n (fun hc => ?_) (fun hc => ?_) | with_reducible refine dl_sound _ _ [] [] [] _ _ (fun _ h => absurd h List.not_mem_nil) ?_ | with_reducible refine dc1_p hc ?_ | with_reducible refine ac1_p hc ?_ | simp (disch := omega) only [go_sem, devV, pairV, Nat.reduceAdd, Nat.reduceSub, Nat.reduceMul, Nat.reduceLeDiff, Nat.reduceLT, Nat.reduceEqDiff, Int.reduceLT, Int.reduceLE, Int.reduceToNat, Int.reduceAdd, Int.reduceSub, Int.reduceMul, Int.reduceEq, Int.reduceNeg, reduceCtorEq, true_and, and_true, Int.toNat_natCast, List.getElem?_map, Option.map_some, List.length_map, List.length_take, List.length_drop, List.length_append, Nat.sub_zero, Int.toNat_zero, List.length_replicate, Bool.true_or, Bool.or_true, Bool.false_or, Bool.or_false, false_implies, implies_true]))
  refine ac1_i (copied_con d hd (by omega) _) ?_
  rintro _ ⟨g, c⟩ ⟨bS, bK, bF, bC, bc, rfl, HF, hold⟩
  obtain ⟨o1, o2, o3, o4, o5, o6, o7, hS, hK, hFn, hC1, hci⟩ := HF
  have o4n := o4 node hcn
  have hcin := hci node hcn
  have hcr := cRows_at (bc := bc) hcn
  dsimp only at o1 o7 hS hK hFn hC1 hci hold hcin
  have o1' : 2 ≤ bS := Nat.le_trans (by simp) o1
  have q0 : g 0 = some (devB d) := (hold 0 (by simp)).trans (by simp (disch := omega) only [go_sem, Nat.reduceAdd, Nat.reduceSub, Nat.reduceMul, Nat.reduceLeDiff, Nat.reduceLT, Nat.reduceEqDiff, Int.reduceLT, Int.reduceLE, Int.reduceToNat, Int.reduceAdd, Int.reduceSub, Int.reduceMul, Int.reduceEq, Int.reduceNeg, reduceCtorEq, true_and, and_true, Int.toNat_natCast, List.getElem?_map, Option.map_some, List.length_map, List.length_take, List.length_drop, List.length_append, Nat.sub_zero, Int.toNat_zero, List.length_replicate, Bool.true_or, Bool.or_true, Bool.false_or, Bool.or_false, false_implies, implies_true] <;> rfl)
  have q1 : g 1 = some ⟨[[.sl [] true, .sl [] true, .sl [] true, .int .i64 0, .sl [] true]], 5, 0⟩ := (hold 1 (by simp)).trans (by simp (disch := omega) only [go_sem, Nat.reduceAdd, Nat.reduceSub, Nat.reduceMul, Nat.reduceLeDiff, Nat.reduceLT, Nat.reduceEqDiff, Int.reduceLT, Int.reduceLE, Int.reduceToNat, Int.reduceAdd, Int.reduceSub, Int.reduceMul, Int.reduceEq, Int.reduceNeg, reduceCtorEq, true_and, and_true, Int.toNat_natCast, List.getElem?_map, Option.map_some, List.length_map, List.length_take, List.length_drop, List.length_append, Nat.sub_zero, Int.toNat_zero, List.length_replicate, Bool.true_or, Bool.or_true, Bool.false_or, Bool.or_false, false_implies, implies_true] <;> rfl)
  clear hold o1
  have hkset : (d.keys.map inV).set node [V.int .i64 0] = (d.keys.set node 0).map inV := by rw [List.map_set]; rfl
  (repeat' (first | with_reducible refine agr_d (fun hc => ?_) (fun hc => ?_) | with_reducible refine agr_n (fun hc => ?_) (fun hc => ?_) | with_reducible refine acd_d (fun hc => ?_) (fun hc => ?_) | with_reducible refine acd_n (fun hc => ?_) (fun hc => ?_) | with_reducible refine dgr_d (fun hc => ?_) (fun hc => ?_) | with_reducible refine dgr_n (fun hc => ?_) (fun hc => ?_) | with_reducible refine dl_sound _ _ [] [] [] _ _ (fun _ h => absurd h List.not_mem_nil) ?_ | simp (disch := omega) only [go_sem, freshV, q0, q1, hS, hK, hFn, hC1, hcin, hcr, hkg, hkset, cRows_len, Nat.reduceAdd, Nat.reduceSub, Nat.reduceMul, Nat.reduceLeDiff, Nat.reduceLT, Nat.reduceEqDiff, Int.reduceLT, Int.reduceLE, Int.reduceToNat, Int.reduceAdd, Int.reduceSub, Int.reduceMul, Int.reduceEq, Int.reduceNeg, reduceCtorEq, true_and, and_true, Int.toNat_natCast, List.getElem?_map, Option.map_some, List.length_map, List.length_take, List.length_drop, List.length_append, Nat.sub_zero, Int.toNat_zero, List.length_replicate, Bool.true_or, Bool.or_true, Bool.false_or, Bool.or_false, false_implies, implies_true]))
  refine conEnd_f (.inl rfl) ?_
  simp (disch := omega) only [go_sem, hS, hK, hFn, hC1, hcin, hkset, Nat.reduceAdd, Nat.reduceSub, Nat.reduceMul, Nat.reduceLeDiff, Nat.reduceLT, Nat.reduceEqDiff, Int.reduceLT, Int.reduceLE, Int.reduceToNat, Int.reduceAdd, Int.reduceSub, Int.reduceMul, Int.reduceEq, Int.reduceNeg, reduceCtorEq, true_and, and_true, Int.toNat_natCast, List.getElem?_map, Option.map_some, List.length_map, List.length_take, List.length_drop, List.length_append, Nat.sub_zero, Int.toNat_zero, List.length_replicate, Bool.true_or, Bool.or_true, Bool.false_or, Bool.or_false, false_implies, implies_true]
  refine ⟨mny, _, fz_tup2 (fz_dev (d := { d with cache := d.cache.set node [], keys := d.keys.set node 0 }) rfl (fz_row (sz := 1) (lk := 0) (es := d.s.map txV) ?_ (by simp) (by have := hd.s; omega) ((plain_tx _ _).2 trivial)) (fz_caches1 (lk := 0) (bc := bc) hd hcn ?_ (fun i h hne => ?_) (.weak [] true (.sl _ _ (by simp)))) (fz_row (sz := 1) (lk := 0) (es := (d.keys.set node 0).map inV) ?_ (by simp) (by have := hd.k; omega) ((plain_in _ _).2 trivial)) (fz_row (sz := 1) (lk := 0) (es := d.fen.map inV) ?_ (by simp) (by have := hd.f; omega) ((plain_in _ _).2 trivial))) (.plain _ (.int _ _)), rfl⟩
  all_goals first | (simp (disch := omega) only [go_sem, hS, hK, hFn, hC1, hcin, hkset, Nat.reduceAdd, Nat.reduceSub, Nat.reduceMul, Nat.reduceLeDiff, Nat.reduceLT, Nat.reduceEqDiff, Int.reduceLT, Int.reduceLE, Int.reduceToNat, Int.reduceAdd, Int.reduceSub, Int.reduceMul, Int.reduceEq, Int.reduceNeg, reduceCtorEq, true_and, and_true, Int.toNat_natCast, List.getElem?_map, Option.map_some, List.length_map, List.length_take, List.length_drop, List.length_append, Nat.sub_zero, Int.toNat_zero, List.length_replicate, Bool.true_or, Bool.or_true, Bool.false_or, Bool.or_false, false_implies, implies_true]; done) | (have := o4 i h; have := hci i h; have : bc i ≠ bc node := (by rcases Nat.lt_or_gt_of_ne hne with h1 | h1 <;> first | exact Nat.ne_of_lt (o5 _ _ h1 hcn) | exact Nat.ne_of_gt (o5 _ _ h1 h)); simp (disch := omega) only [go_sem, hci i h, Nat.reduceAdd, Nat.reduceSub, Nat.reduceMul, Nat.reduceLeDiff, Nat.reduceLT, Nat.reduceEqDiff, Int.reduceLT, Int.reduceLE, Int.reduceToNat, Int.reduceAdd, Int.reduceSub, Int.reduceMul, Int.reduceEq, Int.reduceNeg, reduceCtorEq, true_and, and_true, Int.toNat_natCast, List.getElem?_map, Option.map_some, List.length_map, List.length_take, List.length_drop, List.length_append, Nat.sub_zero, Int.toNat_zero, List.length_replicate, Bool.true_or, Bool.or_true, Bool.false_or, Bool.or_false, false_implies, implies_true]; done)
end Go.Proofs.Ytllijcnbjbfabaa

namespace Go.Proofs.Ytllijcnbjbfabaa
open Go.RowKit
set_option linter.unusedSimpArgs false
set_option linter.unusedVariables false

theorem bytes_toList (a : ByteArray) : a.toList = a.data.toList := by
  rw [Lib.toList_data]
theorem tl_eq (a b : ByteArray) : (a.toList == b.toList) = decide (a = b) := by
  by_cases h : a = b
  · subst h; simp
  · have h2 : ¬ a.toList = b.toList := fun e => h (by
      rw [bytes_toList, bytes_toList] at e
      exact ByteArray.ext (Array.toList_inj.1 e))
    rw [decide_eq_false h]
    simpa using h2
set_option maxRecDepth 100000 in
set_option maxHeartbeats 16000000 in
theorem SameS_con (l m : List ByteArray) (fl fm : Bool) (hl : l.length ≤ 1000000000) (hm : m.length ≤ 1000000000) : PCon Try.prog 22 [.sl (l.map txV) fl, .sl (m.map txV) fm] (.bool (decide (l = m))) := by
  refine ⟨?_, by (simp only [List.nil_append, List.cons_append, List.append_nil, List.forall_mem_cons, List.not_mem_nil, false_implies, implies_true, and_true, true_and, plain_agg, plain_tup, plain_int, plain_bool, plain_str, plain_nilp, plain_nilfn, plain_undef, plain_dev, plain_pr, plain_tx, plain_in, plain_cc])⟩
  refine con_of_awp Try.func22 rfl mixed (by decide) rfl (by kernel_rfl) rfl ?_
  by_cases hlen : l.length = m.length
  · (repeat' (first | with_reducible refine agr_d (fun hc => ?_) (fun hc => ?_) | with_reducible refine agr_n (fun hc => ?_) (fun hc => ?_) | with_reducible refine acd_d (fun hc => ?_) (fun hc => ?_) | with_reducible refine acd_n (fun hc => ?_) (fun hc => ?_) | with_reducible refine dgr_d (fun hc => ?_) (fun hc => ?_) | with_reducible refine dgr_n (fun hc => ?_) (fun hc => ?_) | with_reducible refine dl_sound _ _ [] [] [] _ _ (fun _ h => absurd h List.not_mem_nil) ?_ | simp (disch := omega) only [go_sem, tl_eq, Nat.reduceAdd, Nat.reduceSub, Nat.reduceMul, Nat.reduceLeDiff, Nat.reduceLT, Nat.reduceEqDiff, Int.reduceLT, Int.reduceLE, Int.reduceToNat, Int.reduceAdd, Int.reduceSub, Int.reduceMul, Int.reduceEq, Int.reduceNeg, reduceCtorEq, true_and, and_true, Int.toNat_natCast, List.getElem?_map, Option.map_some, List.length_map, List.length_take, List.length_drop, List.length_append, Nat.sub_zero, Int.toNat_zero, List.length_replicate, Bool.true_or, Bool.or_true, Bool.false_or, Bool.or_false, false_implies, implies_true]))
    refine awp_for l.length (fun j fr st => ev fr (.tmp 0) = .sl (l.map txV) fl ∧ ev fr (.tmp 1) = .sl (m.map txV) fm ∧ ev fr (.tmp 5) = .int .i64 j ∧ st = ⟨fun _ => none, st.c⟩ ∧ ∀ t (h : t < l.length) (h' : t < m.length), t < j → l[t] = m[t]) ?_ ?_
    · refine ⟨?_, ?_, ?_, rfl, fun t _ _ h => absurd h (by omega)⟩ <;> simp (disch := omega) only [go_sem, Nat.reduceAdd, Nat.reduceSub, Nat.reduceMul, Nat.reduceLeDiff, Nat.reduceLT, Nat.reduceEqDiff, Int.reduceLT, Int.reduceLE, Int.reduceToNat, Int.reduceAdd, Int.reduceSub, Int.reduceMul, Int.reduceEq, Int.reduceNeg, reduceCtorEq, true_and, and_true, Int.toNat_natCast, List.getElem?_map, Option.map_some, List.length_map, List.length_take, List.length_drop, List.length_append, Nat.sub_zero, Int.toNat_zero, List.length_replicate, Bool.true_or, Bool.or_true, Bool.false_or, Bool.or_false, false_implies, implies_true] <;> rfl
    rintro j fr ⟨g, c⟩ hj ⟨h0, h1, h5, hs, hn⟩
    obtain rfl : g = fun _ => none := by injection hs
    clear hs
    by_cases hlt : j < l.length
    · have hg : l[j]? = some l[j] := List.getElem?_eq_getElem hlt
      have hlt' : j < m.length := by omega
      have hg' : m[j]? = some m[j] := List.getElem?_eq_getElem hlt'
      (repeat' (first | with_reducible refine agr_d (fun hc => ?_) (fun hc => ?_) | with_reducible refine agr_n (fun hc => ?_) (fun hc => ?_) | with_reducible refine acd_d (fun hc => ?_) (fun hc => ?_) | with_reducible refine acd_n (fun hc => ?_) (fun hc => ?_) | with_reducible refine dgr_d (fun hc => ?_) (fun hc => ?_) | with_reducible refine dgr_n (fun hc => ?_) (fun hc => ?_) | with_reducible refine dl_sound _ _ [] [] [] _ _ (fun _ h => absurd h List.not_mem_nil) ?_ | with_reducible refine conEnd_p (.inl rfl) ?_ | with_reducible refine conEnd_p (.inr rfl) ?_ | simp (disch := omega) only [go_sem, h0, h1, h5, hg, hg', tl_eq, Nat.reduceAdd, Nat.reduceSub, Nat.reduceMul, Nat.reduceLeDiff, Nat.reduceLT, Nat.reduceEqDiff, Int.reduceLT, Int.reduceLE, Int.reduceToNat, Int.reduceAdd, Int.reduceSub, Int.reduceMul, Int.reduceEq, Int.reduceNeg, reduceCtorEq, true_and, and_true, Int.toNat_natCast, List.getElem?_map, Option.map_some, List.length_map, List.length_take, List.length_drop, List.length_append, Nat.sub_zero, Int.toNat_zero, List.length_replicate, Bool.true_or, Bool.or_true, Bool.false_or, Bool.or_false, false_implies, implies_true]))
      · rw [decide_eq_false (fun e => hc (by subst e; rfl))]
      · refine ⟨j + 1, by omega, by omega, rfl, fun t ht ht' htj => ?_⟩
        rcases Nat.lt_or_ge t j with h4 | h4
        · exact hn t ht ht' h4
        · obtain rfl : t = j := by omega
          exact hc
    · (repeat' (first | with_reducible refine agr_d (fun hc => ?_) (fun hc => ?_) | with_reducible refine agr_n (fun hc => ?_) (fun hc => ?_) | with_reducible refine acd_d (fun hc => ?_) (fun hc => ?_) | with_reducible refine acd_n (fun hc => ?_) (fun hc => ?_) | with_reducible refine dgr_d (fun hc => ?_) (fun hc => ?_) | with_reducible refine dgr_n (fun hc => ?_) (fun hc => ?_) | with_reducible refine dl_sound _ _ [] [] [] _ _ (fun _ h => absurd h List.not_mem_nil) ?_ | with_reducible refine conEnd_p (.inl rfl) ?_ | with_reducible refine conEnd_p (.inr rfl) ?_ | simp (disch := omega) only [go_sem, h0, h1, h5, Nat.reduceAdd, Nat.reduceSub, Nat.reduceMul, Nat.reduceLeDiff, Nat.reduceLT, Nat.reduceEqDiff, Int.reduceLT, Int.reduceLE, Int.reduceToNat, Int.reduceAdd, Int.reduceSub, Int.reduceMul, Int.reduceEq, Int.reduceNeg, reduceCtorEq, true_and, and_true, Int.toNat_natCast, List.getElem?_map, Option.map_some, List.length_map, List.length_take, List.length_drop, List.length_append, Nat.sub_zero, Int.toNat_zero, List.length_replicate, Bool.true_or, Bool.or_true, Bool.false_or, Bool.or_false, false_implies, implies_true]))
      rw [decide_eq_true (List.ext_getElem hlen fun t ht ht' => hn t ht ht' (by omega))]
  · (repeat' (first | with_reducible refine agr_d (fun hc => ?_) (fun hc => ?_) | with_reducible refine agr_n (fun hc => ?_) (fun hc => ?_) | with_reducible refine acd_d (fun hc => ?_) (fun hc => ?_) | with_reducible refine acd_n (fun hc => ?_) (fun hc => ?_) | with_reducible refine dgr_d (fun hc => ?_) (fun hc => ?_) | with_reducible refine dgr_n (fun hc => ?_) (fun hc => ?_) | with_reducible refine dl_sound _ _ [] [] [] _ _ (fun _ h => absurd h List.not_mem_nil) ?_ | with_reducible refine conEnd_p (.inl rfl) ?_ | with_reducible refine conEnd_p (.inr rfl) ?_ | simp (disch := omega) only [go_sem, tl_eq, Nat.reduceAdd, Nat.reduceSub, Nat.reduceMul, Nat.reduceLeDiff, Nat.reduceLT, Nat.reduceEqDiff, Int.reduceLT, Int.reduceLE, Int.reduceToNat, Int.reduceAdd, Int.reduceSub, Int.reduceMul, Int.reduceEq, Int.reduceNeg, reduceCtorEq, true_and, and_true, Int.toNat_natCast, List.getElem?_map, Option.map_some, List.length_map, List.length_take, List.length_drop, List.length_append, Nat.sub_zero, Int.toNat_zero, List.length_replicate, Bool.true_or, Bool.or_true, Bool.false_or, Bool.or_false, false_implies, implies_true]))
    rw [decide_eq_false (fun e => hlen (by rw [e]))]
end Go.Proofs.Ytllijcnbjbfabaa

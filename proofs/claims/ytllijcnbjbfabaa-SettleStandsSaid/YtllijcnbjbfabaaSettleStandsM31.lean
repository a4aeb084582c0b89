/- breakwaterref06: Crash, by the calculus. -/
import Derived.Test.YtllijcnbjbfabaaSettleStandsM30
namespace Go.Proofs.Ytllijcnbjbfabaa
open Go.RowKit
set_option linter.unusedSimpArgs false
set_option linter.unusedVariables false

/-- is a write kept? -/
def kbit (kept : Int) (i : Nat) : Prop := ((BitVec.ofInt 64 (kept.fdiv (2 ^ (min i 64))) &&& BitVec.ofInt 64 1).toNat : Int) = 1
instance (kept : Int) (i : Nat) : Decidable (kbit kept i) := by unfold kbit; exact inferInstance
/-- what is kept of the first writes -/
def keepL (kept : Int) (l : List Pr) (s : List ByteArray) : Nat → List ByteArray
  | 0 => s
  | j + 1 => match l[j]? with
    | none => keepL kept l s j
    | some x => if kbit kept j then (keepL kept l s j).set x.n.toNat x.t else keepL kept l s j
theorem keepL_len (kept : Int) (l : List Pr) (s : List ByteArray) (j : Nat) : (keepL kept l s j).length = s.length := by
  induction j with
  | zero => rfl
  | succ j ih =>
    simp only [keepL]
    split
    · exact ih
    · split
      · rw [List.length_set, ih]
      · exact ih
def crashR' (d : Dev) (node : Int) (kept : Int) : Dev × Int :=
  if badN d node then (d, 2) else
    ({ d with s := if fencedB d [d.keys.getD node.toNat 0] = true then d.s else keepL kept (d.cache.getD node.toNat []) d.s (min (d.cache.getD node.toNat []).length 64), cache := d.cache.set node.toNat [] }, 0)
theorem iif_neg {α : Type} {b : Int} {x y : α} (h : ¬ b < 0) : (if b < 0 then x else y) = y := if_neg h
theorem wrapU {n : Int} (h1 : 0 ≤ n) (h2 : n < 18446744073709551616) : IntKind.u64.wrap n = n := by
  unfold IntKind.wrap
  simp [IntKind.bits, IntKind.signed]
  omega
set_option maxRecDepth 100000 in
set_option maxHeartbeats 16000000 in
theorem Crash_con (d : Dev) (hd : DevOk d) (node : Int) (kept : Int) : PCon Try.prog 14 [devV d, .int .i64 node, .int .u64 kept] (pairV (crashR' d node kept)) := by
  refine ⟨?_, by (simp only [List.nil_append, List.cons_append, List.append_nil, List.forall_mem_cons, List.not_mem_nil, false_implies, implies_true, and_true, true_and, plain_agg, plain_tup, plain_int, plain_bool, plain_str, plain_nilp, plain_nilfn, plain_undef, plain_dev, plain_pr, plain_tx, plain_in, plain_cc])⟩
  refine con_of_awp Try.func14 rfl mixed (by decide) rfl (by kernel_rfl) rfl ?_
  have hc : PCon Try.prog 36 [devV d] (.int .i64 (chk d)) := ⟨Check_con d hd, by (simp only [List.nil_append, List.cons_append, List.append_nil, List.forall_mem_cons, List.not_mem_nil, false_implies, implies_true, and_true, true_and, plain_agg, plain_tup, plain_int, plain_bool, plain_str, plain_nilp, plain_nilfn, plain_undef, plain_dev, plain_pr, plain_tx, plain_in, plain_cc])⟩
  by_cases hbad : badN d node
  · rw [show crashR' d node kept = (d, 2) from if_pos hbad]
    cases hb : checkB d with
    | false =>
      rw [show chk d = 2 by unfold chk; rw [hb]; rfl] at hc
      (repeat' (first | with_reducible refine agr_d (fun hc => ?_) (fun hc => ?_) | with_reducible refine agr_n (fun hc => ?_) (fun hc => ?_) | with_reducible refine acd_d (fun hc => ?_) (fun hc => ?_) | with_reducible refine acd_n (fun hc => ?_) (fun hc => ?_) | with_reducible refine dgr_d (fun hc => ?_) (fun hc => ?_) | with_reducible refine dgr_n (fun hc => ?_) (fun hc => ?_) | with_reducible refine dl_sound _ _ [] [] [] _ _ (fun _ h => absurd h List.not_mem_nil) ?_ | with_reducible refine conEnd_p (.inl rfl) ?_ | with_reducible refine conEnd_p (.inr rfl) ?_ | with_reducible refine dc1_p hc ?_ | with_reducible refine ac1_p hc ?_ | simp (disch := omega) only [go_sem, devV, pairV, Nat.reduceAdd, Nat.reduceSub, Nat.reduceMul, Nat.reduceLeDiff, Nat.reduceLT, Nat.reduceEqDiff, Int.reduceLT, Int.reduceLE, Int.reduceToNat, Int.reduceAdd, Int.reduceSub, Int.reduceMul, Int.reduceEq, Int.reduceNeg, reduceCtorEq, true_and, and_true, Int.toNat_natCast, List.getElem?_map, Option.map_some, List.length_map, List.length_take, List.length_drop, List.length_append, Nat.sub_zero, Int.toNat_zero, List.length_replicate, Bool.true_or, Bool.or_true, Bool.false_or, Bool.or_false, false_implies, implies_true]))
    | true =>
      rw [show chk d = 0 by unfold chk; rw [hb]; rfl] at hc
      by_cases g1 : node < 0
      · (repeat' (first | with_reducible refine agr_d (fun hc => ?_) (fun hc => ?_) | with_reducible refine agr_n (fun hc => ?_) (fun hc => ?_) | with_reducible refine acd_d (fun hc => ?_) (fun hc => ?_) | with_reducible refine acd_n (fun hc => ?_) (fun hc => ?_) | with_reducible refine dgr_d (fun hc => ?_) (fun hc => ?_) | with_reducible refine dgr_n (fun hc => ?_) (fun hc => ?_) | with_reducible refine dl_sound _ _ [] [] [] _ _ (fun _ h => absurd h List.not_mem_nil) ?_ | with_reducible refine conEnd_p (.inl rfl) ?_ | with_reducible refine conEnd_p (.inr rfl) ?_ | with_reducible refine dc1_p hc ?_ | with_reducible refine ac1_p hc ?_ | simp (disch := omega) only [go_sem, devV, pairV, Nat.reduceAdd, Nat.reduceSub, Nat.reduceMul, Nat.reduceLeDiff, Nat.reduceLT, Nat.reduceEqDiff, Int.reduceLT, Int.reduceLE, Int.reduceToNat, Int.reduceAdd, Int.reduceSub, Int.reduceMul, Int.reduceEq, Int.reduceNeg, reduceCtorEq, true_and, and_true, Int.toNat_natCast, List.getElem?_map, Option.map_some, List.length_map, List.length_take, List.length_drop, List.length_append, Nat.sub_zero, Int.toNat_zero, List.length_replicate, Bool.true_or, Bool.or_true, Bool.false_or, Bool.or_false, false_implies, implies_true]))
      by_cases g2 : (d.keys.length : Int) ≤ node
      · (repeat' (first | with_reducible refine agr_d (fun hc => ?_) (fun hc => ?_) | with_reducible refine agr_n (fun hc => ?_) (fun hc => ?_) | with_reducible refine acd_d (fun hc => ?_) (fun hc => ?_) | with_reducible refine acd_n (fun hc => ?_) (fun hc => ?_) | with_reducible refine dgr_d (fun hc => ?_) (fun hc => ?_) | with_reducible refine dgr_n (fun hc => ?_) (fun hc => ?_) | with_reducible refine dl_sound _ _ [] [] [] _ _ (fun _ h => absurd h List.not_mem_nil) ?_ | with_reducible refine conEnd_p (.inl rfl) ?_ | with_reducible refine conEnd_p (.inr rfl) ?_ | with_reducible refine dc1_p hc ?_ | with_reducible refine ac1_p hc ?_ | simp (disch := omega) only [go_sem, devV, pairV, Nat.reduceAdd, Nat.reduceSub, Nat.reduceMul, Nat.reduceLeDiff, Nat.reduceLT, Nat.reduceEqDiff, Int.reduceLT, Int.reduceLE, Int.reduceToNat, Int.reduceAdd, Int.reduceSub, Int.reduceMul, Int.reduceEq, Int.reduceNeg, reduceCtorEq, true_and, and_true, Int.toNat_natCast, List.getElem?_map, Option.map_some, List.length_map, List.length_take, List.length_drop, List.length_append, Nat.sub_zero, Int.toNat_zero, List.length_replicate, Bool.true_or, Bool.or_true, Bool.false_or, Bool.or_false, false_implies, implies_true]))
      rcases hbad with h | h | h
      · rw [hb] at h; cases h
      · omega
      · omega
  have hbs := badN_split hbad
  rw [show crashR' d node kept = _ from if_neg hbad]
  obtain ⟨node, rfl, hn, hm⟩ := hbs
  rw [Int.toNat_natCast]
  have hcn : node < d.cache.length := by rw [hm.c]; exact hn
  have hkg : d.keys[node]? = some d.keys[node] := List.getElem?_eq_getElem hn
  have hkd : d.keys.getD node 0 = d.keys[node] := by rw [List.getD_eq_getElem?_getD, hkg]; rfl
  have hcd : d.cache.getD node [] = d.cache[node] := by rw [List.getD_eq_getElem?_getD, List.getElem?_eq_getElem hcn]; rfl
  have hcl := hd.ci node hcn
  rw [hkd, hcd]
  rw [show chk d = 0 by unfold chk; rw [(checkB_iff d).2 hm]; rfl] at hc
  have hF : Con Try.prog 38 [devV d, .sl [[.int .i64 d.keys[node]]] false] (· = .bool (fencedB d [d.keys[node]])) := Fenced_con _ _ _ _ d false false [d.keys[node]] (by have := hd.f; omega) (by simp)
  have hpd : Plain (devV d) := (plain_dev d).2 trivial
  have hpk : Plain (.sl [[.int .i64 d.keys[node]]] false) := (plain_in [d.keys[node]] false).2 trivial
  have hca := hm.ca node hn
  rw [hcd] at hca
  have hcp := (cachedB_P _ _).1 hca
  (repeat' (first | with_reducible refine agr_d (fun hc => ?_) (fun hc => ?_) | with_reducible refine agr_n (fun hc => ?_) (fun hc => ?_) | with_reducible refine acd_d (fun hc => ?_) (fun hc => ?_) | with_reducible refine acd_n (fun hc => ?_) (fun hc => ?_) | with_reducible refine dgr_d (fun hc => ?_) (fun hc => ?_) | with_reducible refine dgr_n (fun hc => ?_) (fun hc => ?_) | with_reducible refine dl_sound _ _ [] [] [] _ _ (fun _ h => absurd h List.not_mem_nil) ?_ | with_reducible refine dc1_p hc ?_ | with_reducible refine ac1_p hc ?_ | simp (disch := omega) only [go_sem, devV, pairV, Nat.reduceAdd, Nat.reduceSub, Nat.reduceMul, Nat.reduceLeDiff, Nat.reduceLT, Nat.reduceEqDiff, Int.reduceLT, Int.reduceLE, Int.reduceToNat, Int.reduceAdd, Int.reduceSub, Int.reduceMul, Int.reduceEq, Int.reduceNeg, reduceCtorEq, true_and, and_true, Int.toNat_natCast, List.getElem?_map, Option.map_some, List.length_map, List.length_take, List.length_drop, List.length_append, Nat.sub_zero, Int.toNat_zero, List.length_replicate, Bool.true_or, Bool.or_true, Bool.false_or, Bool.or_false, false_implies, implies_true]))
  refine ac1_i (copied_con d hd (by omega) _) ?_
  rintro _ ⟨g, c⟩ ⟨bS, bK, bF, bC, bc, rfl, HF, hold⟩
  obtain ⟨o1, o2, o3, o4, o5, o6, o7, hS, hK, hFn, hC1, hci⟩ := HF
  have o4n := o4 node hcn
  have hcin := hci node hcn
  have hcr := cRows_at (bc := bc) hcn
  dsimp only at o1 o7 hS hK hFn hC1 hci hold hcin
  have o1' : 2 ≤ bS := Nat.le_trans (by simp) o1
  have q0 : g 0 = some (devB d) := (hold 0 (by simp)).trans (by simp (disch := omega) only [go_sem, Nat.reduceAdd, Nat.reduceSub, Nat.reduceMul, Nat.reduceLeDiff, Nat.reduceLT, Nat.reduceEqDiff, Int.reduceLT, Int.reduceLE, Int.reduceToNat, Int.reduceAdd, Int.reduceSub, Int.reduceMul, Int.reduceEq, Int.reduceNeg, reduceCtorEq, true_and, and_true, Int.toNat_natCast, List.getElem?_map, Option.map_some, List.length_map, List.length_take, List.length_drop, List.length_append, Nat.sub_zero, Int.toNat_zero, List.length_replicate, Bool.true_or, Bool.or_true, Bool.false_or, Bool.or_false, false_implies, implies_true] <;> rfl)
  have q1 : g 1 = some ⟨[[.sl [] true, .sl [] true, .sl [] true, .int .i64 0, .sl [] true]], 5, 0⟩ := (hold 1 (by simp)).trans (by simp (disch := omega) only [go_sem, Nat.reduceAdd, Nat.reduceSub, Nat.reduceMul, Nat.reduceLeDiff, Nat.reduceLT, Nat.reduceEqDiff, Int.reduceLT, Int.reduceLE, Int.reduceToNat, Int.reduceAdd, Int.reduceSub, Int.reduceMul, Int.reduceEq, Int.reduceNeg, reduceCtorEq, true_and, and_true, Int.toNat_natCast, List.getElem?_map, Option.map_some, List.length_map, List.length_take, List.length_drop, List.length_append, Nat.sub_zero, Int.toNat_zero, List.length_replicate, Bool.true_or, Bool.or_true, Bool.false_or, Bool.or_false, false_implies, implies_true] <;> rfl)
  clear hold o1
  (repeat' (first | with_reducible refine agr_d (fun hc => ?_) (fun hc => ?_) | with_reducible refine agr_n (fun hc => ?_) (fun hc => ?_) | with_reducible refine acd_d (fun hc => ?_) (fun hc => ?_) | with_reducible refine acd_n (fun hc => ?_) (fun hc => ?_) | with_reducible refine dgr_d (fun hc => ?_) (fun hc => ?_) | with_reducible refine dgr_n (fun hc => ?_) (fun hc => ?_) | with_reducible refine dl_sound _ _ [] [] [] _ _ (fun _ h => absurd h List.not_mem_nil) ?_ | simp (disch := omega) only [go_sem, freshV, q0, q1, hS, hK, hFn, hC1, hcin, hcr, hkg, cRows_len, Nat.reduceAdd, Nat.reduceSub, Nat.reduceMul, Nat.reduceLeDiff, Nat.reduceLT, Nat.reduceEqDiff, Int.reduceLT, Int.reduceLE, Int.reduceToNat, Int.reduceAdd, Int.reduceSub, Int.reduceMul, Int.reduceEq, Int.reduceNeg, reduceCtorEq, true_and, and_true, Int.toNat_natCast, List.getElem?_map, Option.map_some, List.length_map, List.length_take, List.length_drop, List.length_append, Nat.sub_zero, Int.toNat_zero, List.length_replicate, Bool.true_or, Bool.or_true, Bool.false_or, Bool.or_false, false_implies, implies_true]))
  refine awp_for (min d.cache[node].length 64) (fun j fr st => ev fr (.tmp 1) = .int .i64 node ∧ ev fr (.tmp 2) = .int .u64 kept ∧ ev fr (.tmp 3) = .ptr 0 0 0 ∧ ev fr (.tmp 6) = .ptr 1 0 0 ∧ ev fr (.tmp 8) = .ptr c 0 0 ∧
    ev fr (.tmp 9) = .bs (bc node) 0 d.cache[node].length d.cache[node].length ∧ ev fr (.tmp 10) = .int .i64 j ∧ ev fr (.tmp 7) = .int .i64 0 ∧ c + 2 ≤ st.c ∧ st.get 0 = some (devB d) ∧
    st.get 1 = some ⟨[[.sl [] true, .sl [] true, .sl [] true, .int .i64 0, .sl [] true]], 5, 0⟩ ∧
    st.get c = some ⟨[[.bs bS 0 d.s.length d.s.length, .bs bC 0 d.cache.length d.cache.length, .bs bK 0 d.keys.length d.keys.length, .int .i64 d.next, .bs bF 0 d.fen.length d.fen.length]], 5, 0⟩ ∧
    st.get bS = some ⟨(if fencedB d [d.keys[node]] = true then d.s else keepL kept d.cache[node] d.s j).map txV, 1, 0⟩ ∧
    st.get bK = some ⟨d.keys.map inV, 1, 0⟩ ∧ st.get bF = some ⟨d.fen.map inV, 1, 0⟩ ∧ st.get bC = some ⟨cRows d bc d.cache.length, 1, 0⟩ ∧ ∀ i (h : i < d.cache.length), st.get (bc i) = some ⟨d.cache[i].map prV, 2, 0⟩) ?_ ?_
  · refine ⟨?_, ?_, ?_, ?_, ?_, ?_, ?_, ?_, ?_, ?_, ?_, ?_, ?_, ?_, ?_, ?_, fun i h => ?_⟩
    all_goals first | (simp (disch := omega) only [go_sem, freshV, q0, q1, hS, hK, hFn, hC1, keepL, ite_self, Nat.reduceAdd, Nat.reduceSub, Nat.reduceMul, Nat.reduceLeDiff, Nat.reduceLT, Nat.reduceEqDiff, Int.reduceLT, Int.reduceLE, Int.reduceToNat, Int.reduceAdd, Int.reduceSub, Int.reduceMul, Int.reduceEq, Int.reduceNeg, reduceCtorEq, true_and, and_true, Int.toNat_natCast, List.getElem?_map, Option.map_some, List.length_map, List.length_take, List.length_drop, List.length_append, Nat.sub_zero, Int.toNat_zero, List.length_replicate, Bool.true_or, Bool.or_true, Bool.false_or, Bool.or_false, false_implies, implies_true]; done) | (simp (disch := omega) only [go_sem, Nat.reduceAdd, Nat.reduceSub, Nat.reduceMul, Nat.reduceLeDiff, Nat.reduceLT, Nat.reduceEqDiff, Int.reduceLT, Int.reduceLE, Int.reduceToNat, Int.reduceAdd, Int.reduceSub, Int.reduceMul, Int.reduceEq, Int.reduceNeg, reduceCtorEq, true_and, and_true, Int.toNat_natCast, List.getElem?_map, Option.map_some, List.length_map, List.length_take, List.length_drop, List.length_append, Nat.sub_zero, Int.toNat_zero, List.length_replicate, Bool.true_or, Bool.or_true, Bool.false_or, Bool.or_false, false_implies, implies_true] <;> rfl) | (show c + 2 ≤ c + 2; omega) | (have := o4 i h; have := hci i h; simp (disch := omega) only [go_sem, this, Nat.reduceAdd, Nat.reduceSub, Nat.reduceMul, Nat.reduceLeDiff, Nat.reduceLT, Nat.reduceEqDiff, Int.reduceLT, Int.reduceLE, Int.reduceToNat, Int.reduceAdd, Int.reduceSub, Int.reduceMul, Int.reduceEq, Int.reduceNeg, reduceCtorEq, true_and, and_true, Int.toNat_natCast, List.getElem?_map, Option.map_some, List.length_map, List.length_take, List.length_drop, List.length_append, Nat.sub_zero, Int.toNat_zero, List.length_replicate, Bool.true_or, Bool.or_true, Bool.false_or, Bool.or_false, false_implies, implies_true]; done) | skip
  rintro j fr ⟨g', c'⟩ hj ⟨h1, h2, h3, h6, h8, h9, h10, h7, hcc, q0, q1, hcb, hS, hK, hFn, hC1, hci⟩
  dsimp only at hcc q0 q1 hcb hS hK hFn hC1 hci
  have hcin := hci node hcn
  have hpl : Plain (.sl (d.cache[node].map prV) false) := (plain_pr _ _).2 trivial
  have hlenS : (if fencedB d [d.keys[node]] = true then d.s else keepL kept d.cache[node] d.s j).length = d.s.length := by
    split
    · rfl
    · exact keepL_len _ _ _ _
  have hSk : ∀ i, i < d.s.length → ∃ y, (if fencedB d [d.keys[node]] = true then d.s else keepL kept d.cache[node] d.s j)[i]? = some y := fun i hi => ⟨_, List.getElem?_eq_getElem (by rw [hlenS]; exact hi)⟩
  by_cases hlt : j < d.cache[node].length ∧ j < 64
  · obtain ⟨hlt, h64⟩ := hlt
    have hxg : d.cache[node][j]? = some d.cache[node][j] := List.getElem?_eq_getElem hlt
    obtain ⟨⟨hx0, hx1, hx2⟩, _⟩ := hcp j hlt hlt
    obtain ⟨y, hy⟩ := hSk d.cache[node][j].n.toNat (by omega)
    have hnext : keepL kept d.cache[node] d.s (j + 1) = if kbit kept j then (keepL kept d.cache[node] d.s j).set d.cache[node][j].n.toNat d.cache[node][j].t else keepL kept d.cache[node] d.s j := by
      show (match d.cache[node][j]? with | none => _ | some x => _) = _
      rw [hxg]
    cases hfb : fencedB d [d.keys[node]] with
    | true =>
      rw [hfb] at hF hS hy
      rw [if_pos rfl] at hS hy
      (repeat' (first | with_reducible refine agr_d (fun hc => ?_) (fun hc => ?_) | with_reducible refine agr_n (fun hc => ?_) (fun hc => ?_) | with_reducible refine acd_d (fun hc => ?_) (fun hc => ?_) | with_reducible refine acd_n (fun hc => ?_) (fun hc => ?_) | with_reducible refine dgr_d (fun hc => ?_) (fun hc => ?_) | with_reducible refine dgr_n (fun hc => ?_) (fun hc => ?_) | with_reducible refine dl_sound _ _ [] [] [] _ _ (fun _ h => absurd h List.not_mem_nil) ?_ | with_reducible refine dc1_sc2 (sz := 1) (lk := 0) hpd ?_ ?_ hpk hF (.bool _) ?_ | simp (disch := omega) only [go_sem, h1, h2, h3, h6, h8, h9, h10, h7, q0, q1, hcb, hS, hK, hFn, hC1, hcin, hkg, hxg, hy, iif_neg, wrapU, List.size_toArray, Nat.reduceAdd, Nat.reduceSub, Nat.reduceMul, Nat.reduceLeDiff, Nat.reduceLT, Nat.reduceEqDiff, Int.reduceLT, Int.reduceLE, Int.reduceToNat, Int.reduceAdd, Int.reduceSub, Int.reduceMul, Int.reduceEq, Int.reduceNeg, reduceCtorEq, true_and, and_true, Int.toNat_natCast, List.getElem?_map, Option.map_some, List.length_map, List.length_take, List.length_drop, List.length_append, Nat.sub_zero, Int.toNat_zero, List.length_replicate, Bool.true_or, Bool.or_true, Bool.false_or, Bool.or_false, false_implies, implies_true]))
      · exact ⟨j + 1, by omega, by omega, rfl, by omega, fun i h => by have := o4 i h; rw [if_neg (by omega)]; exact hci i h⟩
      · exact ⟨j + 1, by omega, by omega, rfl, by omega, hci⟩
    | false =>
      rw [hfb] at hF hS hy
      rw [if_neg (by decide)] at hS hy
      have hset : ((keepL kept d.cache[node] d.s j).map txV).set d.cache[node][j].n.toNat [.str d.cache[node][j].t] = ((keepL kept d.cache[node] d.s j).set d.cache[node][j].n.toNat d.cache[node][j].t).map txV := by rw [List.map_set]; rfl
      (repeat' (first | with_reducible refine agr_d (fun hc => ?_) (fun hc => ?_) | with_reducible refine agr_n (fun hc => ?_) (fun hc => ?_) | with_reducible refine acd_d (fun hc => ?_) (fun hc => ?_) | with_reducible refine acd_n (fun hc => ?_) (fun hc => ?_) | with_reducible refine dgr_d (fun hc => ?_) (fun hc => ?_) | with_reducible refine dgr_n (fun hc => ?_) (fun hc => ?_) | with_reducible refine dl_sound _ _ [] [] [] _ _ (fun _ h => absurd h List.not_mem_nil) ?_ | with_reducible refine dc1_sc2 (sz := 1) (lk := 0) hpd ?_ ?_ hpk hF (.bool _) ?_ | simp (disch := omega) only [go_sem, h1, h2, h3, h6, h8, h9, h10, h7, q0, q1, hcb, hS, hK, hFn, hC1, hcin, hkg, hxg, hy, hset, iif_neg, wrapU, keepL_len, List.size_toArray, Nat.reduceAdd, Nat.reduceSub, Nat.reduceMul, Nat.reduceLeDiff, Nat.reduceLT, Nat.reduceEqDiff, Int.reduceLT, Int.reduceLE, Int.reduceToNat, Int.reduceAdd, Int.reduceSub, Int.reduceMul, Int.reduceEq, Int.reduceNeg, reduceCtorEq, true_and, and_true, Int.toNat_natCast, List.getElem?_map, Option.map_some, List.length_map, List.length_take, List.length_drop, List.length_append, Nat.sub_zero, Int.toNat_zero, List.length_replicate, Bool.true_or, Bool.or_true, Bool.false_or, Bool.or_false, false_implies, implies_true]))
      · refine ⟨j + 1, by omega, by omega, rfl, by omega, ?_, fun i h => ?_⟩
        · rw [hnext, if_pos (show kbit kept j from hc)]
        · have := o4 i h
          rw [if_neg (by omega), if_neg (by omega)]
          exact hci i h
      · refine ⟨j + 1, by omega, by omega, rfl, by omega, ?_, hci⟩
        rw [hnext, if_neg (show ¬ kbit kept j from hc)]
  · obtain rfl : j = min d.cache[node].length 64 := by omega
    generalize hSJ : (if fencedB d [d.keys[node]] = true then d.s else keepL kept d.cache[node] d.s (min d.cache[node].length 64)) = SJ at hS hlenS
    have go : ∀ (x : Prop), x → x := fun _ h => h
    by_cases hl : min d.cache[node].length 64 < d.cache[node].length
    · (repeat' (first | with_reducible refine agr_d (fun hc => ?_) (fun hc => ?_) | with_reducible refine agr_n (fun hc => ?_) (fun hc => ?_) | with_reducible refine acd_d (fun hc => ?_) (fun hc => ?_) | with_reducible refine acd_n (fun hc => ?_) (fun hc => ?_) | with_reducible refine dgr_d (fun hc => ?_) (fun hc => ?_) | with_reducible refine dgr_n (fun hc => ?_) (fun hc => ?_) | with_reducible refine dl_sound _ _ [] [] [] _ _ (fun _ h => absurd h List.not_mem_nil) ?_ | simp (disch := omega) only [go_sem, h1, h2, h3, h6, h8, h9, h10, h7, q0, q1, hcb, hS, hK, hFn, hC1, hcin, hcr, hkg, cRows_len, List.size_toArray, Nat.reduceAdd, Nat.reduceSub, Nat.reduceMul, Nat.reduceLeDiff, Nat.reduceLT, Nat.reduceEqDiff, Int.reduceLT, Int.reduceLE, Int.reduceToNat, Int.reduceAdd, Int.reduceSub, Int.reduceMul, Int.reduceEq, Int.reduceNeg, reduceCtorEq, true_and, and_true, Int.toNat_natCast, List.getElem?_map, Option.map_some, List.length_map, List.length_take, List.length_drop, List.length_append, Nat.sub_zero, Int.toNat_zero, List.length_replicate, Bool.true_or, Bool.or_true, Bool.false_or, Bool.or_false, false_implies, implies_true]))
      refine conEnd_f (.inl rfl) ?_
      simp (disch := omega) only [go_sem, h6, h7, hS, hK, hFn, hC1, hcin, Nat.reduceAdd, Nat.reduceSub, Nat.reduceMul, Nat.reduceLeDiff, Nat.reduceLT, Nat.reduceEqDiff, Int.reduceLT, Int.reduceLE, Int.reduceToNat, Int.reduceAdd, Int.reduceSub, Int.reduceMul, Int.reduceEq, Int.reduceNeg, reduceCtorEq, true_and, and_true, Int.toNat_natCast, List.getElem?_map, Option.map_some, List.length_map, List.length_take, List.length_drop, List.length_append, Nat.sub_zero, Int.toNat_zero, List.length_replicate, Bool.true_or, Bool.or_true, Bool.false_or, Bool.or_false, false_implies, implies_true]
      refine ⟨mny, _, fz_tup2 (fz_dev (d := { d with s := SJ, cache := d.cache.set node [] }) rfl (fz_row (sz := 1) (lk := 0) (es := SJ.map txV) ?_ (by simp [hlenS]) (by have := hd.s; omega) ((plain_tx _ _).2 trivial)) (fz_caches1 (lk := 0) (bc := bc) hd hcn ?_ (fun i h hne => ?_) (.weak [] true (.sl _ _ (by simp)))) (fz_row (sz := 1) (lk := 0) (es := d.keys.map inV) ?_ (by simp) (by have := hd.k; omega) ((plain_in _ _).2 trivial)) (fz_row (sz := 1) (lk := 0) (es := d.fen.map inV) ?_ (by simp) (by have := hd.f; omega) ((plain_in _ _).2 trivial))) (.plain _ (.int _ _)), by rw [← hSJ]⟩
      all_goals first | (simp (disch := omega) only [go_sem, hS, hK, hFn, hC1, hcin, Nat.reduceAdd, Nat.reduceSub, Nat.reduceMul, Nat.reduceLeDiff, Nat.reduceLT, Nat.reduceEqDiff, Int.reduceLT, Int.reduceLE, Int.reduceToNat, Int.reduceAdd, Int.reduceSub, Int.reduceMul, Int.reduceEq, Int.reduceNeg, reduceCtorEq, true_and, and_true, Int.toNat_natCast, List.getElem?_map, Option.map_some, List.length_map, List.length_take, List.length_drop, List.length_append, Nat.sub_zero, Int.toNat_zero, List.length_replicate, Bool.true_or, Bool.or_true, Bool.false_or, Bool.or_false, false_implies, implies_true]; done) | (have := o4 i h; have := hci i h; have : bc i ≠ bc node := (by rcases Nat.lt_or_gt_of_ne hne with h1 | h1 <;> first | exact Nat.ne_of_lt (o5 _ _ h1 hcn) | exact Nat.ne_of_gt (o5 _ _ h1 h)); simp (disch := omega) only [go_sem, hci i h, Nat.reduceAdd, Nat.reduceSub, Nat.reduceMul, Nat.reduceLeDiff, Nat.reduceLT, Nat.reduceEqDiff, Int.reduceLT, Int.reduceLE, Int.reduceToNat, Int.reduceAdd, Int.reduceSub, Int.reduceMul, Int.reduceEq, Int.reduceNeg, reduceCtorEq, true_and, and_true, Int.toNat_natCast, List.getElem?_map, Option.map_some, List.length_map, List.length_take, List.length_drop, List.length_append, Nat.sub_zero, Int.toNat_zero, List.length_replicate, Bool.true_or, Bool.or_true, Bool.false_or, Bool.or_false, false_implies, implies_true]; done) | exact hS | exact hK | exact hFn | skip
      all_goals trace_state
    · (repeat' (first | with_reducible refine agr_d (fun hc => ?_) (fun hc => ?_) | with_reducible refine agr_n (fun hc => ?_) (fun hc => ?_) | with_reducible refine acd_d (fun hc => ?_) (fun hc => ?_) | with_reducible refine acd_n (fun hc => ?_) (fun hc => ?_) | with_reducible refine dgr_d (fun hc => ?_) (fun hc => ?_) | with_reducible refine dgr_n (fun hc => ?_) (fun hc => ?_) | with_reducible refine dl_sound _ _ [] [] [] _ _ (fun _ h => absurd h List.not_mem_nil) ?_ | simp (disch := omega) only [go_sem, h1, h2, h3, h6, h8, h9, h10, h7, q0, q1, hcb, hS, hK, hFn, hC1, hcin, hcr, hkg, cRows_len, List.size_toArray, Nat.reduceAdd, Nat.reduceSub, Nat.reduceMul, Nat.reduceLeDiff, Nat.reduceLT, Nat.reduceEqDiff, Int.reduceLT, Int.reduceLE, Int.reduceToNat, Int.reduceAdd, Int.reduceSub, Int.reduceMul, Int.reduceEq, Int.reduceNeg, reduceCtorEq, true_and, and_true, Int.toNat_natCast, List.getElem?_map, Option.map_some, List.length_map, List.length_take, List.length_drop, List.length_append, Nat.sub_zero, Int.toNat_zero, List.length_replicate, Bool.true_or, Bool.or_true, Bool.false_or, Bool.or_false, false_implies, implies_true]))
      refine conEnd_f (.inl rfl) ?_
      simp (disch := omega) only [go_sem, h6, h7, hS, hK, hFn, hC1, hcin, Nat.reduceAdd, Nat.reduceSub, Nat.reduceMul, Nat.reduceLeDiff, Nat.reduceLT, Nat.reduceEqDiff, Int.reduceLT, Int.reduceLE, Int.reduceToNat, Int.reduceAdd, Int.reduceSub, Int.reduceMul, Int.reduceEq, Int.reduceNeg, reduceCtorEq, true_and, and_true, Int.toNat_natCast, List.getElem?_map, Option.map_some, List.length_map, List.length_take, List.length_drop, List.length_append, Nat.sub_zero, Int.toNat_zero, List.length_replicate, Bool.true_or, Bool.or_true, Bool.false_or, Bool.or_false, false_implies, implies_true]
      refine ⟨mny, _, fz_tup2 (fz_dev (d := { d with s := SJ, cache := d.cache.set node [] }) rfl (fz_row (sz := 1) (lk := 0) (es := SJ.map txV) ?_ (by simp [hlenS]) (by have := hd.s; omega) ((plain_tx _ _).2 trivial)) (fz_caches1 (lk := 0) (bc := bc) hd hcn ?_ (fun i h hne => ?_) (.weak [] true (.sl _ _ (by simp)))) (fz_row (sz := 1) (lk := 0) (es := d.keys.map inV) ?_ (by simp) (by have := hd.k; omega) ((plain_in _ _).2 trivial)) (fz_row (sz := 1) (lk := 0) (es := d.fen.map inV) ?_ (by simp) (by have := hd.f; omega) ((plain_in _ _).2 trivial))) (.plain _ (.int _ _)), by rw [← hSJ]⟩
      all_goals first | (simp (disch := omega) only [go_sem, hS, hK, hFn, hC1, hcin, Nat.reduceAdd, Nat.reduceSub, Nat.reduceMul, Nat.reduceLeDiff, Nat.reduceLT, Nat.reduceEqDiff, Int.reduceLT, Int.reduceLE, Int.reduceToNat, Int.reduceAdd, Int.reduceSub, Int.reduceMul, Int.reduceEq, Int.reduceNeg, reduceCtorEq, true_and, and_true, Int.toNat_natCast, List.getElem?_map, Option.map_some, List.length_map, List.length_take, List.length_drop, List.length_append, Nat.sub_zero, Int.toNat_zero, List.length_replicate, Bool.true_or, Bool.or_true, Bool.false_or, Bool.or_false, false_implies, implies_true]; done) | (have := o4 i h; have := hci i h; have : bc i ≠ bc node := (by rcases Nat.lt_or_gt_of_ne hne with h1 | h1 <;> first | exact Nat.ne_of_lt (o5 _ _ h1 hcn) | exact Nat.ne_of_gt (o5 _ _ h1 h)); simp (disch := omega) only [go_sem, hci i h, Nat.reduceAdd, Nat.reduceSub, Nat.reduceMul, Nat.reduceLeDiff, Nat.reduceLT, Nat.reduceEqDiff, Int.reduceLT, Int.reduceLE, Int.reduceToNat, Int.reduceAdd, Int.reduceSub, Int.reduceMul, Int.reduceEq, Int.reduceNeg, reduceCtorEq, true_and, and_true, Int.toNat_natCast, List.getElem?_map, Option.map_some, List.length_map, List.length_take, List.length_drop, List.length_append, Nat.sub_zero, Int.toNat_zero, List.length_replicate, Bool.true_or, Bool.or_true, Bool.false_or, Bool.or_false, false_implies, implies_true]; done) | exact hS | exact hK | exact hFn | skip
      all_goals trace_state
end Go.Proofs.Ytllijcnbjbfabaa

namespace Go.Proofs.Ytllijcnbjbfabaa
open Go.RowKit
set_option linter.unusedSimpArgs false
set_option linter.unusedVariables false

abbrev newD (n : Nat) (ss : List ByteArray) : Dev := ⟨ss, List.replicate n [], List.replicate n 0, 1, []⟩
abbrev noD : Dev := ⟨[], [], [], 0, []⟩
def newR' (nodes : Int) (ss : List ByteArray) : Dev × Int := if nodes < 1 ∨ 16 < nodes then (noD, 2) else if checkB (newD nodes.toNat ss) = true then (newD nodes.toNat ss, 0) else (noD, 2)
theorem newD_ok {n : Nat} {ss : List ByteArray} (hn : n ≤ 16) (hs : ss.length ≤ 1000000) (hi : ∀ i (h : i < ss.length), ss[i].size ≤ 1000000000) : DevOk (newD n ss) :=
  ⟨hs, by simp; omega, fun i h => by simp, by simp; omega, fun i h => by simp, by simp, by simp, fun i h => by simp at h, hi⟩
theorem fz_newC {st : St} {b n cap : Nat} (hk : st.get b = some ⟨List.replicate n [V.sl [] true], 1, 0⟩) (hn : n ≤ 16) : Fz st mny (.bs b 0 n cap) (.sl ((List.replicate n ([] : List Pr)).map ccV) false) := by
  have e : List.replicate n [V.sl [] true] = (List.replicate n (V.sl [] true)).map (fun v => [v]) := by rw [List.map_replicate]
  rw [e] at hk
  have := fz_cache (l := List.replicate n ([] : List Pr)) (n := n) (cap := cap) hk (by simp) (by omega) (by simp) (fun i h h' => by
    simp only [List.getElem_replicate]
    exact .weak [] true (.sl _ _ (by simp)))
  exact this
set_option maxRecDepth 100000 in
set_option maxHeartbeats 16000000 in
theorem New_con (nodes : Int) (ss : List ByteArray) (fl : Bool) (hs : ss.length ≤ 1000000) (hi : ∀ i (h : i < ss.length), ss[i].size ≤ 1000000000) : PCon Try.prog 11 [.int .i64 nodes, .sl (ss.map txV) fl] (pairV (newR' nodes ss)) := by
  refine ⟨?_, by (simp only [List.nil_append, List.cons_append, List.append_nil, List.forall_mem_cons, List.not_mem_nil, false_implies, implies_true, and_true, true_and, plain_agg, plain_tup, plain_int, plain_bool, plain_str, plain_nilp, plain_nilfn, plain_undef, plain_dev, plain_pr, plain_tx, plain_in, plain_cc])⟩
  refine con_of_awp Try.func11 rfl mixed (by decide) rfl (by kernel_rfl) rfl ?_
  by_cases g1 : nodes < 1
  · rw [show newR' nodes ss = (noD, 2) from if_pos (.inl g1)]
    (repeat' (first | with_reducible refine agr_d (fun hc => ?_) (fun hc => ?_) | with_reducible refine agr_n (fun hc => ?_) (fun hc => ?_) | with_reducible refine acd_d (fun hc => ?_) (fun hc => ?_) | with_reducible refine acd_n (fun hc => ?_) (fun hc => ?_) | with_reducible refine dgr_d (fun hc => ?_) (fun hc => ?_) | with_reducible refine dgr_n (fun hc => ?_) (fun hc => ?_) | with_reducible refine dl_sound _ _ [] [] [] _ _ (fun _ h => absurd h List.not_mem_nil) ?_ | simp (disch := omega) only [go_sem, pairV, noD, Nat.reduceAdd, Nat.reduceSub, Nat.reduceMul, Nat.reduceLeDiff, Nat.reduceLT, Nat.reduceEqDiff, Int.reduceLT, Int.reduceLE, Int.reduceToNat, Int.reduceAdd, Int.reduceSub, Int.reduceMul, Int.reduceEq, Int.reduceNeg, reduceCtorEq, true_and, and_true, Int.toNat_natCast, List.getElem?_map, Option.map_some, List.length_map, List.length_take, List.length_drop, List.length_append, Nat.sub_zero, Int.toNat_zero, List.length_replicate, Bool.true_or, Bool.or_true, Bool.false_or, Bool.or_false, false_implies, implies_true]))
    refine conEnd_f (.inl rfl) ?_
    simp (disch := omega) only [go_sem, Nat.reduceAdd, Nat.reduceSub, Nat.reduceMul, Nat.reduceLeDiff, Nat.reduceLT, Nat.reduceEqDiff, Int.reduceLT, Int.reduceLE, Int.reduceToNat, Int.reduceAdd, Int.reduceSub, Int.reduceMul, Int.reduceEq, Int.reduceNeg, reduceCtorEq, true_and, and_true, Int.toNat_natCast, List.getElem?_map, Option.map_some, List.length_map, List.length_take, List.length_drop, List.length_append, Nat.sub_zero, Int.toNat_zero, List.length_replicate, Bool.true_or, Bool.or_true, Bool.false_or, Bool.or_false, false_implies, implies_true]
    exact ⟨mny, _, fz_tup2 (fz_dev (d := noD) rfl (.weak [] true (.sl _ _ (by simp))) (.weak [] true (.sl _ _ (by simp))) (.weak [] true (.sl _ _ (by simp))) (.weak [] true (.sl _ _ (by simp)))) (.plain _ (.int _ _)), rfl⟩
  by_cases g2 : 16 < nodes
  · rw [show newR' nodes ss = (noD, 2) from if_pos (.inr g2)]
    (repeat' (first | with_reducible refine agr_d (fun hc => ?_) (fun hc => ?_) | with_reducible refine agr_n (fun hc => ?_) (fun hc => ?_) | with_reducible refine acd_d (fun hc => ?_) (fun hc => ?_) | with_reducible refine acd_n (fun hc => ?_) (fun hc => ?_) | with_reducible refine dgr_d (fun hc => ?_) (fun hc => ?_) | with_reducible refine dgr_n (fun hc => ?_) (fun hc => ?_) | with_reducible refine dl_sound _ _ [] [] [] _ _ (fun _ h => absurd h List.not_mem_nil) ?_ | simp (disch := omega) only [go_sem, pairV, noD, Nat.reduceAdd, Nat.reduceSub, Nat.reduceMul, Nat.reduceLeDiff, Nat.reduceLT, Nat.reduceEqDiff, Int.reduceLT, Int.reduceLE, Int.reduceToNat, Int.reduceAdd, Int.reduceSub, Int.reduceMul, Int.reduceEq, Int.reduceNeg, reduceCtorEq, true_and, and_true, Int.toNat_natCast, List.getElem?_map, Option.map_some, List.length_map, List.length_take, List.length_drop, List.length_append, Nat.sub_zero, Int.toNat_zero, List.length_replicate, Bool.true_or, Bool.or_true, Bool.false_or, Bool.or_false, false_implies, implies_true]))
    refine conEnd_f (.inl rfl) ?_
    simp (disch := omega) only [go_sem, Nat.reduceAdd, Nat.reduceSub, Nat.reduceMul, Nat.reduceLeDiff, Nat.reduceLT, Nat.reduceEqDiff, Int.reduceLT, Int.reduceLE, Int.reduceToNat, Int.reduceAdd, Int.reduceSub, Int.reduceMul, Int.reduceEq, Int.reduceNeg, reduceCtorEq, true_and, and_true, Int.toNat_natCast, List.getElem?_map, Option.map_some, List.length_map, List.length_take, List.length_drop, List.length_append, Nat.sub_zero, Int.toNat_zero, List.length_replicate, Bool.true_or, Bool.or_true, Bool.false_or, Bool.or_false, false_implies, implies_true]
    exact ⟨mny, _, fz_tup2 (fz_dev (d := noD) rfl (.weak [] true (.sl _ _ (by simp))) (.weak [] true (.sl _ _ (by simp))) (.weak [] true (.sl _ _ (by simp))) (.weak [] true (.sl _ _ (by simp)))) (.plain _ (.int _ _)), rfl⟩
  rw [show newR' nodes ss = _ from if_neg (by omega)]
  obtain ⟨n, rfl⟩ : ∃ n : Nat, nodes = n := ⟨nodes.toNat, by omega⟩
  rw [Int.toNat_natCast]
  have hd := newD_ok (n := n) (ss := ss) (by omega) hs hi
  have hc := Check_con (newD n ss) hd
  have hrep : List.replicate n [V.int .i64 0] = (List.replicate n (0 : Int)).map inV := by rw [List.map_replicate]; rfl
  cases hb : checkB (newD n ss) with
  | true =>
    rw [if_pos rfl]
    rw [show chk (newD n ss) = 0 by unfold chk; rw [hb]; rfl] at hc
    (repeat' (first | with_reducible refine agr_d (fun hc => ?_) (fun hc => ?_) | with_reducible refine agr_n (fun hc => ?_) (fun hc => ?_) | with_reducible refine acd_d (fun hc => ?_) (fun hc => ?_) | with_reducible refine acd_n (fun hc => ?_) (fun hc => ?_) | with_reducible refine dgr_d (fun hc => ?_) (fun hc => ?_) | with_reducible refine dgr_n (fun hc => ?_) (fun hc => ?_) | with_reducible refine dl_sound _ _ [] [] [] _ _ (fun _ h => absurd h List.not_mem_nil) ?_ | simp (disch := omega) only [go_sem, pairV, noD, hrep, List.size_toArray, Nat.reduceAdd, Nat.reduceSub, Nat.reduceMul, Nat.reduceLeDiff, Nat.reduceLT, Nat.reduceEqDiff, Int.reduceLT, Int.reduceLE, Int.reduceToNat, Int.reduceAdd, Int.reduceSub, Int.reduceMul, Int.reduceEq, Int.reduceNeg, reduceCtorEq, true_and, and_true, Int.toNat_natCast, List.getElem?_map, Option.map_some, List.length_map, List.length_take, List.length_drop, List.length_append, Nat.sub_zero, Int.toNat_zero, List.length_replicate, Bool.true_or, Bool.or_true, Bool.false_or, Bool.or_false, false_implies, implies_true]))
    refine ac1_sc mny (fzs_one (fz_dev (d := newD n ss) rfl (fz_row (sz := 1) (lk := 0) (es := ss.map txV) ?_ (by simp) (by omega) ((plain_tx _ _).2 trivial)) (fz_newC ?_ (by omega)) (fz_row (sz := 1) (lk := 0) (es := (List.replicate n (0 : Int)).map inV) ?_ (by simp) (by omega) ((plain_in _ _).2 trivial)) (.weak [] true (.sl _ _ (by simp))))) hc (.int _ _) ?_
    · simp (disch := omega) only [go_sem, Nat.reduceAdd, Nat.reduceSub, Nat.reduceMul, Nat.reduceLeDiff, Nat.reduceLT, Nat.reduceEqDiff, Int.reduceLT, Int.reduceLE, Int.reduceToNat, Int.reduceAdd, Int.reduceSub, Int.reduceMul, Int.reduceEq, Int.reduceNeg, reduceCtorEq, true_and, and_true, Int.toNat_natCast, List.getElem?_map, Option.map_some, List.length_map, List.length_take, List.length_drop, List.length_append, Nat.sub_zero, Int.toNat_zero, List.length_replicate, Bool.true_or, Bool.or_true, Bool.false_or, Bool.or_false, false_implies, implies_true]
    · simp (disch := omega) only [go_sem, Nat.reduceAdd, Nat.reduceSub, Nat.reduceMul, Nat.reduceLeDiff, Nat.reduceLT, Nat.reduceEqDiff, Int.reduceLT, Int.reduceLE, Int.reduceToNat, Int.reduceAdd, Int.reduceSub, Int.reduceMul, Int.reduceEq, Int.reduceNeg, reduceCtorEq, true_and, and_true, Int.toNat_natCast, List.getElem?_map, Option.map_some, List.length_map, List.length_take, List.length_drop, List.length_append, Nat.sub_zero, Int.toNat_zero, List.length_replicate, Bool.true_or, Bool.or_true, Bool.false_or, Bool.or_false, false_implies, implies_true]
    · simp (disch := omega) only [go_sem, Nat.reduceAdd, Nat.reduceSub, Nat.reduceMul, Nat.reduceLeDiff, Nat.reduceLT, Nat.reduceEqDiff, Int.reduceLT, Int.reduceLE, Int.reduceToNat, Int.reduceAdd, Int.reduceSub, Int.reduceMul, Int.reduceEq, Int.reduceNeg, reduceCtorEq, true_and, and_true, Int.toNat_natCast, List.getElem?_map, Option.map_some, List.length_map, List.length_take, List.length_drop, List.length_append, Nat.sub_zero, Int.toNat_zero, List.length_replicate, Bool.true_or, Bool.or_true, Bool.false_or, Bool.or_false, false_implies, implies_true]
    (repeat' (first | with_reducible refine agr_d (fun hc => ?_) (fun hc => ?_) | with_reducible refine agr_n (fun hc => ?_) (fun hc => ?_) | with_reducible refine acd_d (fun hc => ?_) (fun hc => ?_) | with_reducible refine acd_n (fun hc => ?_) (fun hc => ?_) | with_reducible refine dgr_d (fun hc => ?_) (fun hc => ?_) | with_reducible refine dgr_n (fun hc => ?_) (fun hc => ?_) | with_reducible refine dl_sound _ _ [] [] [] _ _ (fun _ h => absurd h List.not_mem_nil) ?_ | simp (disch := omega) only [go_sem, pairV, noD, hrep, List.size_toArray, Nat.reduceAdd, Nat.reduceSub, Nat.reduceMul, Nat.reduceLeDiff, Nat.reduceLT, Nat.reduceEqDiff, Int.reduceLT, Int.reduceLE, Int.reduceToNat, Int.reduceAdd, Int.reduceSub, Int.reduceMul, Int.reduceEq, Int.reduceNeg, reduceCtorEq, true_and, and_true, Int.toNat_natCast, List.getElem?_map, Option.map_some, List.length_map, List.length_take, List.length_drop, List.length_append, Nat.sub_zero, Int.toNat_zero, List.length_replicate, Bool.true_or, Bool.or_true, Bool.false_or, Bool.or_false, false_implies, implies_true]))
    refine conEnd_f (.inl rfl) ?_
    simp (disch := omega) only [go_sem, Nat.reduceAdd, Nat.reduceSub, Nat.reduceMul, Nat.reduceLeDiff, Nat.reduceLT, Nat.reduceEqDiff, Int.reduceLT, Int.reduceLE, Int.reduceToNat, Int.reduceAdd, Int.reduceSub, Int.reduceMul, Int.reduceEq, Int.reduceNeg, reduceCtorEq, true_and, and_true, Int.toNat_natCast, List.getElem?_map, Option.map_some, List.length_map, List.length_take, List.length_drop, List.length_append, Nat.sub_zero, Int.toNat_zero, List.length_replicate, Bool.true_or, Bool.or_true, Bool.false_or, Bool.or_false, false_implies, implies_true]
    refine ⟨mny, _, fz_tup2 (fz_dev (d := newD n ss) rfl (fz_row (sz := 1) (lk := 0) (es := ss.map txV) ?_ (by simp) (by omega) ((plain_tx _ _).2 trivial)) (fz_newC ?_ (by omega)) (fz_row (sz := 1) (lk := 0) (es := (List.replicate n (0 : Int)).map inV) ?_ (by simp) (by omega) ((plain_in _ _).2 trivial)) (.weak [] true (.sl _ _ (by simp)))) (.plain _ (.int _ _)), rfl⟩
    · simp (disch := omega) only [go_sem, Nat.reduceAdd, Nat.reduceSub, Nat.reduceMul, Nat.reduceLeDiff, Nat.reduceLT, Nat.reduceEqDiff, Int.reduceLT, Int.reduceLE, Int.reduceToNat, Int.reduceAdd, Int.reduceSub, Int.reduceMul, Int.reduceEq, Int.reduceNeg, reduceCtorEq, true_and, and_true, Int.toNat_natCast, List.getElem?_map, Option.map_some, List.length_map, List.length_take, List.length_drop, List.length_append, Nat.sub_zero, Int.toNat_zero, List.length_replicate, Bool.true_or, Bool.or_true, Bool.false_or, Bool.or_false, false_implies, implies_true]
    · simp (disch := omega) only [go_sem, Nat.reduceAdd, Nat.reduceSub, Nat.reduceMul, Nat.reduceLeDiff, Nat.reduceLT, Nat.reduceEqDiff, Int.reduceLT, Int.reduceLE, Int.reduceToNat, Int.reduceAdd, Int.reduceSub, Int.reduceMul, Int.reduceEq, Int.reduceNeg, reduceCtorEq, true_and, and_true, Int.toNat_natCast, List.getElem?_map, Option.map_some, List.length_map, List.length_take, List.length_drop, List.length_append, Nat.sub_zero, Int.toNat_zero, List.length_replicate, Bool.true_or, Bool.or_true, Bool.false_or, Bool.or_false, false_implies, implies_true]
    · simp (disch := omega) only [go_sem, Nat.reduceAdd, Nat.reduceSub, Nat.reduceMul, Nat.reduceLeDiff, Nat.reduceLT, Nat.reduceEqDiff, Int.reduceLT, Int.reduceLE, Int.reduceToNat, Int.reduceAdd, Int.reduceSub, Int.reduceMul, Int.reduceEq, Int.reduceNeg, reduceCtorEq, true_and, and_true, Int.toNat_natCast, List.getElem?_map, Option.map_some, List.length_map, List.length_take, List.length_drop, List.length_append, Nat.sub_zero, Int.toNat_zero, List.length_replicate, Bool.true_or, Bool.or_true, Bool.false_or, Bool.or_false, false_implies, implies_true]
  | false =>
    rw [if_neg (by decide)]
    rw [show chk (newD n ss) = 2 by unfold chk; rw [hb]; rfl] at hc
    (repeat' (first | with_reducible refine agr_d (fun hc => ?_) (fun hc => ?_) | with_reducible refine agr_n (fun hc => ?_) (fun hc => ?_) | with_reducible refine acd_d (fun hc => ?_) (fun hc => ?_) | with_reducible refine acd_n (fun hc => ?_) (fun hc => ?_) | with_reducible refine dgr_d (fun hc => ?_) (fun hc => ?_) | with_reducible refine dgr_n (fun hc => ?_) (fun hc => ?_) | with_reducible refine dl_sound _ _ [] [] [] _ _ (fun _ h => absurd h List.not_mem_nil) ?_ | simp (disch := omega) only [go_sem, pairV, noD, hrep, List.size_toArray, Nat.reduceAdd, Nat.reduceSub, Nat.reduceMul, Nat.reduceLeDiff, Nat.reduceLT, Nat.reduceEqDiff, Int.reduceLT, Int.reduceLE, Int.reduceToNat, Int.reduceAdd, Int.reduceSub, Int.reduceMul, Int.reduceEq, Int.reduceNeg, reduceCtorEq, true_and, and_true, Int.toNat_natCast, List.getElem?_map, Option.map_some, List.length_map, List.length_take, List.length_drop, List.length_append, Nat.sub_zero, Int.toNat_zero, List.length_replicate, Bool.true_or, Bool.or_true, Bool.false_or, Bool.or_false, false_implies, implies_true]))
    refine ac1_sc mny (fzs_one (fz_dev (d := newD n ss) rfl (fz_row (sz := 1) (lk := 0) (es := ss.map txV) ?_ (by simp) (by omega) ((plain_tx _ _).2 trivial)) (fz_newC ?_ (by omega)) (fz_row (sz := 1) (lk := 0) (es := (List.replicate n (0 : Int)).map inV) ?_ (by simp) (by omega) ((plain_in _ _).2 trivial)) (.weak [] true (.sl _ _ (by simp))))) hc (.int _ _) ?_
    · simp (disch := omega) only [go_sem, Nat.reduceAdd, Nat.reduceSub, Nat.reduceMul, Nat.reduceLeDiff, Nat.reduceLT, Nat.reduceEqDiff, Int.reduceLT, Int.reduceLE, Int.reduceToNat, Int.reduceAdd, Int.reduceSub, Int.reduceMul, Int.reduceEq, Int.reduceNeg, reduceCtorEq, true_and, and_true, Int.toNat_natCast, List.getElem?_map, Option.map_some, List.length_map, List.length_take, List.length_drop, List.length_append, Nat.sub_zero, Int.toNat_zero, List.length_replicate, Bool.true_or, Bool.or_true, Bool.false_or, Bool.or_false, false_implies, implies_true]
    · simp (disch := omega) only [go_sem, Nat.reduceAdd, Nat.reduceSub, Nat.reduceMul, Nat.reduceLeDiff, Nat.reduceLT, Nat.reduceEqDiff, Int.reduceLT, Int.reduceLE, Int.reduceToNat, Int.reduceAdd, Int.reduceSub, Int.reduceMul, Int.reduceEq, Int.reduceNeg, reduceCtorEq, true_and, and_true, Int.toNat_natCast, List.getElem?_map, Option.map_some, List.length_map, List.length_take, List.length_drop, List.length_append, Nat.sub_zero, Int.toNat_zero, List.length_replicate, Bool.true_or, Bool.or_true, Bool.false_or, Bool.or_false, false_implies, implies_true]
    · simp (disch := omega) only [go_sem, Nat.reduceAdd, Nat.reduceSub, Nat.reduceMul, Nat.reduceLeDiff, Nat.reduceLT, Nat.reduceEqDiff, Int.reduceLT, Int.reduceLE, Int.reduceToNat, Int.reduceAdd, Int.reduceSub, Int.reduceMul, Int.reduceEq, Int.reduceNeg, reduceCtorEq, true_and, and_true, Int.toNat_natCast, List.getElem?_map, Option.map_some, List.length_map, List.length_take, List.length_drop, List.length_append, Nat.sub_zero, Int.toNat_zero, List.length_replicate, Bool.true_or, Bool.or_true, Bool.false_or, Bool.or_false, false_implies, implies_true]
    (repeat' (first | with_reducible refine agr_d (fun hc => ?_) (fun hc => ?_) | with_reducible refine agr_n (fun hc => ?_) (fun hc => ?_) | with_reducible refine acd_d (fun hc => ?_) (fun hc => ?_) | with_reducible refine acd_n (fun hc => ?_) (fun hc => ?_) | with_reducible refine dgr_d (fun hc => ?_) (fun hc => ?_) | with_reducible refine dgr_n (fun hc => ?_) (fun hc => ?_) | with_reducible refine dl_sound _ _ [] [] [] _ _ (fun _ h => absurd h List.not_mem_nil) ?_ | simp (disch := omega) only [go_sem, pairV, noD, hrep, List.size_toArray, Nat.reduceAdd, Nat.reduceSub, Nat.reduceMul, Nat.reduceLeDiff, Nat.reduceLT, Nat.reduceEqDiff, Int.reduceLT, Int.reduceLE, Int.reduceToNat, Int.reduceAdd, Int.reduceSub, Int.reduceMul, Int.reduceEq, Int.reduceNeg, reduceCtorEq, true_and, and_true, Int.toNat_natCast, List.getElem?_map, Option.map_some, List.length_map, List.length_take, List.length_drop, List.length_append, Nat.sub_zero, Int.toNat_zero, List.length_replicate, Bool.true_or, Bool.or_true, Bool.false_or, Bool.or_false, false_implies, implies_true]))
    refine conEnd_f (.inl rfl) ?_
    simp (disch := omega) only [go_sem, Nat.reduceAdd, Nat.reduceSub, Nat.reduceMul, Nat.reduceLeDiff, Nat.reduceLT, Nat.reduceEqDiff, Int.reduceLT, Int.reduceLE, Int.reduceToNat, Int.reduceAdd, Int.reduceSub, Int.reduceMul, Int.reduceEq, Int.reduceNeg, reduceCtorEq, true_and, and_true, Int.toNat_natCast, List.getElem?_map, Option.map_some, List.length_map, List.length_take, List.length_drop, List.length_append, Nat.sub_zero, Int.toNat_zero, List.length_replicate, Bool.true_or, Bool.or_true, Bool.false_or, Bool.or_false, false_implies, implies_true]
    exact ⟨mny, _, fz_tup2 (fz_dev (d := noD) rfl (.weak [] true (.sl _ _ (by simp))) (.weak [] true (.sl _ _ (by simp))) (.weak [] true (.sl _ _ (by simp))) (.weak [] true (.sl _ _ (by simp)))) (.plain _ (.int _ _)), rfl⟩
end Go.Proofs.Ytllijcnbjbfabaa

namespace Go.Proofs.Ytllijcnbjbfabaa
open Go.RowKit
set_option linter.unusedSimpArgs false
set_option linter.unusedVariables false

def setL (s : List ByteArray) (l : List Pr) : List ByteArray := l.foldl (fun s c => s.set c.n.toNat c.t) s
def wantL (x : ByteArray) (n : Int) (l : List Pr) : ByteArray := l.foldl (fun x c => if c.n = n then c.t else x) x
theorem setL_len (s : List ByteArray) (l : List Pr) : (setL s l).length = s.length := by
  induction l generalizing s with
  | nil => rfl
  | cons c l ih => show (setL (s.set c.n.toNat c.t) l).length = _; rw [ih, List.length_set]
theorem setL_snoc (s : List ByteArray) (l : List Pr) (c : Pr) : setL s (l ++ [c]) = (setL s l).set c.n.toNat c.t := by simp [setL]
theorem wantL_snoc (x : ByteArray) (n : Int) (l : List Pr) (c : Pr) : wantL x n (l ++ [c]) = if c.n = n then c.t else wantL x n l := by simp [wantL]
theorem setL_get (s : List ByteArray) (l : List Pr) (hl : ∀ c ∈ l, 0 ≤ c.n) (n : Nat) (hn : n < s.length) : (setL s l)[n]? = some (wantL s[n] n l) := by
  induction l generalizing s with
  | nil => exact List.getElem?_eq_getElem hn
  | cons c l ih =>
    show (setL (s.set c.n.toNat c.t) l)[n]? = some (wantL (if c.n = (n : Int) then c.t else s[n]) n l)
    rw [ih _ (fun x hx => hl x (List.mem_cons_of_mem _ hx)) (by simpa using hn), List.getElem_set]
    have h0 := hl c (by simp)
    by_cases h : c.n = (n : Int)
    · rw [if_pos h, if_pos (by omega)]
    · rw [if_neg h, if_neg (by omega)]
/-- each sector is what it was, or what one of the cells has for it -/
def OneOf (s : List ByteArray) (cs : List Pr) (l : List ByteArray) : Prop := ∀ j (h : j < s.length), ∃ y, l[j]? = some y ∧ (y = s[j] ∨ ∃ c ∈ cs, c.n = (j : Int) ∧ y = c.t)
theorem OneOf.refl (s : List ByteArray) (cs : List Pr) : OneOf s cs s := fun j h => ⟨s[j], List.getElem?_eq_getElem h, .inl rfl⟩
theorem OneOf.set {s : List ByteArray} {cs : List Pr} {l : List ByteArray} (h : OneOf s cs l) {c : Pr} (hc : c ∈ cs) (h0 : 0 ≤ c.n) : OneOf s cs (l.set c.n.toNat c.t) := fun j hj => by
  obtain ⟨y, h1, h2⟩ := h j hj
  rw [List.getElem?_set]
  by_cases e : c.n.toNat = j
  · have hjl : j < l.length := by
      rcases Nat.lt_or_ge j l.length with h | h
      · exact h
      · rw [List.getElem?_eq_none h] at h1; cases h1
    exact ⟨c.t, by rw [if_pos e, if_pos (by omega)], .inr ⟨c, hc, by omega, rfl⟩⟩
  · exact ⟨y, by rw [if_neg e]; exact h1, h2⟩
theorem OneOf.setL {s : List ByteArray} {cs : List Pr} {l : List ByteArray} (h : OneOf s cs l) (m : List Pr) (hm : ∀ c ∈ m, c ∈ cs ∧ 0 ≤ c.n) : OneOf s cs (setL l m) := by
  induction m generalizing l with
  | nil => exact h
  | cons c m ih => exact ih (h.set (hm c (by simp)).1 (hm c (by simp)).2) (fun x hx => hm x (List.mem_cons_of_mem _ hx))
theorem OneOf.keepL {s : List ByteArray} {cs : List Pr} {l : List ByteArray} (h : OneOf s cs l) (kept : Int) (m : List Pr) (hm : ∀ c ∈ m, c ∈ cs ∧ 0 ≤ c.n) (j : Nat) : OneOf s cs (keepL kept m l j) := by
  induction j with
  | zero => exact h
  | succ j ih =>
    simp only [Go.Proofs.Ytllijcnbjbfabaa.keepL]
    split
    · exact ih
    · rename_i x hx
      have := hm x (List.mem_of_getElem? hx)
      split
      · exact ih.set this.1 this.2
      · exact ih

/-- what settling needs -/
structure StandOk (s : List ByteArray) (cs : List Pr) (hs : Nat) (hd : ByteArray) (nd : Nat) : Prop where
  s0 : hs < s.length
  s1 : s.length ≤ 100000
  si : ∀ x ∈ s, x.size ≤ 512
  hd : hd.size ≤ 512
  cn : ∀ c ∈ cs, 0 ≤ c.n ∧ c.n < s.length ∧ c.t.size ≤ 512 ∧ c.n ≠ hs
  inc : ∀ i j (hi : i < cs.length) (hj : j < cs.length), i < j → cs[i].n < cs[j].n
  n0 : 1 ≤ nd
  n1 : nd ≤ 16
  cl : cs.length ≤ 100000
def sAt (s : List ByteArray) (cs : List Pr) (hs : Nat) (hd : ByteArray) (m : Nat) : List ByteArray := if m ≤ 2 * cs.length then setL s (cs.take (m - cs.length)) else (setL s cs).set hs hd
abbrev devAt (s : List ByteArray) (cs : List Pr) (hs : Nat) (hd : ByteArray) (nd m : Nat) : Dev := ⟨sAt s cs hs hd m, (cs.take m).drop (m - cs.length) :: List.replicate (nd - 1) [], 16 :: List.replicate (nd - 1) 0, 2, []⟩
section
variable {s : List ByteArray} {cs : List Pr} {hs : Nat} {hd : ByteArray} {nd : Nat}
theorem sAt_len (m : Nat) : (sAt s cs hs hd m).length = s.length := by
  unfold sAt
  split
  · exact setL_len _ _
  · rw [List.length_set, setL_len]
theorem setL_size {l : List Pr} (h : ∀ x ∈ s, x.size ≤ 512) (hl : ∀ c ∈ l, c.t.size ≤ 512) : ∀ x ∈ setL s l, x.size ≤ 512 := by
  induction l generalizing s with
  | nil => exact h
  | cons c l ih =>
    refine ih (s := s.set c.n.toNat c.t) (fun x hx => ?_) (fun x hx => hl x (List.mem_cons_of_mem _ hx))
    rcases List.mem_or_eq_of_mem_set hx with h1 | rfl
    · exact h x h1
    · exact hl c (by simp)
theorem sAt_size (H : StandOk s cs hs hd nd) (m : Nat) : ∀ x ∈ sAt s cs hs hd m, x.size ≤ 512 := by
  have hc : ∀ c ∈ cs, c.t.size ≤ 512 := fun c hc => (H.cn c hc).2.2.1
  unfold sAt
  split
  · exact setL_size H.si (fun c h => hc c (List.mem_of_mem_take h))
  · intro x hx
    rcases List.mem_or_eq_of_mem_set hx with h1 | rfl
    · exact setL_size H.si hc x h1
    · exact H.hd
theorem mem_cache {m : Nat} {c : Pr} (h : c ∈ (cs.take m).drop (m - cs.length)) : c ∈ cs := List.mem_of_mem_take (List.mem_of_mem_drop h)
theorem cache_may (H : StandOk s cs hs hd nd) (m : Nat) : cachedB s.length [] ((cs.take m).drop (m - cs.length)) = true := by
  rw [cachedB_iff]
  intro t ht
  have hmem := H.cn _ (mem_cache (List.getElem_mem ht))
  refine ⟨⟨hmem.1, hmem.2.1, hmem.2.2.1⟩, by simp, fun k hk hkt => ?_⟩
  simp only [List.getElem_drop, List.getElem_take]
  simp only [List.length_drop, List.length_take] at ht
  have := H.inc (m - cs.length + k) (m - cs.length + t) (by omega) (by omega) (by omega)
  omega
theorem devAt_may (H : StandOk s cs hs hd nd) (m : Nat) : MayD (devAt s cs hs hd nd m) := by
  have hn0 := H.n0
  have hn1 := H.n1
  have hs0 := H.s0
  refine ⟨?_, ?_, ?_, ?_, ?_, ?_, fun t h => ?_, fun t h => ?_, fun t h => ?_, ?_⟩
  · show 1 ≤ (sAt s cs hs hd m).length
    rw [sAt_len]; omega
  · simp
  · simp; omega
  · simp
  · show (1 : Int) ≤ 2; omega
  · show (2 : Int) ≤ _; omega
  · exact sAt_size H m _ (List.getElem_mem h)
  · show cachedB ((sAt s cs hs hd m).length : Int) [] _ = true
    rw [sAt_len]
    cases t with
    | zero => exact cache_may H m
    | succ t =>
      rw [List.getD_eq_getElem?_getD, List.getElem?_cons_succ, List.getElem?_replicate]
      split <;> rfl
  · cases t with
    | zero =>
      refine .inr ⟨decide_eq_true ⟨?_, ?_, ?_⟩, ?_⟩
      · show (16 : Int) ≤ 16; omega
      · show (16 : Int) / 16 < 2; omega
      · show (16 : Int) % 16 < ((16 :: List.replicate (nd - 1) (0 : Int)).length : Int)
        simp
      · show (16 : Int) % 16 = ((0 : Nat) : Int); omega
    | succ t => exact .inl (by simp)
  · intro t ht
    simp at ht
theorem devAt_ok (H : StandOk s cs hs hd nd) (m : Nat) : DevOk (devAt s cs hs hd nd m) := by
  have hn0 := H.n0
  have hn1 := H.n1
  have hcl := H.cl
  have hs1 := H.s1
  refine ⟨?_, ?_, fun i h => ?_, ?_, fun i h => ?_, ?_, ?_, fun i h => ?_, fun i h => ?_⟩
  · show (sAt s cs hs hd m).length ≤ _
    rw [sAt_len]; omega
  · simp; omega
  · cases i with
    | zero => simp; omega
    | succ i => simp
  · simp; omega
  · cases i with
    | zero => simp
    | succ i => simp
  · simp
  · simp
  · simp at h
  · exact Nat.le_trans (sAt_size H m _ (List.getElem_mem h)) (by omega)
theorem not_fenced (m : Nat) : fencedB (devAt s cs hs hd nd m) [16] = false := rfl
theorem refuse_zero (H : StandOk s cs hs hd nd) (m : Nat) {a : Ac} (h2 : 2 ≤ a.k) (h4 : a.k ≤ 4) (hb : a.b.size ≤ 512) (hse : 0 ≤ a.s ∧ a.s < s.length) : refuseR (devAt s cs hs hd nd m) 0 a = 0 := by
  have hc := (checkB_iff _).2 (devAt_may H m)
  unfold refuseR
  rw [if_neg (by
    rintro (h | h | h | h | h)
    · rw [hc] at h; cases h
    · omega
    · simp at h; omega
    · omega
    · omega), if_neg (by
    rintro (⟨_, h⟩ | ⟨h, _⟩ | ⟨h, _⟩)
    · omega
    · omega
    · omega), if_neg (by
    rintro ⟨_, h⟩
    exact absurd h (by rw [show (devAt s cs hs hd nd m).keys.getD (0 : Int).toNat 0 = 16 from rfl, not_fenced]; simp)), if_neg (by
    rintro ⟨_, h⟩
    rw [show (devAt s cs hs hd nd m).s.length = s.length from sAt_len m] at h
    omega)]
theorem devAt_step (H : StandOk s cs hs hd nd) (m : Nat) (hm : m < many cs.length) : doR (devAt s cs hs hd nd m) 0 (stAct cs (stAt cs.length m) hs hd) = (devAt s cs hs hd nd (m + 1), ⟨#[]⟩, 0) := by
  have hmany : many cs.length = 2 * cs.length + 1 ∧ 1 ≤ cs.length := by
    unfold many at hm ⊢
    split at hm
    · omega
    · rename_i h0; rw [if_neg h0]; omega
  have hs0 := H.s0
  by_cases h1 : m < cs.length
  · have e : stAct cs (stAt cs.length m) hs hd = ⟨3, cs[m].n, cs[m].t, 0⟩ := by
      rw [show stAt cs.length m = ((m : Int), 0, 0) by unfold stAt; rw [if_neg (by omega), if_pos h1]]
      unfold stAct
      rw [if_pos rfl, if_pos ⟨by omega, by dsimp only; omega⟩]
      dsimp only
      rw [Int.toNat_natCast, List.getD_eq_getElem?_getD, List.getElem?_eq_getElem h1]; rfl
    have hcn := H.cn _ (List.getElem_mem h1)
    rw [e]
    unfold doR
    rw [if_pos (refuse_zero H m (a := ⟨3, cs[m].n, cs[m].t, 0⟩) (by dsimp only; omega) (by dsimp only; omega) hcn.2.2.1 ⟨hcn.1, hcn.2.1⟩)]
    have hd0 : m - cs.length = 0 := by omega
    have hd1 : m + 1 - cs.length = 0 := by omega
    have hp : placeN (cs.take m) cs[m].n = none := placeN_none (fun t ht => by
      simp only [List.length_take] at ht
      simp only [List.getElem_take]
      have := H.inc t m (by omega) h1 (by omega)
      omega)
    have hA : actD (devAt s cs hs hd nd m) 0 ⟨3, cs[m].n, cs[m].t, 0⟩ = (devAt s cs hs hd nd (m + 1), ⟨#[]⟩) := by
      unfold actD
      simp only [devAt, hd0, hd1, List.drop_zero, List.getD_cons_zero, hp, List.set_cons_zero]
      rw [if_neg (by omega), if_neg (by omega), if_pos trivial]
      have es : sAt s cs hs hd m = sAt s cs hs hd (m + 1) := by
        unfold sAt
        rw [if_pos (by omega), if_pos (by omega), hd0, hd1]
      rw [es, List.take_succ_eq_append_getElem h1]
    rw [show (0 : Int).toNat = 0 from rfl, hA]
  · by_cases h2 : m < 2 * cs.length
    · have e : stAct cs (stAt cs.length m) hs hd = ⟨4, 0, ⟨#[]⟩, 0⟩ := by
        rw [show stAt cs.length m = ((cs.length : Int), 2 * (cs.length : Int) - m, 1) by unfold stAt; rw [if_neg (by omega), if_neg h1, if_pos h2]]
        unfold stAct
        rw [if_neg (by simp), if_pos rfl]
      rw [e]
      unfold doR
      rw [if_pos (refuse_zero H m (a := ⟨4, 0, ⟨#[]⟩, 0⟩) (by dsimp only; omega) (by dsimp only; omega) (by show (0 : Nat) ≤ 512; omega) ⟨by dsimp only; omega, by dsimp only; omega⟩)]
      have hi : m - cs.length < cs.length := by omega
      have hcn := H.cn _ (List.getElem_mem hi)
      have ec : (cs.take m).drop (m - cs.length) = cs[m - cs.length] :: (cs.take (m + 1)).drop (m + 1 - cs.length) := by
        rw [List.take_of_length_le (by omega), List.take_of_length_le (by omega), List.drop_eq_getElem_cons hi, show m + 1 - cs.length = m - cs.length + 1 by omega]
      have hA : actD (devAt s cs hs hd nd m) 0 ⟨4, 0, ⟨#[]⟩, 0⟩ = (devAt s cs hs hd nd (m + 1), ⟨#[]⟩) := by
        unfold actD
        simp only [devAt, ec, List.getD_cons_zero, List.set_cons_zero]
        rw [if_neg (by omega), if_neg (by omega), if_neg (by omega), if_pos trivial]
        have es : sAt s cs hs hd (m + 1) = (sAt s cs hs hd m).set cs[m - cs.length].n.toNat cs[m - cs.length].t := by
          unfold sAt
          rw [if_pos (by omega), if_pos (by omega), show m + 1 - cs.length = m - cs.length + 1 by omega, List.take_succ_eq_append_getElem hi, setL_snoc]
        rw [es]
      rw [show (0 : Int).toNat = 0 from rfl, hA]
    · have e : stAct cs (stAt cs.length m) hs hd = ⟨2, hs, hd, 0⟩ := by
        rw [show stAt cs.length m = ((cs.length : Int), 0, 2) by unfold stAt; rw [if_neg (by omega), if_neg h1, if_neg h2]]
        unfold stAct
        rw [if_neg (by simp), if_neg (by simp), if_pos rfl]
      rw [e]
      unfold doR
      rw [if_pos (refuse_zero H m (a := ⟨2, hs, hd, 0⟩) (by dsimp only; omega) (by dsimp only; omega) H.hd ⟨by dsimp only; omega, by dsimp only; omega⟩)]
      have ec : ∀ j, 2 * cs.length ≤ j → (cs.take j).drop (j - cs.length) = [] := fun j hj => List.drop_eq_nil_of_le (by simp; omega)
      have hA : actD (devAt s cs hs hd nd m) 0 ⟨2, hs, hd, 0⟩ = (devAt s cs hs hd nd (m + 1), ⟨#[]⟩) := by
        unfold actD
        simp only [devAt, ec m (by omega), ec (m + 1) (by omega), List.getD_cons_zero, List.set_cons_zero]
        rw [if_neg (by omega), if_pos trivial]
        have es : sAt s cs hs hd (m + 1) = (sAt s cs hs hd m).set hs hd := by
          unfold sAt
          rw [if_neg (by omega), if_pos (by omega), List.take_of_length_le (by omega)]
        rw [es]
        rfl
      rw [show (0 : Int).toNat = 0 from rfl, hA]
theorem newD_may (H : StandOk s cs hs hd nd) : checkB (newD nd s) = true := by
  have hn0 := H.n0
  have hn1 := H.n1
  have hs0 := H.s0
  refine (checkB_iff _).2 ⟨by show 1 ≤ s.length; omega, by simp; omega, by simp; omega, by simp, by show (1 : Int) ≤ 1; omega, by show (1 : Int) ≤ _; omega, fun t h => H.si _ (List.getElem_mem h), fun t h => ?_, fun t h => .inl (by simp), fun t ht => by simp at ht⟩
  rw [List.getD_eq_getElem?_getD, List.getElem?_replicate]
  split <;> rfl
theorem newR_stand (H : StandOk s cs hs hd nd) : newR' nd s = (newD nd s, 0) := by
  have hn0 := H.n0
  have hn1 := H.n1
  unfold newR'
  rw [if_neg (by omega), Int.toNat_natCast, if_pos (newD_may H)]
theorem reg_stand (H : StandOk s cs hs hd nd) : doR (newD nd s) 0 ⟨6, 0, ⟨#[]⟩, 0⟩ = (devAt s cs hs hd nd 0, key6 16, 0) := by
  have hn0 := H.n0
  have hn1 := H.n1
  obtain ⟨n, rfl⟩ : ∃ n, nd = n + 1 := ⟨nd - 1, by omega⟩
  have hc := newD_may H
  have hr : refuseR (newD (n + 1) s) 0 ⟨6, 0, ⟨#[]⟩, 0⟩ = 0 := by
    unfold refuseR
    rw [if_neg (by
      rintro (h | h | h | h | h)
      · rw [hc] at h; cases h
      · omega
      · simp at h; omega
      · dsimp only at h; omega
      · dsimp only at h; omega), if_neg (by
      rintro (⟨h, _⟩ | ⟨h, _⟩ | ⟨_, h⟩)
      · dsimp only at h; omega
      · dsimp only at h; omega
      · dsimp only [newD] at h; omega), if_neg (by rintro ⟨h, _⟩; exact h rfl), if_neg (by rintro ⟨h, _⟩; dsimp only at h; omega)]
  unfold doR
  rw [if_pos hr]
  have es : sAt s cs hs hd 0 = s := by unfold sAt; rw [if_pos (by omega)]; simp [setL]
  have hA : actD (newD (n + 1) s) 0 ⟨6, 0, ⟨#[]⟩, 0⟩ = (devAt s cs hs hd (n + 1) 0, key6 16) := by
    unfold actD
    dsimp only
    rw [if_neg (by omega), if_neg (by omega), if_neg (by omega), if_neg (by omega), if_neg (by omega)]
    simp [newD, devAt, es, List.replicate_succ]
  rw [show (0 : Int).toNat = 0 from rfl, hA]

/-- what is wanted at a sector -/
def wantS (s : List ByteArray) (cs : List Pr) (hs : Nat) (hd : ByteArray) (j : Nat) : ByteArray := if j = hs ∧ 0 < many cs.length then hd else wantL (s.getD j ⟨#[]⟩) j cs
theorem wantL_none {x : ByteArray} {n : Int} {l : List Pr} (h : ∀ c ∈ l, c.n ≠ n) : wantL x n l = x := by
  induction l generalizing x with
  | nil => rfl
  | cons c l ih =>
    show wantL (if c.n = n then c.t else x) n l = x
    rw [if_neg (h c (by simp)), ih (fun y hy => h y (List.mem_cons_of_mem _ hy))]
theorem many_ge {n : Nat} : 0 < many n ↔ 0 < n := by unfold many; split <;> omega
theorem done_get (H : StandOk s cs hs hd nd) (j : Nat) (hj : j < s.length) : (sAt s cs hs hd (many cs.length))[j]? = some (wantS s cs hs hd j) := by
  have hc : ∀ c ∈ cs, 0 ≤ c.n := fun c hc => (H.cn c hc).1
  have hg : s.getD j ⟨#[]⟩ = s[j] := by rw [List.getD_eq_getElem?_getD, List.getElem?_eq_getElem hj]; rfl
  unfold sAt wantS
  rw [hg]
  by_cases h0 : cs.length = 0
  · have : many cs.length = 0 := by rw [h0]; rfl
    rw [this, if_pos (by omega), if_neg (by omega), List.take_of_length_le (by omega)]
    exact setL_get s cs hc j hj
  · have : many cs.length = 2 * cs.length + 1 := by unfold many; rw [if_neg h0]
    rw [this, if_neg (by omega), List.getElem?_set]
    by_cases e : j = hs
    · rw [if_pos e.symm, if_pos (by rw [setL_len]; omega), if_pos ⟨e, by omega⟩]
    · rw [if_neg (fun h => e h.symm), if_neg (fun h => e h.1)]
      exact setL_get s cs hc j hj
theorem wantL_mem (H : StandOk s cs hs hd nd) {c : Pr} (hc : c ∈ cs) (x : ByteArray) : wantL x c.n cs = c.t := by
  obtain ⟨i, hi, rfl⟩ := List.getElem_of_mem hc
  have e : cs = cs.take i ++ (cs[i] :: cs.drop (i + 1)) := by rw [← List.drop_eq_getElem_cons hi, List.take_append_drop]
  have hg : ∀ n : Int, wantL x n cs = wantL (wantL x n (cs.take i)) n (cs[i] :: cs.drop (i + 1)) := fun n => by
    refine (congrArg (wantL x n) e).trans ?_
    unfold wantL
    rw [List.foldl_append]
  have h1 := hg cs[i].n
  rw [h1]
  show wantL (if cs[i].n = cs[i].n then cs[i].t else _) cs[i].n (cs.drop (i + 1)) = _
  rw [if_pos rfl]
  refine wantL_none fun c hc => ?_
  obtain ⟨j, hj, rfl⟩ := List.getElem_of_mem hc
  simp only [List.length_drop] at hj
  simp only [List.getElem_drop]
  have := H.inc i (i + 1 + j) hi (by omega) (by omega)
  omega
theorem half_get (H : StandOk s cs hs hd nd) (k : Nat) (hk : k ≤ many cs.length) (kept : Int) : ∃ d, crashR' (devAt s cs hs hd nd k) 0 kept = (d, 0) ∧ d.s.length = s.length ∧ ∀ j, j < s.length → ∃ y, d.s[j]? = some y ∧ (y = wantS s cs hs hd j ∨ y = s.getD j ⟨#[]⟩) ∧ (j = hs → k < many cs.length → y = s.getD j ⟨#[]⟩) := by
  have hc := (checkB_iff _).2 (devAt_may H k)
  have hn0 := H.n0
  have hbad : ¬ badN (devAt s cs hs hd nd k) 0 := by
    rintro (h | h | h)
    · rw [hc] at h; cases h
    · omega
    · simp at h; omega
  refine ⟨_, if_neg hbad, ?_, ?_⟩
  · dsimp only
    rw [show (devAt s cs hs hd nd k).keys.getD (0 : Int).toNat 0 = 16 from rfl, not_fenced, if_neg (by simp), keepL_len, sAt_len]
  · dsimp only
    rw [show (devAt s cs hs hd nd k).keys.getD (0 : Int).toNat 0 = 16 from rfl, not_fenced, if_neg (by simp)]
    rw [show (devAt s cs hs hd nd k).cache.getD (0 : Int).toNat [] = (cs.take k).drop (k - cs.length) from rfl]
    have hcm : ∀ c ∈ cs, c ∈ cs ∧ 0 ≤ c.n := fun c hc => ⟨hc, (H.cn c hc).1⟩
    intro j hj
    have hg : s.getD j ⟨#[]⟩ = s[j] := by rw [List.getD_eq_getElem?_getD, List.getElem?_eq_getElem hj]; rfl
    by_cases hlt : k < many cs.length
    · have hk2 : k ≤ 2 * cs.length := by unfold many at hlt; split at hlt <;> omega
      have ho : OneOf s cs (keepL kept ((cs.take k).drop (k - cs.length)) (sAt s cs hs hd k) (min ((cs.take k).drop (k - cs.length)).length 64)) := by
        refine OneOf.keepL ?_ kept _ (fun c hc => hcm c (mem_cache hc)) _
        unfold sAt
        rw [if_pos hk2]
        exact (OneOf.refl s cs).setL _ (fun c hc => hcm c (List.mem_of_mem_take hc))
      obtain ⟨y, h1, h2⟩ := ho j hj
      refine ⟨y, h1, ?_, fun e _ => ?_⟩
      · rcases h2 with h2 | ⟨c, hcc, hcn, h2⟩
        · exact .inr (by rw [hg]; exact h2)
        · left
          have hne := (H.cn c hcc).2.2.2
          unfold wantS
          rw [if_neg (fun h => hne (by omega)), h2, ← hcn, wantL_mem H hcc]
      · rcases h2 with h2 | ⟨c, hcc, hcn, h2⟩
        · rw [hg]; exact h2
        · exact absurd (by omega) (H.cn c hcc).2.2.2
    · obtain rfl : k = many cs.length := by omega
      have hce : (cs.take (many cs.length)).drop (many cs.length - cs.length) = [] := List.drop_eq_nil_of_le (by simp; unfold many; split <;> omega)
      rw [hce]
      refine ⟨wantS s cs hs hd j, done_get H j hj, .inl rfl, fun _ h => absurd h hlt⟩
end
end Go.Proofs.Ytllijcnbjbfabaa

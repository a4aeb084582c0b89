/- Plain words of layer 6, as values. -/
import Derived.Test.YtllijcnbjbfabaaDevM01
import Derived.Test.YtllijcnbjbfabaaDevM26
namespace Go.Proofs.Ytllijcnbjbfabaa
open Go.RowKit

def prV (x : Pr) : List V := [.int .i64 x.n, .str x.t]
def txV (s : ByteArray) : List V := [.str s]
def inV (n : Int) : List V := [.int .i64 n]
/-- a device as a value -/
abbrev ccV (c : List Pr) : List V := [.sl (c.map prV) false]
abbrev devV (d : Dev) : V := .agg [.sl (d.s.map txV) false, .sl (d.cache.map ccV) false, .sl (d.keys.map inV) false, .int .i64 d.next, .sl (d.fen.map inV) false]
theorem plain_pr (l : List Pr) (b : Bool) : Plain (.sl (l.map prV) b) ↔ True := ⟨fun _ => trivial, fun _ => .sl _ _ fun r hr x hx => by
  obtain ⟨p, _, rfl⟩ := List.mem_map.1 hr
  rcases List.mem_cons.1 hx with rfl | hx
  · exact .int _ _
  · rcases List.mem_cons.1 hx with rfl | hx
    · exact .str _
    · cases hx⟩
theorem plain_tx (l : List ByteArray) (b : Bool) : Plain (.sl (l.map txV) b) ↔ True := ⟨fun _ => trivial, fun _ => .sl _ _ fun r hr x hx => by
  obtain ⟨p, _, rfl⟩ := List.mem_map.1 hr
  rcases List.mem_cons.1 hx with rfl | hx
  · exact .str _
  · cases hx⟩
theorem plain_in (l : List Int) (b : Bool) : Plain (.sl (l.map inV) b) ↔ True := ⟨fun _ => trivial, fun _ => .sl _ _ fun r hr x hx => by
  obtain ⟨p, _, rfl⟩ := List.mem_map.1 hr
  rcases List.mem_cons.1 hx with rfl | hx
  · exact .int _ _
  · cases hx⟩
theorem plain_cc (l : List (List Pr)) (b : Bool) : Plain (.sl (l.map ccV) b) ↔ True := ⟨fun _ => trivial, fun _ => .sl _ _ fun r hr x hx => by
  obtain ⟨p, _, rfl⟩ := List.mem_map.1 hr
  rcases List.mem_cons.1 hx with rfl | hx
  · exact (plain_pr _ _).2 trivial
  · cases hx⟩
theorem plain_dev (d : Dev) : Plain (devV d) ↔ True := ⟨fun _ => trivial, fun _ => by
  unfold devV
  rw [plain_agg]
  intro x hx
  simp only [List.mem_cons, List.not_mem_nil, or_false] at hx
  rcases hx with rfl | rfl | rfl | rfl | rfl
  · exact (plain_tx _ _).2 trivial
  · exact (plain_cc _ _).2 trivial
  · exact (plain_in _ _).2 trivial
  · exact .int _ _
  · exact (plain_in _ _).2 trivial⟩
/-- a device that is not too great -/
structure DevOk (d : Dev) : Prop where
  s : d.s.length ≤ 1000000
  c : d.cache.length ≤ 1000000
  ci : ∀ i (h : i < d.cache.length), d.cache[i].length ≤ 1000000
  k : d.keys.length ≤ 1000000
  ki : ∀ i (h : i < d.keys.length), -4611686018427387904 ≤ d.keys[i] ∧ d.keys[i] ≤ 4611686018427387904
  n : -4611686018427387904 ≤ d.next ∧ d.next ≤ 4611686018427387904
  f : d.fen.length ≤ 1000000
  fi : ∀ i (h : i < d.fen.length), -4611686018427387904 ≤ d.fen[i] ∧ d.fen[i] ≤ 4611686018427387904
  si : ∀ i (h : i < d.s.length), d.s[i].size ≤ 9223372036854775807
attribute [go_sem] prV txV inV plain_pr plain_tx plain_in plain_cc plain_dev
end Go.Proofs.Ytllijcnbjbfabaa

namespace Go.Proofs.Ytllijcnbjbfabaa
open Go.RowKit
set_option linter.unusedSimpArgs false
set_option linter.unusedVariables false

set_option maxHeartbeats 1000000 in
theorem given_con (S C F : V) (ks : List (List V)) (fl : Bool) (n key : Int) (hk : key ≤ 9223372036854775807) :
    Con Try.prog 37 [.agg [S, C, .sl ks fl, .int .i64 n, F], .int .i64 key] (· = .bool (decide (16 ≤ key) && decide (key / 16 < n) && decide (key % 16 < ks.length))) := by
  refine con_of_awp Try.func37 rfl mixed (by decide) rfl (by kernel_rfl) rfl ?_
  (repeat' (first | with_reducible (first | refine agr_d (fun hc => ?_) fun hc => ?_ | refine agr_n (fun hc => ?_) fun hc => ?_ | refine acd_d (fun hc => ?_) fun hc => ?_ | refine acd_n (fun hc => ?_) fun hc => ?_ | refine dgr_d (fun hc => ?_) fun hc => ?_ | refine dgr_n (fun hc => ?_) fun hc => ?_ | refine dl_sound _ _ [] [] [] _ _ (fun _ h => absurd h List.not_mem_nil) ?_ | refine conEnd_p (.inl rfl) ?_ | refine conEnd_p (.inr rfl) ?_) | simp (disch := omega) only [go_sem, Nat.reduceAdd, Nat.reduceSub, Nat.reduceMul, Nat.reduceLeDiff, Nat.reduceLT, Nat.reduceEqDiff, Int.reduceLT, Int.reduceLE, Int.reduceToNat, Int.reduceAdd, Int.reduceSub, Int.reduceMul, Int.reduceEq, Int.reduceNeg, reduceCtorEq, true_and, and_true, Int.toNat_natCast, List.getElem?_map, Option.map_some, List.length_map, List.length_take, List.length_drop, List.length_append, Nat.sub_zero, Int.toNat_zero, List.length_replicate, Bool.true_or, Bool.or_true, Bool.false_or, Bool.or_false, false_implies, implies_true]))

set_option maxHeartbeats 1000000 in
theorem place_con (l : List Pr) (fl : Bool) (s : Int) (hl : l.length ≤ 1000000000) :
    Con Try.prog 40 [.sl (l.map prV) fl, .int .i64 s] (· = .int .i64 (placeR l s)) := by
  refine con_of_awp Try.func40 rfl mixed (by decide) rfl (by kernel_rfl) rfl ?_
  (repeat' (first | with_reducible (first | refine agr_d (fun hc => ?_) fun hc => ?_ | refine agr_n (fun hc => ?_) fun hc => ?_ | refine acd_d (fun hc => ?_) fun hc => ?_ | refine acd_n (fun hc => ?_) fun hc => ?_ | refine dgr_d (fun hc => ?_) fun hc => ?_ | refine dgr_n (fun hc => ?_) fun hc => ?_ | refine dl_sound _ _ [] [] [] _ _ (fun _ h => absurd h List.not_mem_nil) ?_) | simp (disch := omega) only [go_sem, Nat.reduceAdd, Nat.reduceSub, Nat.reduceMul, Nat.reduceLeDiff, Nat.reduceLT, Nat.reduceEqDiff, Int.reduceLT, Int.reduceLE, Int.reduceToNat, Int.reduceAdd, Int.reduceSub, Int.reduceMul, Int.reduceEq, Int.reduceNeg, reduceCtorEq, true_and, and_true, Int.toNat_natCast, List.getElem?_map, Option.map_some, List.length_map, List.length_take, List.length_drop, List.length_append, Nat.sub_zero, Int.toNat_zero, List.length_replicate, Bool.true_or, Bool.or_true, Bool.false_or, Bool.or_false, false_implies, implies_true]))
  refine awp_for l.length (fun j fr st => ev fr (.tmp 0) = .sl (l.map prV) fl ∧ ev fr (.tmp 1) = .int .i64 s ∧ ev fr (.tmp 5) = .int .i64 j ∧ st = ⟨fun _ => none, 0⟩ ∧ ∀ t (h : t < l.length), t < j → l[t].n ≠ s) ?_ ?_
  · refine ⟨?_, ?_, ?_, rfl, fun t _ h => absurd h (by omega)⟩ <;> simp (disch := omega) only [go_sem, Nat.reduceAdd, Nat.reduceSub, Nat.reduceMul, Nat.reduceLeDiff, Nat.reduceLT, Nat.reduceEqDiff, Int.reduceLT, Int.reduceLE, Int.reduceToNat, Int.reduceAdd, Int.reduceSub, Int.reduceMul, Int.reduceEq, Int.reduceNeg, reduceCtorEq, true_and, and_true, Int.toNat_natCast, List.getElem?_map, Option.map_some, List.length_map, List.length_take, List.length_drop, List.length_append, Nat.sub_zero, Int.toNat_zero, List.length_replicate, Bool.true_or, Bool.or_true, Bool.false_or, Bool.or_false, false_implies, implies_true] <;> rfl
  · rintro j fr st hj ⟨h0, h1, h5, rfl, hn⟩
    by_cases hlt : j < l.length
    · have hg : l[j]? = some l[j] := List.getElem?_eq_getElem hlt
      (repeat' (first | with_reducible (first | refine agr_d (fun hc => ?_) fun hc => ?_ | refine agr_n (fun hc => ?_) fun hc => ?_ | refine acd_d (fun hc => ?_) fun hc => ?_ | refine acd_n (fun hc => ?_) fun hc => ?_ | refine dgr_d (fun hc => ?_) fun hc => ?_ | refine dgr_n (fun hc => ?_) fun hc => ?_ | refine dl_sound _ _ [] [] [] _ _ (fun _ h => absurd h List.not_mem_nil) ?_ | refine conEnd_p (.inl rfl) ?_ | refine conEnd_p (.inr rfl) ?_) | simp (disch := omega) only [go_sem, h0, h1, h5, hg, Nat.reduceAdd, Nat.reduceSub, Nat.reduceMul, Nat.reduceLeDiff, Nat.reduceLT, Nat.reduceEqDiff, Int.reduceLT, Int.reduceLE, Int.reduceToNat, Int.reduceAdd, Int.reduceSub, Int.reduceMul, Int.reduceEq, Int.reduceNeg, reduceCtorEq, true_and, and_true, Int.toNat_natCast, List.getElem?_map, Option.map_some, List.length_map, List.length_take, List.length_drop, List.length_append, Nat.sub_zero, Int.toNat_zero, List.length_replicate, Bool.true_or, Bool.or_true, Bool.false_or, Bool.or_false, false_implies, implies_true]))
      · rw [placeR, placeN_at hlt hc hn]
      · refine ⟨j + 1, by omega, by omega, rfl, fun t ht htj => ?_⟩
        · rcases Nat.lt_or_ge t j with h1 | h1
          · exact hn t ht h1
          · obtain rfl : t = j := by omega
            assumption
    · (repeat' (first | with_reducible (first | refine agr_d (fun hc => ?_) fun hc => ?_ | refine agr_n (fun hc => ?_) fun hc => ?_ | refine acd_d (fun hc => ?_) fun hc => ?_ | refine acd_n (fun hc => ?_) fun hc => ?_ | refine dgr_d (fun hc => ?_) fun hc => ?_ | refine dgr_n (fun hc => ?_) fun hc => ?_ | refine dl_sound _ _ [] [] [] _ _ (fun _ h => absurd h List.not_mem_nil) ?_ | refine conEnd_p (.inl rfl) ?_ | refine conEnd_p (.inr rfl) ?_) | simp (disch := omega) only [go_sem, h0, h1, h5, Nat.reduceAdd, Nat.reduceSub, Nat.reduceMul, Nat.reduceLeDiff, Nat.reduceLT, Nat.reduceEqDiff, Int.reduceLT, Int.reduceLE, Int.reduceToNat, Int.reduceAdd, Int.reduceSub, Int.reduceMul, Int.reduceEq, Int.reduceNeg, reduceCtorEq, true_and, and_true, Int.toNat_natCast, List.getElem?_map, Option.map_some, List.length_map, List.length_take, List.length_drop, List.length_append, Nat.sub_zero, Int.toNat_zero, List.length_replicate, Bool.true_or, Bool.or_true, Bool.false_or, Bool.or_false, false_implies, implies_true]))
      rw [placeR, placeN_none (fun t ht => hn t ht (by omega))]

theorem cachedB_cut {n : Int} {l : List Pr} {j : Nat} (hlt : j < l.length) (h : ¬ (0 ≤ l[j].n ∧ l[j].n < n ∧ l[j].t.size ≤ 512) ∨ ∃ k, ∃ (hk : k < l.length), k < j ∧ l[k].n = l[j].n) : cachedB n [] l = false := by
  cases hb : cachedB n [] l with
  | false => rfl
  | true =>
    have h1 := (cachedB_P n l).1 hb j hlt hlt
    rcases h with h | ⟨k, hk, h2, h3⟩
    · exact absurd h1.1 h
    · exact absurd h3 (h1.2 k hk h2)
theorem cachedP_succ {n : Int} {l : List Pr} {j : Nat} (h : cachedP n l j) (hlt : j < l.length) (h1 : 0 ≤ l[j].n ∧ l[j].n < n ∧ l[j].t.size ≤ 512) (h2 : ∀ k (hk : k < l.length), k < j → l[k].n ≠ l[j].n) : cachedP n l (j + 1) := fun t ht htj => by
  rcases Nat.lt_or_ge t j with h3 | h3
  · exact h t ht h3
  · obtain rfl : t = j := by omega
    exact ⟨h1, h2⟩
set_option maxHeartbeats 4000000 in
theorem cached_con (l : List Pr) (fl : Bool) (n : Int) (hl : l.length ≤ 1000000000) :
    Con Try.prog 72 [.sl (l.map prV) fl, .int .i64 n] (· = .bool (cachedB n [] l)) := by
  refine con_of_awp Try.func72 rfl mixed (by decide) rfl (by kernel_rfl) rfl ?_
  (repeat' (first | with_reducible (first | refine agr_d (fun hc => ?_) fun hc => ?_ | refine agr_n (fun hc => ?_) fun hc => ?_ | refine acd_d (fun hc => ?_) fun hc => ?_ | refine acd_n (fun hc => ?_) fun hc => ?_ | refine dgr_d (fun hc => ?_) fun hc => ?_ | refine dgr_n (fun hc => ?_) fun hc => ?_ | refine dl_sound _ _ [] [] [] _ _ (fun _ h => absurd h List.not_mem_nil) ?_) | simp (disch := omega) only [go_sem, Nat.reduceAdd, Nat.reduceSub, Nat.reduceMul, Nat.reduceLeDiff, Nat.reduceLT, Nat.reduceEqDiff, Int.reduceLT, Int.reduceLE, Int.reduceToNat, Int.reduceAdd, Int.reduceSub, Int.reduceMul, Int.reduceEq, Int.reduceNeg, reduceCtorEq, true_and, and_true, Int.toNat_natCast, List.getElem?_map, Option.map_some, List.length_map, List.length_take, List.length_drop, List.length_append, Nat.sub_zero, Int.toNat_zero, List.length_replicate, Bool.true_or, Bool.or_true, Bool.false_or, Bool.or_false, false_implies, implies_true]))
  refine awp_for l.length (fun j fr st => ev fr (.tmp 0) = .sl (l.map prV) fl ∧ ev fr (.tmp 1) = .int .i64 n ∧ ev fr (.tmp 5) = .int .i64 j ∧ st = ⟨fun _ => none, st.c⟩ ∧ cachedP n l j) ?_ ?_
  · refine ⟨?_, ?_, ?_, rfl, fun t _ h => absurd h (by omega)⟩ <;> simp (disch := omega) only [go_sem, Nat.reduceAdd, Nat.reduceSub, Nat.reduceMul, Nat.reduceLeDiff, Nat.reduceLT, Nat.reduceEqDiff, Int.reduceLT, Int.reduceLE, Int.reduceToNat, Int.reduceAdd, Int.reduceSub, Int.reduceMul, Int.reduceEq, Int.reduceNeg, reduceCtorEq, true_and, and_true, Int.toNat_natCast, List.getElem?_map, Option.map_some, List.length_map, List.length_take, List.length_drop, List.length_append, Nat.sub_zero, Int.toNat_zero, List.length_replicate, Bool.true_or, Bool.or_true, Bool.false_or, Bool.or_false, false_implies, implies_true] <;> rfl
  · rintro j fr ⟨g, c⟩ hj ⟨h0, h1, h5, hs, hn⟩
    obtain rfl : g = fun _ => none := by injection hs
    clear hs
    by_cases hlt : j < l.length
    · have hg : l[j]? = some l[j] := List.getElem?_eq_getElem hlt
      (repeat' (first | with_reducible (first | refine agr_d (fun hc => ?_) fun hc => ?_ | refine agr_n (fun hc => ?_) fun hc => ?_ | refine acd_d (fun hc => ?_) fun hc => ?_ | refine acd_n (fun hc => ?_) fun hc => ?_ | refine dgr_d (fun hc => ?_) fun hc => ?_ | refine dgr_n (fun hc => ?_) fun hc => ?_ | refine dl_sound _ _ [] [] [] _ _ (fun _ h => absurd h List.not_mem_nil) ?_ | refine conEnd_p (.inl rfl) ?_ | refine conEnd_p (.inr rfl) ?_) | simp (disch := omega) only [go_sem, h0, h1, h5, hg, Nat.reduceAdd, Nat.reduceSub, Nat.reduceMul, Nat.reduceLeDiff, Nat.reduceLT, Nat.reduceEqDiff, Int.reduceLT, Int.reduceLE, Int.reduceToNat, Int.reduceAdd, Int.reduceSub, Int.reduceMul, Int.reduceEq, Int.reduceNeg, reduceCtorEq, true_and, and_true, Int.toNat_natCast, List.getElem?_map, Option.map_some, List.length_map, List.length_take, List.length_drop, List.length_append, Nat.sub_zero, Int.toNat_zero, List.length_replicate, Bool.true_or, Bool.or_true, Bool.false_or, Bool.or_false, false_implies, implies_true]))
      · rw [cachedB_cut hlt (.inl (by omega))]
      · rw [cachedB_cut hlt (.inl (by omega))]
      · rw [cachedB_cut hlt (.inl (by omega))]
      · refine awp_for j (fun k fr' st => ev fr' (.tmp 0) = .sl (l.map prV) fl ∧ ev fr' (.tmp 1) = .int .i64 n ∧ ev fr' (.tmp 5) = .int .i64 j ∧ ev fr' (.tmp 6) = .int .i64 k ∧ st = ⟨fun _ => none, st.c⟩ ∧ ∀ t (ht : t < l.length), t < k → l[t].n ≠ l[j].n) ?_ ?_
        · refine ⟨?_, ?_, ?_, ?_, rfl, fun t _ h => absurd h (by omega)⟩ <;> simp (disch := omega) only [go_sem, h0, h1, h5, Nat.reduceAdd, Nat.reduceSub, Nat.reduceMul, Nat.reduceLeDiff, Nat.reduceLT, Nat.reduceEqDiff, Int.reduceLT, Int.reduceLE, Int.reduceToNat, Int.reduceAdd, Int.reduceSub, Int.reduceMul, Int.reduceEq, Int.reduceNeg, reduceCtorEq, true_and, and_true, Int.toNat_natCast, List.getElem?_map, Option.map_some, List.length_map, List.length_take, List.length_drop, List.length_append, Nat.sub_zero, Int.toNat_zero, List.length_replicate, Bool.true_or, Bool.or_true, Bool.false_or, Bool.or_false, false_implies, implies_true] <;> rfl
        · rintro k fr ⟨g, c⟩ hk ⟨h0, h1, h5, h6, hs, hn2⟩
          obtain rfl : g = fun _ => none := by injection hs
          clear hs
          by_cases hkj : k < j
          · have hg2 : l[k]? = some l[k] := List.getElem?_eq_getElem (by omega)
            (repeat' (first | with_reducible (first | refine agr_d (fun hc => ?_) fun hc => ?_ | refine agr_n (fun hc => ?_) fun hc => ?_ | refine acd_d (fun hc => ?_) fun hc => ?_ | refine acd_n (fun hc => ?_) fun hc => ?_ | refine dgr_d (fun hc => ?_) fun hc => ?_ | refine dgr_n (fun hc => ?_) fun hc => ?_ | refine dl_sound _ _ [] [] [] _ _ (fun _ h => absurd h List.not_mem_nil) ?_ | refine conEnd_p (.inl rfl) ?_ | refine conEnd_p (.inr rfl) ?_) | simp (disch := omega) only [go_sem, h0, h1, h5, h6, hg, hg2, Nat.reduceAdd, Nat.reduceSub, Nat.reduceMul, Nat.reduceLeDiff, Nat.reduceLT, Nat.reduceEqDiff, Int.reduceLT, Int.reduceLE, Int.reduceToNat, Int.reduceAdd, Int.reduceSub, Int.reduceMul, Int.reduceEq, Int.reduceNeg, reduceCtorEq, true_and, and_true, Int.toNat_natCast, List.getElem?_map, Option.map_some, List.length_map, List.length_take, List.length_drop, List.length_append, Nat.sub_zero, Int.toNat_zero, List.length_replicate, Bool.true_or, Bool.or_true, Bool.false_or, Bool.or_false, false_implies, implies_true]))
            · rw [cachedB_cut hlt (.inr ⟨k, by omega, hkj, hc⟩)]
            · refine ⟨k + 1, by omega, by omega, rfl, fun t ht htk => ?_⟩
              rcases Nat.lt_or_ge t k with h3 | h3
              · exact hn2 t ht h3
              · obtain rfl : t = k := by omega
                exact hc
          · (repeat' (first | with_reducible (first | refine agr_d (fun hc => ?_) fun hc => ?_ | refine agr_n (fun hc => ?_) fun hc => ?_ | refine acd_d (fun hc => ?_) fun hc => ?_ | refine acd_n (fun hc => ?_) fun hc => ?_ | refine dgr_d (fun hc => ?_) fun hc => ?_ | refine dgr_n (fun hc => ?_) fun hc => ?_ | refine dl_sound _ _ [] [] [] _ _ (fun _ h => absurd h List.not_mem_nil) ?_ | refine conEnd_p (.inl rfl) ?_ | refine conEnd_p (.inr rfl) ?_) | simp (disch := omega) only [go_sem, h0, h1, h5, h6, Nat.reduceAdd, Nat.reduceSub, Nat.reduceMul, Nat.reduceLeDiff, Nat.reduceLT, Nat.reduceEqDiff, Int.reduceLT, Int.reduceLE, Int.reduceToNat, Int.reduceAdd, Int.reduceSub, Int.reduceMul, Int.reduceEq, Int.reduceNeg, reduceCtorEq, true_and, and_true, Int.toNat_natCast, List.getElem?_map, Option.map_some, List.length_map, List.length_take, List.length_drop, List.length_append, Nat.sub_zero, Int.toNat_zero, List.length_replicate, Bool.true_or, Bool.or_true, Bool.false_or, Bool.or_false, false_implies, implies_true]))
            exact ⟨j + 1, by omega, by omega, rfl, cachedP_succ hn hlt (by omega) fun t ht htj => hn2 t ht (by omega)⟩
    · (repeat' (first | with_reducible (first | refine agr_d (fun hc => ?_) fun hc => ?_ | refine agr_n (fun hc => ?_) fun hc => ?_ | refine acd_d (fun hc => ?_) fun hc => ?_ | refine acd_n (fun hc => ?_) fun hc => ?_ | refine dgr_d (fun hc => ?_) fun hc => ?_ | refine dgr_n (fun hc => ?_) fun hc => ?_ | refine dl_sound _ _ [] [] [] _ _ (fun _ h => absurd h List.not_mem_nil) ?_ | refine conEnd_p (.inl rfl) ?_ | refine conEnd_p (.inr rfl) ?_) | simp (disch := omega) only [go_sem, h0, h1, h5, Nat.reduceAdd, Nat.reduceSub, Nat.reduceMul, Nat.reduceLeDiff, Nat.reduceLT, Nat.reduceEqDiff, Int.reduceLT, Int.reduceLE, Int.reduceToNat, Int.reduceAdd, Int.reduceSub, Int.reduceMul, Int.reduceEq, Int.reduceNeg, reduceCtorEq, true_and, and_true, Int.toNat_natCast, List.getElem?_map, Option.map_some, List.length_map, List.length_take, List.length_drop, List.length_append, Nat.sub_zero, Int.toNat_zero, List.length_replicate, Bool.true_or, Bool.or_true, Bool.false_or, Bool.or_false, false_implies, implies_true]))
      rw [(cachedB_P n l).2 (fun t ht _ => hn t ht (by omega))]
end Go.Proofs.Ytllijcnbjbfabaa

namespace Go.Proofs.Ytllijcnbjbfabaa
open Go.RowKit
set_option linter.unusedSimpArgs false
set_option linter.unusedVariables false

theorem fencedB_yes {d : Dev} {keys : List Int} {j : Nat} (hj : j < keys.length) (h : keys[j] < 1 ∨ ∃ k, ∃ (hk : k < d.fen.length), d.fen[k] = keys[j]) : fencedB d keys = true := by
  unfold fencedB
  rw [List.any_eq_true]
  refine ⟨keys[j], List.getElem_mem hj, ?_⟩
  rcases h with h | ⟨k, hk, h⟩
  · simp [h]
  · rw [Bool.or_eq_true, List.any_eq_true]
    exact .inr ⟨d.fen[k], List.getElem_mem hk, by simpa using h⟩
def notF (d : Dev) (keys : List Int) (j : Nat) : Prop := ∀ t (h : t < keys.length), t < j → ¬ keys[t] < 1 ∧ ∀ k (hk : k < d.fen.length), d.fen[k] ≠ keys[t]
theorem fencedB_no {d : Dev} {keys : List Int} (h : notF d keys keys.length) : fencedB d keys = false := by
  unfold fencedB
  rw [List.any_eq_false]
  intro x hx
  obtain ⟨j, hj, rfl⟩ := List.getElem_of_mem hx
  obtain ⟨h1, h2⟩ := h j hj hj
  rw [Bool.or_eq_true, List.any_eq_true]
  rintro (h3 | ⟨y, hy, h3⟩)
  · simp at h3; omega
  · obtain ⟨k, hk, rfl⟩ := List.getElem_of_mem hy
    exact h2 k hk (by simpa using h3)
theorem notF_succ {d : Dev} {keys : List Int} {j : Nat} (h : notF d keys j) (hj : j < keys.length) (h1 : ¬ keys[j] < 1) (h2 : ∀ k (hk : k < d.fen.length), d.fen[k] ≠ keys[j]) : notF d keys (j + 1) := fun t ht htj => by
  rcases Nat.lt_or_ge t j with h3 | h3
  · exact h t ht h3
  · obtain rfl : t = j := by omega
    exact ⟨h1, h2⟩
set_option maxRecDepth 100000 in
set_option maxHeartbeats 4000000 in
theorem Fenced_con (S C K N : V) (d : Dev) (fl fl' : Bool) (keys : List Int) (hl : d.fen.length ≤ 1000000000) (hl' : keys.length ≤ 1000000000) :
    Con Try.prog 38 [.agg [S, C, K, N, .sl (d.fen.map inV) fl], .sl (keys.map inV) fl'] (· = .bool (fencedB d keys)) := by
  refine con_of_awp Try.func38 rfl mixed (by decide) rfl (by kernel_rfl) rfl ?_
  (repeat' (first | with_reducible (first | refine agr_d (fun hc => ?_) fun hc => ?_ | refine agr_n (fun hc => ?_) fun hc => ?_ | refine acd_d (fun hc => ?_) fun hc => ?_ | refine acd_n (fun hc => ?_) fun hc => ?_ | refine dgr_d (fun hc => ?_) fun hc => ?_ | refine dgr_n (fun hc => ?_) fun hc => ?_ | refine dl_sound _ _ [] [] [] _ _ (fun _ h => absurd h List.not_mem_nil) ?_) | simp (disch := omega) only [go_sem, Nat.reduceAdd, Nat.reduceSub, Nat.reduceMul, Nat.reduceLeDiff, Nat.reduceLT, Nat.reduceEqDiff, Int.reduceLT, Int.reduceLE, Int.reduceToNat, Int.reduceAdd, Int.reduceSub, Int.reduceMul, Int.reduceEq, Int.reduceNeg, reduceCtorEq, true_and, and_true, Int.toNat_natCast, List.getElem?_map, Option.map_some, List.length_map, List.length_take, List.length_drop, List.length_append, Nat.sub_zero, Int.toNat_zero, List.length_replicate, Bool.true_or, Bool.or_true, Bool.false_or, Bool.or_false, false_implies, implies_true]))
  refine awp_for keys.length (fun j fr st => ev fr (.tmp 1) = .sl (keys.map inV) fl' ∧ ev fr (.tmp 2) = .ptr 0 0 0 ∧ ev fr (.tmp 5) = .int .i64 j ∧ 1 ≤ st.c ∧ st.get 0 = some ⟨[[S, C, K, N, .sl (d.fen.map inV) fl]], 5, 0⟩ ∧ notF d keys j) ?_ ?_
  · refine ⟨?_, ?_, ?_, ?_, ?_, fun t _ h => absurd h (by omega)⟩  <;> simp (disch := omega) only [go_sem, Nat.reduceAdd, Nat.reduceSub, Nat.reduceMul, Nat.reduceLeDiff, Nat.reduceLT, Nat.reduceEqDiff, Int.reduceLT, Int.reduceLE, Int.reduceToNat, Int.reduceAdd, Int.reduceSub, Int.reduceMul, Int.reduceEq, Int.reduceNeg, reduceCtorEq, true_and, and_true, Int.toNat_natCast, List.getElem?_map, Option.map_some, List.length_map, List.length_take, List.length_drop, List.length_append, Nat.sub_zero, Int.toNat_zero, List.length_replicate, Bool.true_or, Bool.or_true, Bool.false_or, Bool.or_false, false_implies, implies_true] <;> rfl
  · rintro j fr st hj ⟨h1, h2, h5, hc1, hb, hn⟩
    by_cases hlt : j < keys.length
    · have hg : keys[j]? = some keys[j] := List.getElem?_eq_getElem hlt
      (repeat' (first | with_reducible (first | refine agr_d (fun hc => ?_) fun hc => ?_ | refine agr_n (fun hc => ?_) fun hc => ?_ | refine acd_d (fun hc => ?_) fun hc => ?_ | refine acd_n (fun hc => ?_) fun hc => ?_ | refine dgr_d (fun hc => ?_) fun hc => ?_ | refine dgr_n (fun hc => ?_) fun hc => ?_ | refine dl_sound _ _ [] [] [] _ _ (fun _ h => absurd h List.not_mem_nil) ?_ | refine conEnd_p (.inl rfl) ?_ | refine conEnd_p (.inr rfl) ?_) | simp (disch := omega) only [go_sem, h1, h2, h5, hg, hb, Nat.reduceAdd, Nat.reduceSub, Nat.reduceMul, Nat.reduceLeDiff, Nat.reduceLT, Nat.reduceEqDiff, Int.reduceLT, Int.reduceLE, Int.reduceToNat, Int.reduceAdd, Int.reduceSub, Int.reduceMul, Int.reduceEq, Int.reduceNeg, reduceCtorEq, true_and, and_true, Int.toNat_natCast, List.getElem?_map, Option.map_some, List.length_map, List.length_take, List.length_drop, List.length_append, Nat.sub_zero, Int.toNat_zero, List.length_replicate, Bool.true_or, Bool.or_true, Bool.false_or, Bool.or_false, false_implies, implies_true]))
      · rw [fencedB_yes hlt (.inl hc)]
      · refine awp_for d.fen.length (fun k fr' st => ev fr' (.tmp 1) = .sl (keys.map inV) fl' ∧ ev fr' (.tmp 2) = .ptr 0 0 0 ∧ ev fr' (.tmp 5) = .int .i64 j ∧ ev fr' (.tmp 6) = .int .i64 k ∧ 1 ≤ st.c ∧ st.get 0 = some ⟨[[S, C, K, N, .sl (d.fen.map inV) fl]], 5, 0⟩ ∧ ∀ t (ht : t < d.fen.length), t < k → d.fen[t] ≠ keys[j]) ?_ ?_
        · refine ⟨?_, ?_, ?_, ?_, hc1, hb, fun t _ h => absurd h (by omega)⟩ <;> simp (disch := omega) only [go_sem, h1, h2, h5, Nat.reduceAdd, Nat.reduceSub, Nat.reduceMul, Nat.reduceLeDiff, Nat.reduceLT, Nat.reduceEqDiff, Int.reduceLT, Int.reduceLE, Int.reduceToNat, Int.reduceAdd, Int.reduceSub, Int.reduceMul, Int.reduceEq, Int.reduceNeg, reduceCtorEq, true_and, and_true, Int.toNat_natCast, List.getElem?_map, Option.map_some, List.length_map, List.length_take, List.length_drop, List.length_append, Nat.sub_zero, Int.toNat_zero, List.length_replicate, Bool.true_or, Bool.or_true, Bool.false_or, Bool.or_false, false_implies, implies_true] <;> rfl
        · rintro k fr st hk ⟨h1, h2, h5, h6, hc1, hb, hn2⟩
          by_cases hkj : k < d.fen.length
          · have hg2 : d.fen[k]? = some d.fen[k] := List.getElem?_eq_getElem hkj
            (repeat' (first | with_reducible (first | refine agr_d (fun hc => ?_) fun hc => ?_ | refine agr_n (fun hc => ?_) fun hc => ?_ | refine acd_d (fun hc => ?_) fun hc => ?_ | refine acd_n (fun hc => ?_) fun hc => ?_ | refine dgr_d (fun hc => ?_) fun hc => ?_ | refine dgr_n (fun hc => ?_) fun hc => ?_ | refine dl_sound _ _ [] [] [] _ _ (fun _ h => absurd h List.not_mem_nil) ?_ | refine conEnd_p (.inl rfl) ?_ | refine conEnd_p (.inr rfl) ?_) | simp (disch := omega) only [go_sem, h1, h2, h5, h6, hg, hg2, hb, Nat.reduceAdd, Nat.reduceSub, Nat.reduceMul, Nat.reduceLeDiff, Nat.reduceLT, Nat.reduceEqDiff, Int.reduceLT, Int.reduceLE, Int.reduceToNat, Int.reduceAdd, Int.reduceSub, Int.reduceMul, Int.reduceEq, Int.reduceNeg, reduceCtorEq, true_and, and_true, Int.toNat_natCast, List.getElem?_map, Option.map_some, List.length_map, List.length_take, List.length_drop, List.length_append, Nat.sub_zero, Int.toNat_zero, List.length_replicate, Bool.true_or, Bool.or_true, Bool.false_or, Bool.or_false, false_implies, implies_true]))
            · rw [fencedB_yes hlt (.inr ⟨k, hkj, hc⟩)]
            · refine ⟨k + 1, by omega, by omega, rfl, by omega, fun t ht htk => ?_⟩
              rcases Nat.lt_or_ge t k with h3 | h3
              · exact hn2 t ht h3
              · obtain rfl : t = k := by omega
                exact hc
          · (repeat' (first | with_reducible (first | refine agr_d (fun hc => ?_) fun hc => ?_ | refine agr_n (fun hc => ?_) fun hc => ?_ | refine acd_d (fun hc => ?_) fun hc => ?_ | refine acd_n (fun hc => ?_) fun hc => ?_ | refine dgr_d (fun hc => ?_) fun hc => ?_ | refine dgr_n (fun hc => ?_) fun hc => ?_ | refine dl_sound _ _ [] [] [] _ _ (fun _ h => absurd h List.not_mem_nil) ?_ | refine conEnd_p (.inl rfl) ?_ | refine conEnd_p (.inr rfl) ?_) | simp (disch := omega) only [go_sem, h1, h2, h5, h6, hb, Nat.reduceAdd, Nat.reduceSub, Nat.reduceMul, Nat.reduceLeDiff, Nat.reduceLT, Nat.reduceEqDiff, Int.reduceLT, Int.reduceLE, Int.reduceToNat, Int.reduceAdd, Int.reduceSub, Int.reduceMul, Int.reduceEq, Int.reduceNeg, reduceCtorEq, true_and, and_true, Int.toNat_natCast, List.getElem?_map, Option.map_some, List.length_map, List.length_take, List.length_drop, List.length_append, Nat.sub_zero, Int.toNat_zero, List.length_replicate, Bool.true_or, Bool.or_true, Bool.false_or, Bool.or_false, false_implies, implies_true]))
            exact ⟨j + 1, by omega, by omega, rfl, by omega, notF_succ hn hlt (by omega) fun t ht => hn2 t ht (by omega)⟩
    · (repeat' (first | with_reducible (first | refine agr_d (fun hc => ?_) fun hc => ?_ | refine agr_n (fun hc => ?_) fun hc => ?_ | refine acd_d (fun hc => ?_) fun hc => ?_ | refine acd_n (fun hc => ?_) fun hc => ?_ | refine dgr_d (fun hc => ?_) fun hc => ?_ | refine dgr_n (fun hc => ?_) fun hc => ?_ | refine dl_sound _ _ [] [] [] _ _ (fun _ h => absurd h List.not_mem_nil) ?_ | refine conEnd_p (.inl rfl) ?_ | refine conEnd_p (.inr rfl) ?_) | simp (disch := omega) only [go_sem, h1, h2, h5, Nat.reduceAdd, Nat.reduceSub, Nat.reduceMul, Nat.reduceLeDiff, Nat.reduceLT, Nat.reduceEqDiff, Int.reduceLT, Int.reduceLE, Int.reduceToNat, Int.reduceAdd, Int.reduceSub, Int.reduceMul, Int.reduceEq, Int.reduceNeg, reduceCtorEq, true_and, and_true, Int.toNat_natCast, List.getElem?_map, Option.map_some, List.length_map, List.length_take, List.length_drop, List.length_append, Nat.sub_zero, Int.toNat_zero, List.length_replicate, Bool.true_or, Bool.or_true, Bool.false_or, Bool.or_false, false_implies, implies_true]))
      rw [fencedB_no (fun t ht _ => hn t ht (by omega))]
end Go.Proofs.Ytllijcnbjbfabaa

namespace Go.Proofs.Ytllijcnbjbfabaa
open Go.RowKit
set_option linter.unusedSimpArgs false
set_option linter.unusedVariables false

theorem given_c (d : Dev) (key : Int) (hk : key ≤ 9223372036854775807) : PCon Try.prog 37 [devV d, .int .i64 key] (.bool (givenB d key)) := by
  refine ⟨?_, by (simp only [List.nil_append, List.cons_append, List.append_nil, List.forall_mem_cons, List.not_mem_nil, false_implies, implies_true, and_true, true_and, plain_agg, plain_tup, plain_int, plain_bool, plain_str, plain_nilp, plain_nilfn, plain_undef, plain_dev, plain_pr, plain_tx, plain_in, plain_cc])⟩
  have := given_con (.sl (d.s.map txV) false) (.sl (d.cache.map ccV) false) (.sl (d.fen.map inV) false) (d.keys.map inV) false d.next key hk
  have e : givenB d key = (decide (16 ≤ key) && decide (key / 16 < d.next) && decide (key % 16 < ((d.keys.map inV).length : Int))) := by
    unfold givenB
    rw [List.length_map]
    by_cases h1 : 16 ≤ key <;> by_cases h2 : key / 16 < d.next <;> by_cases h3 : key % 16 < (d.keys.length : Int) <;> simp [h1, h2, h3]
  rw [e]
  exact this
theorem cached_c (l : List Pr) (n : Int) (hl : l.length ≤ 1000000) : PCon Try.prog 72 [.sl (l.map prV) false, .int .i64 n] (.bool (cachedB n [] l)) := ⟨cached_con l false n (by omega), by (simp only [List.nil_append, List.cons_append, List.append_nil, List.forall_mem_cons, List.not_mem_nil, false_implies, implies_true, and_true, true_and, plain_agg, plain_tup, plain_int, plain_bool, plain_str, plain_nilp, plain_nilfn, plain_undef, plain_dev, plain_pr, plain_tx, plain_in, plain_cc])⟩
theorem keysB_iff (d : Dev) : ∀ (l : List Int) (i : Nat), keysB d i l = true ↔ ∀ t (h : t < l.length), cachedB d.s.length [] (d.cache.getD (i + t) []) = true ∧ (l[t] = 0 ∨ (givenB d l[t] = true ∧ l[t] % 16 = ((i + t : Nat) : Int)))
  | [], i => by simp [keysB]
  | k :: l, i => by
    simp only [keysB, Bool.and_eq_true, Bool.or_eq_true, decide_eq_true_eq]
    rw [keysB_iff d l (i + 1)]
    constructor
    · rintro ⟨⟨h1, h2⟩, h3⟩ t ht
      cases t with
      | zero => exact ⟨h1, h2⟩
      | succ t =>
        have := h3 t (by simpa using ht)
        rw [show i + (t + 1) = i + 1 + t by omega]
        exact this
    · intro h
      refine ⟨h 0 (by simp), fun t ht => ?_⟩
      have := h (t + 1) (by simpa using ht)
      rw [show i + (t + 1) = i + 1 + t by omega] at this
      exact this
def fenP (d : Dev) (j : Nat) : Prop := ∀ t (h : t < d.fen.length), t < j → givenB d d.fen[t] = true ∧ ∀ s (hs : s < d.fen.length), s + 1 = t → d.fen[s] < d.fen[t]
theorem fenB_iff (d : Dev) : ∀ (l : List Int) (q : Option Int), fenB d q l = true ↔ ∀ t (h : t < l.length), givenB d l[t] = true ∧ (∀ x, t = 0 → q = some x → x < l[t]) ∧ ∀ s (hs : s < l.length), s + 1 = t → l[s] < l[t]
  | [], q => by simp [fenB]
  | k :: l, q => by
    simp only [fenB, Bool.and_eq_true]
    rw [fenB_iff d l (some k)]
    constructor
    · rintro ⟨⟨h1, h2⟩, h3⟩ t ht
      cases t with
      | zero => exact ⟨h1, fun x _ e => by subst e; simpa using h2, fun s _ h => by omega⟩
      | succ t =>
        obtain ⟨g1, g2, g3⟩ := h3 t (by simpa using ht)
        refine ⟨g1, fun _ h => by omega, fun s hs hst => ?_⟩
        cases s with
        | zero => exact g2 k (by omega) rfl
        | succ s => exact g3 s (by simpa using hs) (by omega)
    · intro h
      refine ⟨⟨(h 0 (by simp)).1, ?_⟩, fun t ht => ?_⟩
      · cases q with
        | none => rfl
        | some x => exact decide_eq_true ((h 0 (by simp)).2.1 x rfl rfl)
      · obtain ⟨g1, g2, g3⟩ := h (t + 1) (by simpa using ht)
        refine ⟨g1, fun x h0 e => ?_, fun s hs hst => g3 (s + 1) (by simpa using hs) (by omega)⟩
        injection e with e
        subst e
        subst h0
        exact g3 0 (by simp) rfl
theorem fenB_P (d : Dev) : fenB d none d.fen = true ↔ fenP d d.fen.length := by
  rw [fenB_iff]
  exact ⟨fun h t ht _ => ⟨(h t ht).1, (h t ht).2.2⟩, fun h t ht => ⟨(h t ht ht).1, fun _ _ e => (by cases e), (h t ht ht).2⟩⟩
/-- a device that may be -/
structure MayD (d : Dev) : Prop where
  s0 : 1 ≤ d.s.length
  k0 : 1 ≤ d.keys.length
  k1 : d.keys.length ≤ 16
  c : d.cache.length = d.keys.length
  n0 : 1 ≤ d.next
  n1 : d.next ≤ 68719476736
  s : ∀ t (h : t < d.s.length), d.s[t].size ≤ 512
  ca : ∀ t (h : t < d.keys.length), cachedB d.s.length [] (d.cache.getD t []) = true
  ke : ∀ t (h : t < d.keys.length), d.keys[t] = 0 ∨ (givenB d d.keys[t] = true ∧ d.keys[t] % 16 = (t : Int))
  f : fenP d d.fen.length
theorem checkB_iff (d : Dev) : checkB d = true ↔ MayD d := by
  unfold checkB
  simp only [Bool.and_eq_true, decide_eq_true_eq, List.all_eq_true]
  rw [keysB_iff, fenB_P]
  constructor
  · rintro ⟨⟨⟨⟨h1, h2, h3, h4, h5, h6⟩, h7⟩, h8⟩, h9⟩
    exact ⟨h1, h2, h3, h4, h5, h6, fun t h => h7 _ (List.getElem_mem h), fun t h => by simpa using (h8 t h).1, fun t h => by simpa using (h8 t h).2, h9⟩
  · intro h
    refine ⟨⟨⟨⟨h.s0, h.k0, h.k1, h.c, h.n0, h.n1⟩, fun x hx => ?_⟩, fun t ht => ?_⟩, h.f⟩
    · obtain ⟨t, ht, rfl⟩ := List.getElem_of_mem hx
      exact h.s t ht
    · rw [Nat.zero_add]
      exact ⟨h.ca t ht, h.ke t ht⟩
theorem checkB_no {d : Dev} (h : ¬ MayD d) : checkB d = false := by
  cases hb : checkB d with
  | false => rfl
  | true => exact absurd ((checkB_iff d).1 hb) h
end Go.Proofs.Ytllijcnbjbfabaa

namespace Go.Proofs.Ytllijcnbjbfabaa
open Go.RowKit
set_option linter.unusedSimpArgs false
set_option linter.unusedVariables false

def chk (d : Dev) : Int := if checkB d = true then 0 else 2
theorem chk_no {d : Dev} (h : ¬ MayD d) : chk d = 2 := by rw [chk, checkB_no h]; rfl
theorem chk_yes {d : Dev} (h : MayD d) : chk d = 0 := by rw [chk, (checkB_iff d).2 h]; rfl
abbrev devB (d : Dev) : Blk' := ⟨[[.sl (d.s.map txV) false, .sl (d.cache.map ccV) false, .sl (d.keys.map inV) false, .int .i64 d.next, .sl (d.fen.map inV) false]], 5, 0⟩
set_option maxRecDepth 100000 in
set_option maxHeartbeats 16000000 in
theorem Check_con (d : Dev) (hd : DevOk d) : Con Try.prog 36 [devV d] (· = .int .i64 (chk d)) := by
  refine con_of_awp Try.func36 rfl mixed (by decide) rfl (by kernel_rfl) rfl ?_
  obtain ⟨q1, q2, q3, q4, q5, q6, q7, q8, q9⟩ := hd
  (repeat' (first | with_reducible (first | refine agr_d (fun hc => ?_) fun hc => ?_ | refine agr_n (fun hc => ?_) fun hc => ?_ | refine acd_d (fun hc => ?_) fun hc => ?_ | refine acd_n (fun hc => ?_) fun hc => ?_ | refine dgr_d (fun hc => ?_) fun hc => ?_ | refine dgr_n (fun hc => ?_) fun hc => ?_ | refine dl_sound _ _ [] [] [] _ _ (fun _ h => absurd h List.not_mem_nil) ?_ | refine conEnd_p (.inl rfl) ?_ | refine conEnd_p (.inr rfl) ?_) | simp (disch := omega) only [go_sem, devV, Nat.reduceAdd, Nat.reduceSub, Nat.reduceMul, Nat.reduceLeDiff, Nat.reduceLT, Nat.reduceEqDiff, Int.reduceLT, Int.reduceLE, Int.reduceToNat, Int.reduceAdd, Int.reduceSub, Int.reduceMul, Int.reduceEq, Int.reduceNeg, reduceCtorEq, true_and, and_true, Int.toNat_natCast, List.getElem?_map, Option.map_some, List.length_map, List.length_take, List.length_drop, List.length_append, Nat.sub_zero, Int.toNat_zero, List.length_replicate, Bool.true_or, Bool.or_true, Bool.false_or, Bool.or_false, false_implies, implies_true]))
  all_goals (first | (rw [chk_no (fun h => by have := h.s0; have := h.k0; have := h.k1; have := h.c; have := h.n0; have := h.n1; omega)]; done) | skip)
  refine awp_for d.s.length (fun j fr st => ev fr (.tmp 1) = .ptr 0 0 0 ∧ ev fr (.tmp 3) = .int .i64 j ∧ 1 ≤ st.c ∧ st.get 0 = some (devB d) ∧ ∀ t (h : t < d.s.length), t < j → d.s[t].size ≤ 512) ?_ ?_
  · refine ⟨?_, ?_, ?_, ?_, fun t _ h => absurd h (by omega)⟩ <;> simp (disch := omega) only [go_sem, Nat.reduceAdd, Nat.reduceSub, Nat.reduceMul, Nat.reduceLeDiff, Nat.reduceLT, Nat.reduceEqDiff, Int.reduceLT, Int.reduceLE, Int.reduceToNat, Int.reduceAdd, Int.reduceSub, Int.reduceMul, Int.reduceEq, Int.reduceNeg, reduceCtorEq, true_and, and_true, Int.toNat_natCast, List.getElem?_map, Option.map_some, List.length_map, List.length_take, List.length_drop, List.length_append, Nat.sub_zero, Int.toNat_zero, List.length_replicate, Bool.true_or, Bool.or_true, Bool.false_or, Bool.or_false, false_implies, implies_true] <;> rfl
  rintro j fr st hj ⟨h1, h3, hc1, hb, hs⟩
  by_cases hlt : j < d.s.length
  · have hg : d.s[j]? = some d.s[j] := List.getElem?_eq_getElem hlt
    (repeat' (first | with_reducible (first | refine agr_d (fun hc => ?_) fun hc => ?_ | refine agr_n (fun hc => ?_) fun hc => ?_ | refine acd_d (fun hc => ?_) fun hc => ?_ | refine acd_n (fun hc => ?_) fun hc => ?_ | refine dgr_d (fun hc => ?_) fun hc => ?_ | refine dgr_n (fun hc => ?_) fun hc => ?_ | refine dl_sound _ _ [] [] [] _ _ (fun _ h => absurd h List.not_mem_nil) ?_ | refine conEnd_p (.inl rfl) ?_ | refine conEnd_p (.inr rfl) ?_) | simp (disch := omega) only [go_sem, h1, h3, hg, hb, devB, Nat.reduceAdd, Nat.reduceSub, Nat.reduceMul, Nat.reduceLeDiff, Nat.reduceLT, Nat.reduceEqDiff, Int.reduceLT, Int.reduceLE, Int.reduceToNat, Int.reduceAdd, Int.reduceSub, Int.reduceMul, Int.reduceEq, Int.reduceNeg, reduceCtorEq, true_and, and_true, Int.toNat_natCast, List.getElem?_map, Option.map_some, List.length_map, List.length_take, List.length_drop, List.length_append, Nat.sub_zero, Int.toNat_zero, List.length_replicate, Bool.true_or, Bool.or_true, Bool.false_or, Bool.or_false, false_implies, implies_true]))
    · rw [chk_no (fun h => by have := h.s j hlt; omega)]
    · refine ⟨j + 1, by omega, by omega, rfl, by omega, fun t ht htj => ?_⟩
      rcases Nat.lt_or_ge t j with h4 | h4
      · exact hs t ht h4
      · obtain rfl : t = j := by omega
        omega
  (repeat' (first | with_reducible (first | refine agr_d (fun hc => ?_) fun hc => ?_ | refine agr_n (fun hc => ?_) fun hc => ?_ | refine acd_d (fun hc => ?_) fun hc => ?_ | refine acd_n (fun hc => ?_) fun hc => ?_ | refine dgr_d (fun hc => ?_) fun hc => ?_ | refine dgr_n (fun hc => ?_) fun hc => ?_ | refine dl_sound _ _ [] [] [] _ _ (fun _ h => absurd h List.not_mem_nil) ?_ | refine conEnd_p (.inl rfl) ?_ | refine conEnd_p (.inr rfl) ?_) | simp (disch := omega) only [go_sem, h1, h3, hb, devB, Nat.reduceAdd, Nat.reduceSub, Nat.reduceMul, Nat.reduceLeDiff, Nat.reduceLT, Nat.reduceEqDiff, Int.reduceLT, Int.reduceLE, Int.reduceToNat, Int.reduceAdd, Int.reduceSub, Int.reduceMul, Int.reduceEq, Int.reduceNeg, reduceCtorEq, true_and, and_true, Int.toNat_natCast, List.getElem?_map, Option.map_some, List.length_map, List.length_take, List.length_drop, List.length_append, Nat.sub_zero, Int.toNat_zero, List.length_replicate, Bool.true_or, Bool.or_true, Bool.false_or, Bool.or_false, false_implies, implies_true]))
  refine awp_for d.keys.length (fun j fr st => ev fr (.tmp 1) = .ptr 0 0 0 ∧ ev fr (.tmp 4) = .int .i64 j ∧ 1 ≤ st.c ∧ st.get 0 = some (devB d) ∧ ∀ t (h : t < d.keys.length), t < j → cachedB d.s.length [] (d.cache.getD t []) = true ∧ (d.keys[t] = 0 ∨ (givenB d d.keys[t] = true ∧ d.keys[t] % 16 = (t : Int)))) ?_ ?_
  · refine ⟨?_, ?_, ?_, ?_, fun t _ h => absurd h (by omega)⟩ <;> (try simp (disch := omega) only [go_sem, h1, Nat.reduceAdd, Nat.reduceSub, Nat.reduceMul, Nat.reduceLeDiff, Nat.reduceLT, Nat.reduceEqDiff, Int.reduceLT, Int.reduceLE, Int.reduceToNat, Int.reduceAdd, Int.reduceSub, Int.reduceMul, Int.reduceEq, Int.reduceNeg, reduceCtorEq, true_and, and_true, Int.toNat_natCast, List.getElem?_map, Option.map_some, List.length_map, List.length_take, List.length_drop, List.length_append, Nat.sub_zero, Int.toNat_zero, List.length_replicate, Bool.true_or, Bool.or_true, Bool.false_or, Bool.or_false, false_implies, implies_true]) <;> first | rfl | assumption
  clear h1 h3 hc1 hb hj
  rintro j' fr st hj' ⟨h1, h4, hc1, hb, hk⟩
  by_cases hlt' : j' < d.keys.length
  · have hg : d.keys[j']? = some d.keys[j'] := List.getElem?_eq_getElem hlt'
    have hlc : j' < d.cache.length := by omega
    have hg2 : d.cache[j']? = some d.cache[j'] := List.getElem?_eq_getElem hlc
    have hgd : d.cache.getD j' [] = d.cache[j'] := by rw [List.getD_eq_getElem?_getD, hg2]; rfl
    have hkr := q5 j' hlt'
    have hcc := cached_c d.cache[j'] d.s.length (q3 j' hlc)
    have hgc := given_c d d.keys[j'] (by omega)
    have hnext : (d.keys[j'] = 0 ∨ (givenB d d.keys[j'] = true ∧ d.keys[j'] % 16 = (j' : Int))) → cachedB d.s.length [] d.cache[j'] = true → ∀ t (h : t < d.keys.length), t < j' + 1 → cachedB d.s.length [] (d.cache.getD t []) = true ∧ (d.keys[t] = 0 ∨ (givenB d d.keys[t] = true ∧ d.keys[t] % 16 = (t : Int))) := fun g1 g2 t ht htj => by
      rcases Nat.lt_or_ge t j' with h5 | h5
      · exact hk t ht h5
      · obtain rfl : t = j' := by omega
        exact ⟨by rw [hgd]; exact g2, g1⟩
    have hg16 : givenB d d.keys[j'] = true → 16 ≤ d.keys[j'] := fun h => (of_decide_eq_true h).1
    have hno : cachedB d.s.length [] d.cache[j'] = false ∨ ¬ (d.keys[j'] = 0 ∨ (givenB d d.keys[j'] = true ∧ d.keys[j'] % 16 = (j' : Int))) → ¬ MayD d := fun h hm => by
      rcases h with h | h
      · have := hm.ca j' hlt'
        rw [hgd, h] at this
        cases this
      · exact h (hm.ke j' hlt')
    cases hcb : cachedB d.s.length [] d.cache[j'] with
    | false =>
      rw [hcb] at hcc
      (repeat' (first | with_reducible (first | refine agr_d (fun hc => ?_) fun hc => ?_ | refine agr_n (fun hc => ?_) fun hc => ?_ | refine acd_d (fun hc => ?_) fun hc => ?_ | refine acd_n (fun hc => ?_) fun hc => ?_ | refine dgr_d (fun hc => ?_) fun hc => ?_ | refine dgr_n (fun hc => ?_) fun hc => ?_ | refine dl_sound _ _ [] [] [] _ _ (fun _ h => absurd h List.not_mem_nil) ?_ | refine conEnd_p (.inl rfl) ?_ | refine conEnd_p (.inr rfl) ?_ | refine dc1_p hcc ?_ | refine ac1_p hcc ?_) | simp (disch := omega) only [go_sem, h1, h4, hg, hg2, hb, devB, Nat.reduceAdd, Nat.reduceSub, Nat.reduceMul, Nat.reduceLeDiff, Nat.reduceLT, Nat.reduceEqDiff, Int.reduceLT, Int.reduceLE, Int.reduceToNat, Int.reduceAdd, Int.reduceSub, Int.reduceMul, Int.reduceEq, Int.reduceNeg, reduceCtorEq, true_and, and_true, Int.toNat_natCast, List.getElem?_map, Option.map_some, List.length_map, List.length_take, List.length_drop, List.length_append, Nat.sub_zero, Int.toNat_zero, List.length_replicate, Bool.true_or, Bool.or_true, Bool.false_or, Bool.or_false, false_implies, implies_true]))
      rw [chk_no (hno (.inl hcb))]
    | true =>
      rw [hcb] at hcc
      cases hgb : givenB d d.keys[j'] with
      | false =>
        rw [hgb] at hgc
        (repeat' (first | with_reducible (first | refine agr_d (fun hc => ?_) fun hc => ?_ | refine agr_n (fun hc => ?_) fun hc => ?_ | refine acd_d (fun hc => ?_) fun hc => ?_ | refine acd_n (fun hc => ?_) fun hc => ?_ | refine dgr_d (fun hc => ?_) fun hc => ?_ | refine dgr_n (fun hc => ?_) fun hc => ?_ | refine dl_sound _ _ [] [] [] _ _ (fun _ h => absurd h List.not_mem_nil) ?_ | refine conEnd_p (.inl rfl) ?_ | refine conEnd_p (.inr rfl) ?_ | refine dc1_p hcc ?_ | refine ac1_p hcc ?_ | refine dc1_p hgc ?_ | refine ac1_p hgc ?_) | simp (disch := omega) only [go_sem, h1, h4, hg, hg2, hb, devB, Nat.reduceAdd, Nat.reduceSub, Nat.reduceMul, Nat.reduceLeDiff, Nat.reduceLT, Nat.reduceEqDiff, Int.reduceLT, Int.reduceLE, Int.reduceToNat, Int.reduceAdd, Int.reduceSub, Int.reduceMul, Int.reduceEq, Int.reduceNeg, reduceCtorEq, true_and, and_true, Int.toNat_natCast, List.getElem?_map, Option.map_some, List.length_map, List.length_take, List.length_drop, List.length_append, Nat.sub_zero, Int.toNat_zero, List.length_replicate, Bool.true_or, Bool.or_true, Bool.false_or, Bool.or_false, false_implies, implies_true]))
        · rw [chk_no (hno (.inr (by rw [hgb]; simp; omega)))]
        · refine ⟨j' + 1, by omega, by omega, rfl, by omega, hnext (.inl (by omega)) hcb⟩
      | true =>
        rw [hgb] at hgc
        have h16 := hg16 hgb
        (repeat' (first | with_reducible (first | refine agr_d (fun hc => ?_) fun hc => ?_ | refine agr_n (fun hc => ?_) fun hc => ?_ | refine acd_d (fun hc => ?_) fun hc => ?_ | refine acd_n (fun hc => ?_) fun hc => ?_ | refine dgr_d (fun hc => ?_) fun hc => ?_ | refine dgr_n (fun hc => ?_) fun hc => ?_ | refine dl_sound _ _ [] [] [] _ _ (fun _ h => absurd h List.not_mem_nil) ?_ | refine conEnd_p (.inl rfl) ?_ | refine conEnd_p (.inr rfl) ?_ | refine dc1_p hcc ?_ | refine ac1_p hcc ?_ | refine dc1_p hgc ?_ | refine ac1_p hgc ?_) | simp (disch := omega) only [go_sem, h1, h4, hg, hg2, hb, devB, Nat.reduceAdd, Nat.reduceSub, Nat.reduceMul, Nat.reduceLeDiff, Nat.reduceLT, Nat.reduceEqDiff, Int.reduceLT, Int.reduceLE, Int.reduceToNat, Int.reduceAdd, Int.reduceSub, Int.reduceMul, Int.reduceEq, Int.reduceNeg, reduceCtorEq, true_and, and_true, Int.toNat_natCast, List.getElem?_map, Option.map_some, List.length_map, List.length_take, List.length_drop, List.length_append, Nat.sub_zero, Int.toNat_zero, List.length_replicate, Bool.true_or, Bool.or_true, Bool.false_or, Bool.or_false, false_implies, implies_true]))
        · rw [chk_no (hno (.inr (by rw [hgb]; simp; omega)))]
        · refine ⟨j' + 1, by omega, by omega, rfl, by omega, hnext (.inr ⟨hgb, by omega⟩) hcb⟩
  (repeat' (first | with_reducible (first | refine agr_d (fun hc => ?_) fun hc => ?_ | refine agr_n (fun hc => ?_) fun hc => ?_ | refine acd_d (fun hc => ?_) fun hc => ?_ | refine acd_n (fun hc => ?_) fun hc => ?_ | refine dgr_d (fun hc => ?_) fun hc => ?_ | refine dgr_n (fun hc => ?_) fun hc => ?_ | refine dl_sound _ _ [] [] [] _ _ (fun _ h => absurd h List.not_mem_nil) ?_ | refine conEnd_p (.inl rfl) ?_ | refine conEnd_p (.inr rfl) ?_) | simp (disch := omega) only [go_sem, h1, h4, hb, devB, Nat.reduceAdd, Nat.reduceSub, Nat.reduceMul, Nat.reduceLeDiff, Nat.reduceLT, Nat.reduceEqDiff, Int.reduceLT, Int.reduceLE, Int.reduceToNat, Int.reduceAdd, Int.reduceSub, Int.reduceMul, Int.reduceEq, Int.reduceNeg, reduceCtorEq, true_and, and_true, Int.toNat_natCast, List.getElem?_map, Option.map_some, List.length_map, List.length_take, List.length_drop, List.length_append, Nat.sub_zero, Int.toNat_zero, List.length_replicate, Bool.true_or, Bool.or_true, Bool.false_or, Bool.or_false, false_implies, implies_true]))
  refine awp_for d.fen.length (fun j fr st => ev fr (.tmp 1) = .ptr 0 0 0 ∧ ev fr (.tmp 5) = .int .i64 j ∧ 1 ≤ st.c ∧ st.get 0 = some (devB d) ∧ fenP d j) ?_ ?_
  · refine ⟨?_, ?_, ?_, ?_, fun t _ h => absurd h (by omega)⟩ <;> (try simp (disch := omega) only [go_sem, h1, Nat.reduceAdd, Nat.reduceSub, Nat.reduceMul, Nat.reduceLeDiff, Nat.reduceLT, Nat.reduceEqDiff, Int.reduceLT, Int.reduceLE, Int.reduceToNat, Int.reduceAdd, Int.reduceSub, Int.reduceMul, Int.reduceEq, Int.reduceNeg, reduceCtorEq, true_and, and_true, Int.toNat_natCast, List.getElem?_map, Option.map_some, List.length_map, List.length_take, List.length_drop, List.length_append, Nat.sub_zero, Int.toNat_zero, List.length_replicate, Bool.true_or, Bool.or_true, Bool.false_or, Bool.or_false, false_implies, implies_true]) <;> first | rfl | assumption
  clear h1 h4 hc1 hb
  rintro i fr st hi ⟨h1, h5, hc1, hb, hf⟩
  by_cases hlt'' : i < d.fen.length
  · have hg : d.fen[i]? = some d.fen[i] := List.getElem?_eq_getElem hlt''
    have hkr := q8 i hlt''
    have hgc := given_c d d.fen[i] (by omega)
    cases hgb : givenB d d.fen[i] with
    | false =>
      rw [hgb] at hgc
      (repeat' (first | with_reducible (first | refine agr_d (fun hc => ?_) fun hc => ?_ | refine agr_n (fun hc => ?_) fun hc => ?_ | refine acd_d (fun hc => ?_) fun hc => ?_ | refine acd_n (fun hc => ?_) fun hc => ?_ | refine dgr_d (fun hc => ?_) fun hc => ?_ | refine dgr_n (fun hc => ?_) fun hc => ?_ | refine dl_sound _ _ [] [] [] _ _ (fun _ h => absurd h List.not_mem_nil) ?_ | refine conEnd_p (.inl rfl) ?_ | refine conEnd_p (.inr rfl) ?_ | refine dc1_p hgc ?_ | refine ac1_p hgc ?_) | simp (disch := omega) only [go_sem, h1, h5, hg, hb, devB, Nat.reduceAdd, Nat.reduceSub, Nat.reduceMul, Nat.reduceLeDiff, Nat.reduceLT, Nat.reduceEqDiff, Int.reduceLT, Int.reduceLE, Int.reduceToNat, Int.reduceAdd, Int.reduceSub, Int.reduceMul, Int.reduceEq, Int.reduceNeg, reduceCtorEq, true_and, and_true, Int.toNat_natCast, List.getElem?_map, Option.map_some, List.length_map, List.length_take, List.length_drop, List.length_append, Nat.sub_zero, Int.toNat_zero, List.length_replicate, Bool.true_or, Bool.or_true, Bool.false_or, Bool.or_false, false_implies, implies_true]))
      rw [chk_no (fun h => by have := (h.f i hlt'' hlt'').1; rw [hgb] at this; cases this)]
    | true =>
      rw [hgb] at hgc
      by_cases h0 : i = 0
      · subst h0
        (repeat' (first | with_reducible (first | refine agr_d (fun hc => ?_) fun hc => ?_ | refine agr_n (fun hc => ?_) fun hc => ?_ | refine acd_d (fun hc => ?_) fun hc => ?_ | refine acd_n (fun hc => ?_) fun hc => ?_ | refine dgr_d (fun hc => ?_) fun hc => ?_ | refine dgr_n (fun hc => ?_) fun hc => ?_ | refine dl_sound _ _ [] [] [] _ _ (fun _ h => absurd h List.not_mem_nil) ?_ | refine conEnd_p (.inl rfl) ?_ | refine conEnd_p (.inr rfl) ?_ | refine dc1_p hgc ?_ | refine ac1_p hgc ?_) | simp (disch := omega) only [go_sem, h1, h5, hg, hb, devB, Nat.reduceAdd, Nat.reduceSub, Nat.reduceMul, Nat.reduceLeDiff, Nat.reduceLT, Nat.reduceEqDiff, Int.reduceLT, Int.reduceLE, Int.reduceToNat, Int.reduceAdd, Int.reduceSub, Int.reduceMul, Int.reduceEq, Int.reduceNeg, reduceCtorEq, true_and, and_true, Int.toNat_natCast, List.getElem?_map, Option.map_some, List.length_map, List.length_take, List.length_drop, List.length_append, Nat.sub_zero, Int.toNat_zero, List.length_replicate, Bool.true_or, Bool.or_true, Bool.false_or, Bool.or_false, false_implies, implies_true]))
        refine ⟨1, by omega, by omega, rfl, by omega, fun t ht htj => ?_⟩
        obtain rfl : t = 0 := by omega
        exact ⟨hgb, fun s _ h => by omega⟩
      · obtain ⟨p, rfl⟩ : ∃ p, i = p + 1 := ⟨i - 1, by omega⟩
        have hp : p < d.fen.length := by omega
        have hg2 : d.fen[p]? = some d.fen[p] := List.getElem?_eq_getElem hp
        have hpp : (((p + 1 : Nat) : Int) - 1).toNat = p := by omega
        (repeat' (first | with_reducible (first | refine agr_d (fun hc => ?_) fun hc => ?_ | refine agr_n (fun hc => ?_) fun hc => ?_ | refine acd_d (fun hc => ?_) fun hc => ?_ | refine acd_n (fun hc => ?_) fun hc => ?_ | refine dgr_d (fun hc => ?_) fun hc => ?_ | refine dgr_n (fun hc => ?_) fun hc => ?_ | refine dl_sound _ _ [] [] [] _ _ (fun _ h => absurd h List.not_mem_nil) ?_ | refine conEnd_p (.inl rfl) ?_ | refine conEnd_p (.inr rfl) ?_ | refine dc1_p hgc ?_ | refine ac1_p hgc ?_) | simp (disch := omega) only [go_sem, h1, h5, hg, hg2, hpp, hb, devB, Nat.reduceAdd, Nat.reduceSub, Nat.reduceMul, Nat.reduceLeDiff, Nat.reduceLT, Nat.reduceEqDiff, Int.reduceLT, Int.reduceLE, Int.reduceToNat, Int.reduceAdd, Int.reduceSub, Int.reduceMul, Int.reduceEq, Int.reduceNeg, reduceCtorEq, true_and, and_true, Int.toNat_natCast, List.getElem?_map, Option.map_some, List.length_map, List.length_take, List.length_drop, List.length_append, Nat.sub_zero, Int.toNat_zero, List.length_replicate, Bool.true_or, Bool.or_true, Bool.false_or, Bool.or_false, false_implies, implies_true]))
        · rw [chk_no (fun h => by have := (h.f (p + 1) hlt'' hlt'').2 p hp rfl; omega)]
        · refine ⟨p + 2, by omega, by omega, rfl, by omega, fun t ht htj => ?_⟩
          rcases Nat.lt_or_ge t (p + 1) with h6 | h6
          · exact hf t ht h6
          · obtain rfl : t = p + 1 := by omega
            exact ⟨hgb, fun s hs hst => by obtain rfl : s = p := by omega
                                           omega⟩
  (repeat' (first | with_reducible (first | refine agr_d (fun hc => ?_) fun hc => ?_ | refine agr_n (fun hc => ?_) fun hc => ?_ | refine acd_d (fun hc => ?_) fun hc => ?_ | refine acd_n (fun hc => ?_) fun hc => ?_ | refine dgr_d (fun hc => ?_) fun hc => ?_ | refine dgr_n (fun hc => ?_) fun hc => ?_ | refine dl_sound _ _ [] [] [] _ _ (fun _ h => absurd h List.not_mem_nil) ?_ | refine conEnd_p (.inl rfl) ?_ | refine conEnd_p (.inr rfl) ?_) | simp (disch := omega) only [go_sem, h1, h5, hb, devB, Nat.reduceAdd, Nat.reduceSub, Nat.reduceMul, Nat.reduceLeDiff, Nat.reduceLT, Nat.reduceEqDiff, Int.reduceLT, Int.reduceLE, Int.reduceToNat, Int.reduceAdd, Int.reduceSub, Int.reduceMul, Int.reduceEq, Int.reduceNeg, reduceCtorEq, true_and, and_true, Int.toNat_natCast, List.getElem?_map, Option.map_some, List.length_map, List.length_take, List.length_drop, List.length_append, Nat.sub_zero, Int.toNat_zero, List.length_replicate, Bool.true_or, Bool.or_true, Bool.false_or, Bool.or_false, false_implies, implies_true]))
  rw [chk_yes ⟨by omega, by omega, by omega, by omega, by omega, by omega, fun t h => hs t h (by omega), fun t h => (hk t h (by omega)).1, fun t h => (hk t h (by omega)).2, fun t h h' => hf t h (by omega)⟩]
end Go.Proofs.Ytllijcnbjbfabaa

namespace Go.Proofs.Ytllijcnbjbfabaa
open Go.RowKit
set_option linter.unusedSimpArgs false
set_option linter.unusedVariables false

theorem plain_fn {f : Fn} {a c : List V} : Plain (.fn f a c) ↔ (∀ x ∈ a, Plain x) ∧ ∀ x ∈ c, Plain x := ⟨fun h => by cases h; exact ⟨by assumption, by assumption⟩, fun h => .fn f a c h.1 h.2⟩
/-- the first place at which a test is true; -1: none -/
def firstB (n : Nat) (p : Nat → Bool) : Int := match (List.range n).find? p with | some k => k | none => -1
theorem firstB_at {n : Nat} {p : Nat → Bool} {j : Nat} (hj : j < n) (h : p j = true) (hn : ∀ t, t < j → p t = false) : firstB n p = j := by
  unfold firstB
  have e : (List.range n).find? p = some j := by
    rw [List.find?_range_eq_some]
    exact ⟨h, by simpa using hj, fun t ht => by simp [hn t ht]⟩
  rw [e]
theorem firstB_none {n : Nat} {p : Nat → Bool} (hn : ∀ t, t < n → p t = false) : firstB n p = -1 := by
  unfold firstB
  have e : (List.range n).find? p = none := by
    rw [List.find?_eq_none]
    intro t ht
    rw [hn t (by simpa using ht)]
    simp
  rw [e]
theorem firstB_any {n : Nat} {p : Nat → Bool} : decide (0 ≤ firstB n p) = (List.range n).any p := by
  cases hf : (List.range n).any p with
  | true =>
    unfold firstB
    cases hq : (List.range n).find? p with
    | some k => simp
    | none =>
      rw [List.find?_eq_none] at hq
      rw [List.any_eq_true] at hf
      obtain ⟨x, hx, hp⟩ := hf
      exact absurd hp (hq x hx)
  | false =>
    rw [List.any_eq_false] at hf
    rw [firstB_none (fun t ht => by have := hf t (by simpa using ht); simpa using this)]
    rfl

set_option maxRecDepth 100000 in
set_option maxHeartbeats 4000000 in
theorem IndexFuncS_con (l : List ByteArray) (fl : Bool) (g : Nat) (cs : List V) (p : Nat → Bool) (hl : l.length ≤ 1000000000)
    (hg : ∀ t (h : t < l.length), PCon Try.prog g (.str l[t] :: cs) (.bool (p t))) :
    Con Try.prog 115 [.sl (l.map txV) fl, .fn (.func g) [] cs] (· = .int .i64 (firstB l.length p)) := by
  refine con_of_awp Try.func115 rfl mixed (by decide) rfl (by kernel_rfl) rfl ?_
  (repeat' (first | with_reducible (first | refine agr_d (fun hc => ?_) fun hc => ?_ | refine agr_n (fun hc => ?_) fun hc => ?_ | refine acd_d (fun hc => ?_) fun hc => ?_ | refine acd_n (fun hc => ?_) fun hc => ?_ | refine dgr_d (fun hc => ?_) fun hc => ?_ | refine dgr_n (fun hc => ?_) fun hc => ?_ | refine dl_sound _ _ [] [] [] _ _ (fun _ h => absurd h List.not_mem_nil) ?_) | simp (disch := omega) only [go_sem, Nat.reduceAdd, Nat.reduceSub, Nat.reduceMul, Nat.reduceLeDiff, Nat.reduceLT, Nat.reduceEqDiff, Int.reduceLT, Int.reduceLE, Int.reduceToNat, Int.reduceAdd, Int.reduceSub, Int.reduceMul, Int.reduceEq, Int.reduceNeg, reduceCtorEq, true_and, and_true, Int.toNat_natCast, List.getElem?_map, Option.map_some, List.length_map, List.length_take, List.length_drop, List.length_append, Nat.sub_zero, Int.toNat_zero, List.length_replicate, Bool.true_or, Bool.or_true, Bool.false_or, Bool.or_false, false_implies, implies_true]))
  refine awp_for l.length (fun j fr st => ev fr (.tmp 0) = .sl (l.map txV) fl ∧ ev fr (.tmp 1) = .fn (.func g) [] cs ∧ ev fr (.tmp 7) = .int .i64 l.length ∧ ev fr (.tmp 8) = .int .i64 j ∧ ∀ t, t < j → p t = false) ?_ ?_
  · refine ⟨?_, ?_, ?_, ?_, fun t h => absurd h (by omega)⟩ <;> simp (disch := omega) only [go_sem, Nat.reduceAdd, Nat.reduceSub, Nat.reduceMul, Nat.reduceLeDiff, Nat.reduceLT, Nat.reduceEqDiff, Int.reduceLT, Int.reduceLE, Int.reduceToNat, Int.reduceAdd, Int.reduceSub, Int.reduceMul, Int.reduceEq, Int.reduceNeg, reduceCtorEq, true_and, and_true, Int.toNat_natCast, List.getElem?_map, Option.map_some, List.length_map, List.length_take, List.length_drop, List.length_append, Nat.sub_zero, Int.toNat_zero, List.length_replicate, Bool.true_or, Bool.or_true, Bool.false_or, Bool.or_false, false_implies, implies_true] <;> rfl
  · rintro j fr st hj ⟨h0, h1, h7, h8, hn⟩
    by_cases hlt : j < l.length
    · have hgt : l[j]? = some l[j] := List.getElem?_eq_getElem hlt
      have hcall := hg j hlt
      cases hp : p j with
      | true =>
        rw [hp] at hcall
        (repeat' (first | with_reducible (first | refine agr_d (fun hc => ?_) fun hc => ?_ | refine agr_n (fun hc => ?_) fun hc => ?_ | refine acd_d (fun hc => ?_) fun hc => ?_ | refine acd_n (fun hc => ?_) fun hc => ?_ | refine dgr_d (fun hc => ?_) fun hc => ?_ | refine dgr_n (fun hc => ?_) fun hc => ?_ | refine dl_sound _ _ [] [] [] _ _ (fun _ h => absurd h List.not_mem_nil) ?_ | refine conEnd_p (.inl rfl) ?_ | refine conEnd_p (.inr rfl) ?_ | refine dc1_p hcall ?_ | refine ac1_p hcall ?_) | simp (disch := omega) only [go_sem, h0, h1, h7, h8, hgt, List.nil_append, List.cons_append, Nat.reduceAdd, Nat.reduceSub, Nat.reduceMul, Nat.reduceLeDiff, Nat.reduceLT, Nat.reduceEqDiff, Int.reduceLT, Int.reduceLE, Int.reduceToNat, Int.reduceAdd, Int.reduceSub, Int.reduceMul, Int.reduceEq, Int.reduceNeg, reduceCtorEq, true_and, and_true, Int.toNat_natCast, List.getElem?_map, Option.map_some, List.length_map, List.length_take, List.length_drop, List.length_append, Nat.sub_zero, Int.toNat_zero, List.length_replicate, Bool.true_or, Bool.or_true, Bool.false_or, Bool.or_false, false_implies, implies_true]))
        rw [firstB_at hlt hp hn]
      | false =>
        rw [hp] at hcall
        (repeat' (first | with_reducible (first | refine agr_d (fun hc => ?_) fun hc => ?_ | refine agr_n (fun hc => ?_) fun hc => ?_ | refine acd_d (fun hc => ?_) fun hc => ?_ | refine acd_n (fun hc => ?_) fun hc => ?_ | refine dgr_d (fun hc => ?_) fun hc => ?_ | refine dgr_n (fun hc => ?_) fun hc => ?_ | refine dl_sound _ _ [] [] [] _ _ (fun _ h => absurd h List.not_mem_nil) ?_ | refine conEnd_p (.inl rfl) ?_ | refine conEnd_p (.inr rfl) ?_ | refine dc1_p hcall ?_ | refine ac1_p hcall ?_) | simp (disch := omega) only [go_sem, h0, h1, h7, h8, hgt, List.nil_append, List.cons_append, Nat.reduceAdd, Nat.reduceSub, Nat.reduceMul, Nat.reduceLeDiff, Nat.reduceLT, Nat.reduceEqDiff, Int.reduceLT, Int.reduceLE, Int.reduceToNat, Int.reduceAdd, Int.reduceSub, Int.reduceMul, Int.reduceEq, Int.reduceNeg, reduceCtorEq, true_and, and_true, Int.toNat_natCast, List.getElem?_map, Option.map_some, List.length_map, List.length_take, List.length_drop, List.length_append, Nat.sub_zero, Int.toNat_zero, List.length_replicate, Bool.true_or, Bool.or_true, Bool.false_or, Bool.or_false, false_implies, implies_true]))
        refine ⟨j + 1, by omega, by omega, rfl, fun t ht => ?_⟩
        rcases Nat.lt_or_ge t j with h | h
        · exact hn t h
        · obtain rfl : t = j := by omega
          exact hp
    · (repeat' (first | with_reducible (first | refine agr_d (fun hc => ?_) fun hc => ?_ | refine agr_n (fun hc => ?_) fun hc => ?_ | refine acd_d (fun hc => ?_) fun hc => ?_ | refine acd_n (fun hc => ?_) fun hc => ?_ | refine dgr_d (fun hc => ?_) fun hc => ?_ | refine dgr_n (fun hc => ?_) fun hc => ?_ | refine dl_sound _ _ [] [] [] _ _ (fun _ h => absurd h List.not_mem_nil) ?_ | refine conEnd_p (.inl rfl) ?_ | refine conEnd_p (.inr rfl) ?_) | simp (disch := omega) only [go_sem, h0, h1, h7, h8, Nat.reduceAdd, Nat.reduceSub, Nat.reduceMul, Nat.reduceLeDiff, Nat.reduceLT, Nat.reduceEqDiff, Int.reduceLT, Int.reduceLE, Int.reduceToNat, Int.reduceAdd, Int.reduceSub, Int.reduceMul, Int.reduceEq, Int.reduceNeg, reduceCtorEq, true_and, and_true, Int.toNat_natCast, List.getElem?_map, Option.map_some, List.length_map, List.length_take, List.length_drop, List.length_append, Nat.sub_zero, Int.toNat_zero, List.length_replicate, Bool.true_or, Bool.or_true, Bool.false_or, Bool.or_false, false_implies, implies_true]))
      rw [firstB_none (fun t ht => hn t (by omega))]

set_option maxRecDepth 100000 in
set_option maxHeartbeats 4000000 in
theorem IndexFuncI_con (l : List Int) (fl : Bool) (g : Nat) (cs : List V) (p : Nat → Bool) (hl : l.length ≤ 1000000000)
    (hg : ∀ t (h : t < l.length), PCon Try.prog g (.int .i64 l[t] :: cs) (.bool (p t))) :
    Con Try.prog 94 [.sl (l.map inV) fl, .fn (.func g) [] cs] (· = .int .i64 (firstB l.length p)) := by
  refine con_of_awp Try.func94 rfl mixed (by decide) rfl (by kernel_rfl) rfl ?_
  (repeat' (first | with_reducible (first | refine agr_d (fun hc => ?_) fun hc => ?_ | refine agr_n (fun hc => ?_) fun hc => ?_ | refine acd_d (fun hc => ?_) fun hc => ?_ | refine acd_n (fun hc => ?_) fun hc => ?_ | refine dgr_d (fun hc => ?_) fun hc => ?_ | refine dgr_n (fun hc => ?_) fun hc => ?_ | refine dl_sound _ _ [] [] [] _ _ (fun _ h => absurd h List.not_mem_nil) ?_) | simp (disch := omega) only [go_sem, Nat.reduceAdd, Nat.reduceSub, Nat.reduceMul, Nat.reduceLeDiff, Nat.reduceLT, Nat.reduceEqDiff, Int.reduceLT, Int.reduceLE, Int.reduceToNat, Int.reduceAdd, Int.reduceSub, Int.reduceMul, Int.reduceEq, Int.reduceNeg, reduceCtorEq, true_and, and_true, Int.toNat_natCast, List.getElem?_map, Option.map_some, List.length_map, List.length_take, List.length_drop, List.length_append, Nat.sub_zero, Int.toNat_zero, List.length_replicate, Bool.true_or, Bool.or_true, Bool.false_or, Bool.or_false, false_implies, implies_true]))
  refine awp_for l.length (fun j fr st => ev fr (.tmp 0) = .sl (l.map inV) fl ∧ ev fr (.tmp 1) = .fn (.func g) [] cs ∧ ev fr (.tmp 7) = .int .i64 l.length ∧ ev fr (.tmp 8) = .int .i64 j ∧ ∀ t, t < j → p t = false) ?_ ?_
  · refine ⟨?_, ?_, ?_, ?_, fun t h => absurd h (by omega)⟩ <;> simp (disch := omega) only [go_sem, Nat.reduceAdd, Nat.reduceSub, Nat.reduceMul, Nat.reduceLeDiff, Nat.reduceLT, Nat.reduceEqDiff, Int.reduceLT, Int.reduceLE, Int.reduceToNat, Int.reduceAdd, Int.reduceSub, Int.reduceMul, Int.reduceEq, Int.reduceNeg, reduceCtorEq, true_and, and_true, Int.toNat_natCast, List.getElem?_map, Option.map_some, List.length_map, List.length_take, List.length_drop, List.length_append, Nat.sub_zero, Int.toNat_zero, List.length_replicate, Bool.true_or, Bool.or_true, Bool.false_or, Bool.or_false, false_implies, implies_true] <;> rfl
  · rintro j fr st hj ⟨h0, h1, h7, h8, hn⟩
    by_cases hlt : j < l.length
    · have hgt : l[j]? = some l[j] := List.getElem?_eq_getElem hlt
      have hcall := hg j hlt
      cases hp : p j with
      | true =>
        rw [hp] at hcall
        (repeat' (first | with_reducible (first | refine agr_d (fun hc => ?_) fun hc => ?_ | refine agr_n (fun hc => ?_) fun hc => ?_ | refine acd_d (fun hc => ?_) fun hc => ?_ | refine acd_n (fun hc => ?_) fun hc => ?_ | refine dgr_d (fun hc => ?_) fun hc => ?_ | refine dgr_n (fun hc => ?_) fun hc => ?_ | refine dl_sound _ _ [] [] [] _ _ (fun _ h => absurd h List.not_mem_nil) ?_ | refine conEnd_p (.inl rfl) ?_ | refine conEnd_p (.inr rfl) ?_ | refine dc1_p hcall ?_ | refine ac1_p hcall ?_) | simp (disch := omega) only [go_sem, h0, h1, h7, h8, hgt, List.nil_append, List.cons_append, Nat.reduceAdd, Nat.reduceSub, Nat.reduceMul, Nat.reduceLeDiff, Nat.reduceLT, Nat.reduceEqDiff, Int.reduceLT, Int.reduceLE, Int.reduceToNat, Int.reduceAdd, Int.reduceSub, Int.reduceMul, Int.reduceEq, Int.reduceNeg, reduceCtorEq, true_and, and_true, Int.toNat_natCast, List.getElem?_map, Option.map_some, List.length_map, List.length_take, List.length_drop, List.length_append, Nat.sub_zero, Int.toNat_zero, List.length_replicate, Bool.true_or, Bool.or_true, Bool.false_or, Bool.or_false, false_implies, implies_true]))
        rw [firstB_at hlt hp hn]
      | false =>
        rw [hp] at hcall
        (repeat' (first | with_reducible (first | refine agr_d (fun hc => ?_) fun hc => ?_ | refine agr_n (fun hc => ?_) fun hc => ?_ | refine acd_d (fun hc => ?_) fun hc => ?_ | refine acd_n (fun hc => ?_) fun hc => ?_ | refine dgr_d (fun hc => ?_) fun hc => ?_ | refine dgr_n (fun hc => ?_) fun hc => ?_ | refine dl_sound _ _ [] [] [] _ _ (fun _ h => absurd h List.not_mem_nil) ?_ | refine conEnd_p (.inl rfl) ?_ | refine conEnd_p (.inr rfl) ?_ | refine dc1_p hcall ?_ | refine ac1_p hcall ?_) | simp (disch := omega) only [go_sem, h0, h1, h7, h8, hgt, List.nil_append, List.cons_append, Nat.reduceAdd, Nat.reduceSub, Nat.reduceMul, Nat.reduceLeDiff, Nat.reduceLT, Nat.reduceEqDiff, Int.reduceLT, Int.reduceLE, Int.reduceToNat, Int.reduceAdd, Int.reduceSub, Int.reduceMul, Int.reduceEq, Int.reduceNeg, reduceCtorEq, true_and, and_true, Int.toNat_natCast, List.getElem?_map, Option.map_some, List.length_map, List.length_take, List.length_drop, List.length_append, Nat.sub_zero, Int.toNat_zero, List.length_replicate, Bool.true_or, Bool.or_true, Bool.false_or, Bool.or_false, false_implies, implies_true]))
        refine ⟨j + 1, by omega, by omega, rfl, fun t ht => ?_⟩
        rcases Nat.lt_or_ge t j with h | h
        · exact hn t h
        · obtain rfl : t = j := by omega
          exact hp
    · (repeat' (first | with_reducible (first | refine agr_d (fun hc => ?_) fun hc => ?_ | refine agr_n (fun hc => ?_) fun hc => ?_ | refine acd_d (fun hc => ?_) fun hc => ?_ | refine acd_n (fun hc => ?_) fun hc => ?_ | refine dgr_d (fun hc => ?_) fun hc => ?_ | refine dgr_n (fun hc => ?_) fun hc => ?_ | refine dl_sound _ _ [] [] [] _ _ (fun _ h => absurd h List.not_mem_nil) ?_ | refine conEnd_p (.inl rfl) ?_ | refine conEnd_p (.inr rfl) ?_) | simp (disch := omega) only [go_sem, h0, h1, h7, h8, Nat.reduceAdd, Nat.reduceSub, Nat.reduceMul, Nat.reduceLeDiff, Nat.reduceLT, Nat.reduceEqDiff, Int.reduceLT, Int.reduceLE, Int.reduceToNat, Int.reduceAdd, Int.reduceSub, Int.reduceMul, Int.reduceEq, Int.reduceNeg, reduceCtorEq, true_and, and_true, Int.toNat_natCast, List.getElem?_map, Option.map_some, List.length_map, List.length_take, List.length_drop, List.length_append, Nat.sub_zero, Int.toNat_zero, List.length_replicate, Bool.true_or, Bool.or_true, Bool.false_or, Bool.or_false, false_implies, implies_true]))
      rw [firstB_none (fun t ht => hn t (by omega))]

set_option maxRecDepth 100000 in
set_option maxHeartbeats 4000000 in
theorem IndexFuncC_con (l : List Pr) (fl : Bool) (g : Nat) (cs : List V) (p : Nat → Bool) (hl : l.length ≤ 1000000000)
    (hg : ∀ t (h : t < l.length), PCon Try.prog g (.agg (prV l[t]) :: cs) (.bool (p t))) :
    Con Try.prog 85 [.sl (l.map prV) fl, .fn (.func g) [] cs] (· = .int .i64 (firstB l.length p)) := by
  refine con_of_awp Try.func85 rfl mixed (by decide) rfl (by kernel_rfl) rfl ?_
  (repeat' (first | with_reducible (first | refine agr_d (fun hc => ?_) fun hc => ?_ | refine agr_n (fun hc => ?_) fun hc => ?_ | refine acd_d (fun hc => ?_) fun hc => ?_ | refine acd_n (fun hc => ?_) fun hc => ?_ | refine dgr_d (fun hc => ?_) fun hc => ?_ | refine dgr_n (fun hc => ?_) fun hc => ?_ | refine dl_sound _ _ [] [] [] _ _ (fun _ h => absurd h List.not_mem_nil) ?_) | simp (disch := omega) only [go_sem, Nat.reduceAdd, Nat.reduceSub, Nat.reduceMul, Nat.reduceLeDiff, Nat.reduceLT, Nat.reduceEqDiff, Int.reduceLT, Int.reduceLE, Int.reduceToNat, Int.reduceAdd, Int.reduceSub, Int.reduceMul, Int.reduceEq, Int.reduceNeg, reduceCtorEq, true_and, and_true, Int.toNat_natCast, List.getElem?_map, Option.map_some, List.length_map, List.length_take, List.length_drop, List.length_append, Nat.sub_zero, Int.toNat_zero, List.length_replicate, Bool.true_or, Bool.or_true, Bool.false_or, Bool.or_false, false_implies, implies_true]))
  refine awp_for l.length (fun j fr st => ev fr (.tmp 0) = .sl (l.map prV) fl ∧ ev fr (.tmp 1) = .fn (.func g) [] cs ∧ ev fr (.tmp 7) = .int .i64 l.length ∧ ev fr (.tmp 8) = .int .i64 j ∧ ∀ t, t < j → p t = false) ?_ ?_
  · refine ⟨?_, ?_, ?_, ?_, fun t h => absurd h (by omega)⟩ <;> simp (disch := omega) only [go_sem, Nat.reduceAdd, Nat.reduceSub, Nat.reduceMul, Nat.reduceLeDiff, Nat.reduceLT, Nat.reduceEqDiff, Int.reduceLT, Int.reduceLE, Int.reduceToNat, Int.reduceAdd, Int.reduceSub, Int.reduceMul, Int.reduceEq, Int.reduceNeg, reduceCtorEq, true_and, and_true, Int.toNat_natCast, List.getElem?_map, Option.map_some, List.length_map, List.length_take, List.length_drop, List.length_append, Nat.sub_zero, Int.toNat_zero, List.length_replicate, Bool.true_or, Bool.or_true, Bool.false_or, Bool.or_false, false_implies, implies_true] <;> rfl
  · rintro j fr st hj ⟨h0, h1, h7, h8, hn⟩
    by_cases hlt : j < l.length
    · have hgt : l[j]? = some l[j] := List.getElem?_eq_getElem hlt
      have hcall : PCon Try.prog g (.agg [.int .i64 l[j].n, .str l[j].t] :: cs) (.bool (p j)) := hg j hlt
      cases hp : p j with
      | true =>
        rw [hp] at hcall
        (repeat' (first | with_reducible (first | refine agr_d (fun hc => ?_) fun hc => ?_ | refine agr_n (fun hc => ?_) fun hc => ?_ | refine acd_d (fun hc => ?_) fun hc => ?_ | refine acd_n (fun hc => ?_) fun hc => ?_ | refine dgr_d (fun hc => ?_) fun hc => ?_ | refine dgr_n (fun hc => ?_) fun hc => ?_ | refine dl_sound _ _ [] [] [] _ _ (fun _ h => absurd h List.not_mem_nil) ?_ | refine conEnd_p (.inl rfl) ?_ | refine conEnd_p (.inr rfl) ?_ | refine dc1_p hcall ?_ | refine ac1_p hcall ?_) | simp (disch := omega) only [go_sem, h0, h1, h7, h8, hgt, List.nil_append, List.cons_append, Nat.reduceAdd, Nat.reduceSub, Nat.reduceMul, Nat.reduceLeDiff, Nat.reduceLT, Nat.reduceEqDiff, Int.reduceLT, Int.reduceLE, Int.reduceToNat, Int.reduceAdd, Int.reduceSub, Int.reduceMul, Int.reduceEq, Int.reduceNeg, reduceCtorEq, true_and, and_true, Int.toNat_natCast, List.getElem?_map, Option.map_some, List.length_map, List.length_take, List.length_drop, List.length_append, Nat.sub_zero, Int.toNat_zero, List.length_replicate, Bool.true_or, Bool.or_true, Bool.false_or, Bool.or_false, false_implies, implies_true]))
        rw [firstB_at hlt hp hn]
      | false =>
        rw [hp] at hcall
        (repeat' (first | with_reducible (first | refine agr_d (fun hc => ?_) fun hc => ?_ | refine agr_n (fun hc => ?_) fun hc => ?_ | refine acd_d (fun hc => ?_) fun hc => ?_ | refine acd_n (fun hc => ?_) fun hc => ?_ | refine dgr_d (fun hc => ?_) fun hc => ?_ | refine dgr_n (fun hc => ?_) fun hc => ?_ | refine dl_sound _ _ [] [] [] _ _ (fun _ h => absurd h List.not_mem_nil) ?_ | refine conEnd_p (.inl rfl) ?_ | refine conEnd_p (.inr rfl) ?_ | refine dc1_p hcall ?_ | refine ac1_p hcall ?_) | simp (disch := omega) only [go_sem, h0, h1, h7, h8, hgt, List.nil_append, List.cons_append, Nat.reduceAdd, Nat.reduceSub, Nat.reduceMul, Nat.reduceLeDiff, Nat.reduceLT, Nat.reduceEqDiff, Int.reduceLT, Int.reduceLE, Int.reduceToNat, Int.reduceAdd, Int.reduceSub, Int.reduceMul, Int.reduceEq, Int.reduceNeg, reduceCtorEq, true_and, and_true, Int.toNat_natCast, List.getElem?_map, Option.map_some, List.length_map, List.length_take, List.length_drop, List.length_append, Nat.sub_zero, Int.toNat_zero, List.length_replicate, Bool.true_or, Bool.or_true, Bool.false_or, Bool.or_false, false_implies, implies_true]))
        refine ⟨j + 1, by omega, by omega, rfl, fun t ht => ?_⟩
        rcases Nat.lt_or_ge t j with h | h
        · exact hn t h
        · obtain rfl : t = j := by omega
          exact hp
    · (repeat' (first | with_reducible (first | refine agr_d (fun hc => ?_) fun hc => ?_ | refine agr_n (fun hc => ?_) fun hc => ?_ | refine acd_d (fun hc => ?_) fun hc => ?_ | refine acd_n (fun hc => ?_) fun hc => ?_ | refine dgr_d (fun hc => ?_) fun hc => ?_ | refine dgr_n (fun hc => ?_) fun hc => ?_ | refine dl_sound _ _ [] [] [] _ _ (fun _ h => absurd h List.not_mem_nil) ?_ | refine conEnd_p (.inl rfl) ?_ | refine conEnd_p (.inr rfl) ?_) | simp (disch := omega) only [go_sem, h0, h1, h7, h8, Nat.reduceAdd, Nat.reduceSub, Nat.reduceMul, Nat.reduceLeDiff, Nat.reduceLT, Nat.reduceEqDiff, Int.reduceLT, Int.reduceLE, Int.reduceToNat, Int.reduceAdd, Int.reduceSub, Int.reduceMul, Int.reduceEq, Int.reduceNeg, reduceCtorEq, true_and, and_true, Int.toNat_natCast, List.getElem?_map, Option.map_some, List.length_map, List.length_take, List.length_drop, List.length_append, Nat.sub_zero, Int.toNat_zero, List.length_replicate, Bool.true_or, Bool.or_true, Bool.false_or, Bool.or_false, false_implies, implies_true]))
      rw [firstB_none (fun t ht => hn t (by omega))]

theorem ContainsFuncS_con (l : List ByteArray) (fl : Bool) (g : Nat) (cs : List V) (p : Nat → Bool) (hl : l.length ≤ 1000000000) (hcs : ∀ x ∈ cs, Plain x)
    (hg : ∀ t (h : t < l.length), PCon Try.prog g (.str l[t] :: cs) (.bool (p t))) :
    Con Try.prog 102 [.sl (l.map txV) fl, .fn (.func g) [] cs] (· = .bool ((List.range l.length).any p)) := by
  refine con_of_awp Try.func102 rfl mixed (by decide) rfl (by kernel_rfl) rfl ?_
  have hcall : PCon Try.prog 115 [.sl (l.map txV) fl, .fn (.func g) [] cs] (.int .i64 (firstB l.length p)) := ⟨IndexFuncS_con l fl g cs p hl hg, by (simp only [List.nil_append, List.cons_append, List.append_nil, List.forall_mem_cons, List.not_mem_nil, false_implies, implies_true, and_true, true_and, plain_agg, plain_tp, plain_fn, plain_tup, plain_int, plain_bool, plain_str, plain_nilp, plain_nilfn, plain_undef, plain_dev, plain_pr, plain_tx, plain_in, plain_cc]); exact hcs⟩
  (repeat' (first | with_reducible (first | refine agr_d (fun hc => ?_) fun hc => ?_ | refine agr_n (fun hc => ?_) fun hc => ?_ | refine acd_d (fun hc => ?_) fun hc => ?_ | refine acd_n (fun hc => ?_) fun hc => ?_ | refine dgr_d (fun hc => ?_) fun hc => ?_ | refine dgr_n (fun hc => ?_) fun hc => ?_ | refine dl_sound _ _ [] [] [] _ _ (fun _ h => absurd h List.not_mem_nil) ?_ | refine conEnd_p (.inl rfl) ?_ | refine conEnd_p (.inr rfl) ?_ | refine dc1_p hcall ?_ | refine ac1_p hcall ?_) | simp (disch := omega) only [go_sem, Nat.reduceAdd, Nat.reduceSub, Nat.reduceMul, Nat.reduceLeDiff, Nat.reduceLT, Nat.reduceEqDiff, Int.reduceLT, Int.reduceLE, Int.reduceToNat, Int.reduceAdd, Int.reduceSub, Int.reduceMul, Int.reduceEq, Int.reduceNeg, reduceCtorEq, true_and, and_true, Int.toNat_natCast, List.getElem?_map, Option.map_some, List.length_map, List.length_take, List.length_drop, List.length_append, Nat.sub_zero, Int.toNat_zero, List.length_replicate, Bool.true_or, Bool.or_true, Bool.false_or, Bool.or_false, false_implies, implies_true]))
  rw [← firstB_any]

theorem ContainsFuncI_con (l : List Int) (fl : Bool) (g : Nat) (cs : List V) (p : Nat → Bool) (hl : l.length ≤ 1000000000) (hcs : ∀ x ∈ cs, Plain x)
    (hg : ∀ t (h : t < l.length), PCon Try.prog g (.int .i64 l[t] :: cs) (.bool (p t))) :
    Con Try.prog 65 [.sl (l.map inV) fl, .fn (.func g) [] cs] (· = .bool ((List.range l.length).any p)) := by
  refine con_of_awp Try.func65 rfl mixed (by decide) rfl (by kernel_rfl) rfl ?_
  have hcall : PCon Try.prog 94 [.sl (l.map inV) fl, .fn (.func g) [] cs] (.int .i64 (firstB l.length p)) := ⟨IndexFuncI_con l fl g cs p hl hg, by (simp only [List.nil_append, List.cons_append, List.append_nil, List.forall_mem_cons, List.not_mem_nil, false_implies, implies_true, and_true, true_and, plain_agg, plain_tp, plain_fn, plain_tup, plain_int, plain_bool, plain_str, plain_nilp, plain_nilfn, plain_undef, plain_dev, plain_pr, plain_tx, plain_in, plain_cc]); exact hcs⟩
  (repeat' (first | with_reducible (first | refine agr_d (fun hc => ?_) fun hc => ?_ | refine agr_n (fun hc => ?_) fun hc => ?_ | refine acd_d (fun hc => ?_) fun hc => ?_ | refine acd_n (fun hc => ?_) fun hc => ?_ | refine dgr_d (fun hc => ?_) fun hc => ?_ | refine dgr_n (fun hc => ?_) fun hc => ?_ | refine dl_sound _ _ [] [] [] _ _ (fun _ h => absurd h List.not_mem_nil) ?_ | refine conEnd_p (.inl rfl) ?_ | refine conEnd_p (.inr rfl) ?_ | refine dc1_p hcall ?_ | refine ac1_p hcall ?_) | simp (disch := omega) only [go_sem, Nat.reduceAdd, Nat.reduceSub, Nat.reduceMul, Nat.reduceLeDiff, Nat.reduceLT, Nat.reduceEqDiff, Int.reduceLT, Int.reduceLE, Int.reduceToNat, Int.reduceAdd, Int.reduceSub, Int.reduceMul, Int.reduceEq, Int.reduceNeg, reduceCtorEq, true_and, and_true, Int.toNat_natCast, List.getElem?_map, Option.map_some, List.length_map, List.length_take, List.length_drop, List.length_append, Nat.sub_zero, Int.toNat_zero, List.length_replicate, Bool.true_or, Bool.or_true, Bool.false_or, Bool.or_false, false_implies, implies_true]))
  rw [← firstB_any]
end Go.Proofs.Ytllijcnbjbfabaa

namespace Go.Proofs.Ytllijcnbjbfabaa
open Go.RowKit
set_option linter.unusedSimpArgs false
set_option linter.unusedVariables false
attribute [go_sem] Option.isNone_some Option.isNone_none Option.isSome_some Option.isSome_none
@[go_sem] theorem nif_pos {α : Type} {a b : Nat} {x y : α} (h : a = b) : (if a = b then x else y) = x := if_pos h
@[go_sem] theorem nif_neg {α : Type} {a b : Nat} {x y : α} (h : ¬ a = b) : (if a = b then x else y) = y := if_neg h
@[go_sem] theorem St.del_c {s : St} {b : Nat} : (s.del b).c = s.c := rfl
@[go_sem] theorem St.set_c {s : St} {b : Nat} {k : Blk'} : (s.set b k).c = s.c := rfl
@[go_sem] theorem St.new_c {s : St} {k : Blk'} : (s.new k).c = s.c + 1 := rfl
theorem bs_eq {b n m : Nat} (h : n = m) : V.bs b 0 n n = V.bs b 0 m m := by rw [h]
@[go_sem] theorem take_map_ {α β : Type} (f : α → β) (l : List α) (k : Nat) : (l.map f).take k = (l.take k).map f := (List.map_take).symm
@[go_sem] theorem drop_map_ {α β : Type} (f : α → β) (l : List α) (k : Nat) : (l.map f).drop k = (l.drop k).map f := (List.map_drop).symm
@[go_sem] theorem app_map_ {α β : Type} (f : α → β) (l m : List α) : l.map f ++ m.map f = (l ++ m).map f := (List.map_append).symm
@[go_sem] theorem all_pr (l : List Pr) : ((l.map prV).all fun r => decide (r.length = 2)) = true := by simp [prV, txV, inV, ccV]
@[go_sem] theorem all_tx (l : List ByteArray) : ((l.map txV).all fun r => decide (r.length = 1)) = true := by simp [prV, txV, inV, ccV]
@[go_sem] theorem all_in (l : List Int) : ((l.map inV).all fun r => decide (r.length = 1)) = true := by simp [prV, txV, inV, ccV]
@[go_sem] theorem all_cc (l : List (List Pr)) : ((l.map ccV).all fun r => decide (r.length = 1)) = true := by simp [prV, txV, inV, ccV]
@[go_sem] theorem all_n {n : Nat} : (([] : List (List V)).all fun r => decide (r.length = n)) = true := rfl
@[go_sem] theorem all_c {n : Nat} {r : List V} {l : List (List V)} : ((r :: l).all fun r => decide (r.length = n)) = (decide (r.length = n) && l.all fun r => decide (r.length = n)) := rfl
theorem Fz.row {st : St} {f : Nat → Nat} {b i n cap : Nat} {k : Blk'} (hk : st.get b = some k) (hle : i + n ≤ k.es.length) (hf : i + n ≤ f b) (hp : ∀ r ∈ k.es, ∀ x ∈ r, Plain x) : Fz st f (.bs b i n cap) (.sl ((k.es.drop i).take n) false) :=
  .bs b i n cap k _ hk hle hf (by simp; omega) (fun a ha ha' => by simp) (fun a ha ha' c hc hc' => by
    have e : ((k.es.drop i).take n)[a][c] = k.es[i + a][c] := by simp
    rw [e]
    exact .plain _ (hp _ (List.getElem_mem ha) _ (List.getElem_mem hc)))
theorem Fz.rows {st : St} {f : Nat → Nat} {b cap : Nat} {es : List (List V)} {sz lk : Nat} (hk : st.get b = some ⟨es, sz, lk⟩) (hf : es.length ≤ f b) (hp : Plain (.sl es false)) : Fz st f (.bs b 0 es.length cap) (.sl es false) := by
  have := Fz.row (f := f) (i := 0) (n := es.length) (cap := cap) hk (by simp) (by simpa using hf) (by cases hp with | sl _ _ h => exact h)
  simpa using this
end Go.Proofs.Ytllijcnbjbfabaa

namespace Go.Proofs.Ytllijcnbjbfabaa
open Go.RowKit
set_option linter.unusedSimpArgs false
set_option linter.unusedVariables false

/-- so many rounds of a loop, at most -/
def loopN (P : Program) (c : Code) (Q : AEx → Fr → St → Prop) : Nat → Fr → St → Prop
  | 0, _, _ => False
  | n + 1, fr, st => awp P c (AEx.then (loopN P c Q n) Q) fr st
@[go_sem] theorem loopN_s {P : Program} {c : Code} {Q : AEx → Fr → St → Prop} {n : Nat} {fr : Fr} {st : St} : loopN P c Q (n + 1) fr st = awp P c (AEx.then (loopN P c Q n) Q) fr st := nrfl rfl
theorem awp_unroll {P : Program} {c : Code} {Q : AEx → Fr → St → Prop} {fr : Fr} {st : St} (n : Nat) (h : loopN P c Q n fr st) : awp P (.loop c) Q fr st := by
  refine awp_for n (fun j fr st => loopN P c Q (n - j) fr st) h fun j fr st hj hI => ?_
  obtain ⟨m, hm⟩ : ∃ m, n - j = m := ⟨_, rfl⟩
  rw [hm] at hI
  cases m with
  | zero => exact hI.elim
  | succ m =>
    refine awp_mono c _ _ fr st (fun e fr' st' h => ?_) hI
    cases e with
    | normal => exact ⟨j + 1, by omega, by omega, by rw [show n - (j + 1) = m by omega]; exact h⟩
    | exit i => exact h
    | ret => exact h
theorem fconEnd_v {P : Program} {l : List ResultVar} {r : V} {fr : Fr} {st : St} {e : AEx} (he : e = .ret ∨ e = .normal) (h : bindV (rvv P fr st l) fun r0 => ∃ f, FzO st f r0 r) : fconEnd P l r e fr st := by
  obtain ⟨r0, h1, f, h2⟩ := bindV_some h
  rw [rvv_eq] at h1
  rcases he with rfl | rfl <;> exact ⟨r0, f, h1, h2⟩
theorem FzO.rows {st : St} {f : Nat → Nat} {b cap : Nat} {es : List (List V)} {sz lk : Nat} (hk : st.get b = some ⟨es, sz, lk⟩) (hf : es.length ≤ f b) (hp : ∀ r ∈ es, ∀ x ∈ r, Sc x) : FzO st f (.bs b 0 es.length cap) (.sl es false) :=
  .bs b 0 es.length cap _ es hk (by simp) (by simpa using hf) rfl (fun a ha ha' => by simp) (fun a ha ha' c hc hc' => by
    have e : es[0 + a]'(by simpa using ha) = es[a] := by congr 1; omega
    simp only [e]
    exact .sc _ (hp _ (List.getElem_mem ha') _ (List.getElem_mem _)))
theorem sc_pr (l : List Pr) : ∀ r ∈ l.map prV, ∀ x ∈ r, Sc x := fun r hr x hx => by
  obtain ⟨p, _, rfl⟩ := List.mem_map.1 hr
  simp only [prV, List.mem_cons, List.not_mem_nil, or_false] at hx
  rcases hx with rfl | rfl
  · exact .int _ _
  · exact .str _
theorem sc_in (l : List Int) : ∀ r ∈ l.map inV, ∀ x ∈ r, Sc x := fun r hr x hx => by
  obtain ⟨p, _, rfl⟩ := List.mem_map.1 hr
  simp only [inV, List.mem_cons, List.not_mem_nil, or_false] at hx
  rcases hx with rfl
  exact .int _ _
theorem fzo_end {st : St} {b n cap sz lk : Nat} {es : List (List V)} {X : V} (hk : st.get b = some ⟨es, sz, lk⟩) (hn : n = es.length) (hp : ∀ r ∈ es, ∀ x ∈ r, Sc x) (hX : V.sl es false = X) : ∃ f, FzO st f (.bs b 0 n cap) X := by
  subst hn
  subst hX
  exact ⟨fun _ => es.length, FzO.rows hk (Nat.le_refl _) hp⟩
theorem wrap8 {n : Int} (h1 : 0 ≤ n) (h2 : n < 256) : IntKind.u8.wrap n = n := by
  unfold IntKind.wrap
  simp [IntKind.bits, IntKind.signed]
  omega
section
variable {st : St} {f : Nat → Nat} {a b c d e a' b' c' d' e' : V}
theorem fz_tup2 (h1 : Fz st f a a') (h2 : Fz st f b b') : Fz st f (.tup [a, b]) (.tup [a', b']) := .tup _ _ rfl fun j hj hj' => by
  match j, hj with
  | 0, _ => exact h1
  | 1, _ => exact h2
theorem fz_tup3 (h1 : Fz st f a a') (h2 : Fz st f b b') (h3 : Fz st f c c') : Fz st f (.tup [a, b, c]) (.tup [a', b', c']) := .tup _ _ rfl fun j hj hj' => by
  match j, hj with
  | 0, _ => exact h1
  | 1, _ => exact h2
  | 2, _ => exact h3
theorem fz_agg5 (h1 : Fz st f a a') (h2 : Fz st f b b') (h3 : Fz st f c c') (h4 : Fz st f d d') (h5 : Fz st f e e') : Fz st f (.agg [a, b, c, d, e]) (.agg [a', b', c', d', e']) := .agg _ _ rfl fun j hj hj' => by
  match j, hj with
  | 0, _ => exact h1
  | 1, _ => exact h2
  | 2, _ => exact h3
  | 3, _ => exact h4
  | 4, _ => exact h5
theorem fzs_one (h1 : Fz st f a a') : Fzs st f [a] [a'] := ⟨rfl, fun j hj hj' => by
  match j, hj with
  | 0, _ => exact h1⟩
theorem fzs_two (h1 : Fz st f a a') (h2 : Fz st f b b') : Fzs st f [a, b] [a', b'] := ⟨rfl, fun j hj hj' => by
  match j, hj with
  | 0, _ => exact h1
  | 1, _ => exact h2⟩
theorem fzs_three (h1 : Fz st f a a') (h2 : Fz st f b b') (h3 : Fz st f c c') : Fzs st f [a, b, c] [a', b', c'] := ⟨rfl, fun j hj hj' => by
  match j, hj with
  | 0, _ => exact h1
  | 1, _ => exact h2
  | 2, _ => exact h3⟩
end
section
variable {P : Program} {ops : Array Oper} {n0 k : Nat} {h : FuncId} {d : Option Tmp} {op : Oper} {l : List Oper} {rd wr : Acc} {fr : Fr} {st : St} {g : Gs} {r x y : V} {b n cap sz lk : Nat} {es : List (List V)}
theorem fz_in (hg : g b = some ⟨es, sz, lk⟩) (hn : n = es.length) (hp : Plain (.sl es false)) : Fz ⟨resT (memL [n0, b]) g, n0⟩ (fun _ => es.length) (.bs b 0 n cap) (.sl es false) := by
  subst hn
  refine Fz.rows (sz := sz) (lk := lk) ?_ (Nat.le_refl _) hp
  show cond (memL [n0, b] b) (g b) none = _
  rw [memL_iff.2 (by simp)]
  exact hg
/-- a call of a value and a row of the store, whose value is plain -/
theorem dc1_sc2 {K : Fr → Gs → Prop} (hx : Plain x) (hg : g b = some ⟨es, sz, lk⟩) (hn : n = es.length) (hp : Plain (.sl es false)) (hc : Con P h [x, .sl es false] (· = r)) (hs : Sc r)
    (hk : okAcc op wr [n0 + k, b] [] = true ∧ dl P ops n0 K l (k + 1) ((k, [n0 + k, b], []) :: rd) wr (fr.put d r) g) : dc1 P ops n0 K h [x, .bs b 0 n cap] d op l k rd wr fr g :=
  dc1_sc (fun _ => es.length) [b] (fzs_two (.plain _ hx) (fz_in hg hn hp)) hc hs hk
theorem dc1_fr1 {K : Fr → Gs → Prop} (hx : Plain y) (hg : g b = some ⟨es, sz, lk⟩) (hn : n = es.length) (hp : Plain (.sl es false)) (hc : FCon P h [.sl es false, y] r)
    (hk : okAcc op wr [n0 + k, b] [] = true ∧ dl P ops n0 K l (k + 1) ((k, [n0 + k, b], []) :: rd) wr (fr.put d r) g) : dc1 P ops n0 K h [.bs b 0 n cap, y] d op l k rd wr fr g :=
  dc1_fr (fun _ => es.length) [b] (fzs_two (fz_in hg hn hp) (.plain _ hx)) hc hk
theorem ac1_sc1 {K : Fr → St → Prop} (hx : Plain y) (hg : st.get b = some ⟨es, sz, lk⟩) (hn : n = es.length) (hp : Plain (.sl es false)) (hc : Con P h [.sl es false, y] (· = r)) (hs : Sc r) (hk : aops P ops l (fr.put d r) st K) : ac1 P ops h [.bs b 0 n cap, y] d l fr st K := by
  subst hn
  exact ac1_sc (fun _ => es.length) (fzs_two (Fz.rows hg (Nat.le_refl _) hp) (.plain _ hx)) hc hs hk
end
end Go.Proofs.Ytllijcnbjbfabaa

namespace Go.Proofs.Ytllijcnbjbfabaa
open Go.RowKit
set_option linter.unusedSimpArgs false
set_option linter.unusedVariables false
set_option maxRecDepth 100000

@[go_sem] theorem und_mib : Try.prog.underlying 111 = some (.map 3 4) := by kernel_rfl
@[go_sem] theorem zero_bool : zeroV Try.prog 4 = some (.bool false) := by kernel_rfl
def bmR (l : List Int) : List (List V) := l.map fun n => [V.int .i64 n, V.bool true]
@[go_sem] theorem all_bm (l : List Int) : (bmR l).all (keyRow (.int .i64)) = true := by simp [bmR, keyRow, isKeyV]
@[go_sem] theorem rowOf_bm (n : Int) (l : List Int) : rowOf (.int .i64 n) (bmR l) = bif decide (n ∈ l) then some (.bool true) else none := by
  induction l with
  | nil => simp [bmR, rowOf]
  | cons a l ih =>
    unfold bmR at ih ⊢
    simp only [List.map_cons, rowOf, keyEq, ih]
    by_cases h : n = a <;> by_cases h2 : n ∈ l <;> simp [h, h2]
@[go_sem] theorem lk_bm (b : Bool) : lkV (bif b then some (.bool true) else none) (some (.bool false)) false = some (.bool b) := by cases b <;> rfl
@[go_sem] theorem lk_some {v : V} {z : Option V} : lkV (some v) z false = some v := rfl
@[go_sem] theorem lk_none {z : V} : lkV none (some z) false = some z := rfl
@[go_sem] theorem lk_someT {v : V} {z : Option V} : lkV (some v) z true = some (.tup [v, .bool true]) := rfl
@[go_sem] theorem lk_noneT {z : V} : lkV none (some z) true = some (.tup [z, .bool false]) := rfl
def addK (l : List Int) (n : Int) : List Int := if n ∈ l then l else l ++ [n]
@[go_sem] theorem putRow_bm (n : Int) (l : List Int) : putRow (.int .i64 n) (.bool true) (bmR l) = bmR (addK l n) := by
  induction l with
  | nil => simp [bmR, putRow, addK]
  | cons a l ih =>
    unfold bmR at ih ⊢
    simp only [List.map_cons, putRow, keyEq, ih]
    by_cases h : n = a
    · subst h; simp [addK]
    · by_cases h2 : n ∈ l <;> simp [addK, h, h2]
section
variable {P : Program} {ops : Array Oper} {n0 k : Nat} {h : FuncId} {d : Option Tmp} {op : Oper} {l : List Oper} {rd wr : Acc} {fr : Fr} {st : St} {g : Gs} {r x y : V} {b n cap sz lk : Nat} {es : List (List V)}
/-- a call of one row of the store, whose value is plain -/
theorem dc1_sc1 {K : Fr → Gs → Prop} (hg : g b = some ⟨es, sz, lk⟩) (hn : n = es.length) (hp : Plain (.sl es false)) (hc : Con P h [.sl es false] (· = r)) (hs : Sc r)
    (hk : okAcc op wr [n0 + k, b] [] = true ∧ dl P ops n0 K l (k + 1) ((k, [n0 + k, b], []) :: rd) wr (fr.put d r) g) : dc1 P ops n0 K h [.bs b 0 n cap] d op l k rd wr fr g :=
  dc1_sc (fun _ => es.length) [b] (fzs_one (fz_in hg hn hp)) hc hs hk
end
attribute [go_sem] vLookup sMapPut isKeyV nilB
end Go.Proofs.Ytllijcnbjbfabaa

namespace Go.Proofs.Ytllijcnbjbfabaa
open Go.RowKit
set_option linter.unusedSimpArgs false
set_option linter.unusedVariables false

theorem range_any {α : Type} (l : List α) (a : α) (f : α → Bool) : ((List.range l.length).any fun t => f (l.getD t a)) = l.any f := by
  rw [Bool.eq_iff_iff, List.any_eq_true, List.any_eq_true]
  constructor
  · rintro ⟨t, ht, h⟩
    have ht' : t < l.length := by simpa using ht
    rw [List.getD_eq_getElem?_getD, List.getElem?_eq_getElem ht'] at h
    exact ⟨l[t], List.getElem_mem ht', h⟩
  · rintro ⟨x, hx, h⟩
    obtain ⟨t, ht, rfl⟩ := List.getElem_of_mem hx
    refine ⟨t, by simpa using ht, ?_⟩
    rw [List.getD_eq_getElem?_getD, List.getElem?_eq_getElem ht]
    exact h
theorem getD_at {α : Type} {l : List α} {a : α} {t : Nat} (h : t < l.length) : l.getD t a = l[t] := by
  rw [List.getD_eq_getElem?_getD, List.getElem?_eq_getElem h]
  rfl
theorem shortc_con (s : ByteArray) : Con Try.prog 103 [.str s] (· = .bool (decide ((512 : Int) < (s.size : Int)))) := by
  refine con_of_awp Try.func103 rfl mixed (by decide) rfl (by kernel_rfl) rfl ?_
  (repeat' (first | with_reducible (first | refine agr_d (fun hc => ?_) fun hc => ?_ | refine agr_n (fun hc => ?_) fun hc => ?_ | refine acd_d (fun hc => ?_) fun hc => ?_ | refine acd_n (fun hc => ?_) fun hc => ?_ | refine dgr_d (fun hc => ?_) fun hc => ?_ | refine dgr_n (fun hc => ?_) fun hc => ?_ | refine dl_sound _ _ [] [] [] _ _ (fun _ h => absurd h List.not_mem_nil) ?_ | refine conEnd_p (.inl rfl) ?_ | refine conEnd_p (.inr rfl) ?_) | simp (disch := omega) only [go_sem, Nat.reduceAdd, Nat.reduceSub, Nat.reduceMul, Nat.reduceLeDiff, Nat.reduceLT, Nat.reduceEqDiff, Int.reduceLT, Int.reduceLE, Int.reduceToNat, Int.reduceAdd, Int.reduceSub, Int.reduceMul, Int.reduceEq, Int.reduceNeg, reduceCtorEq, true_and, and_true, Int.toNat_natCast, List.getElem?_map, Option.map_some, List.length_map, List.length_take, List.length_drop, List.length_append, Nat.sub_zero, Int.toNat_zero, List.length_replicate, Bool.true_or, Bool.or_true, Bool.false_or, Bool.or_false, false_implies, implies_true]))
def shortB (l : List ByteArray) : Bool := l.all fun x => !decide ((512 : Int) < (x.size : Int))
theorem short_con (l : List ByteArray) (fl : Bool) (hl : l.length ≤ 1000000000) : Con Try.prog 81 [.sl (l.map txV) fl] (· = .bool (shortB l)) := by
  refine con_of_awp Try.func81 rfl mixed (by decide) rfl (by kernel_rfl) rfl ?_
  have hcall : PCon Try.prog 102 [.sl (l.map txV) fl, .fn (.func 103) [] []] (.bool ((List.range l.length).any fun t => decide ((512 : Int) < ((l.getD t ⟨#[]⟩).size : Int)))) :=
    ⟨ContainsFuncS_con l fl _ [] _ hl (fun _ h => by cases h) fun t h => ⟨by rw [getD_at h]; exact shortc_con _, by (simp only [List.nil_append, List.cons_append, List.append_nil, List.forall_mem_cons, List.not_mem_nil, false_implies, implies_true, and_true, true_and, plain_agg, plain_tp, plain_fn, plain_tup, plain_int, plain_bool, plain_str, plain_nilp, plain_nilfn, plain_undef, plain_dev, plain_pr, plain_tx, plain_in, plain_cc])⟩, by (simp only [List.nil_append, List.cons_append, List.append_nil, List.forall_mem_cons, List.not_mem_nil, false_implies, implies_true, and_true, true_and, plain_agg, plain_tp, plain_fn, plain_tup, plain_int, plain_bool, plain_str, plain_nilp, plain_nilfn, plain_undef, plain_dev, plain_pr, plain_tx, plain_in, plain_cc])⟩
  rw [range_any l ⟨#[]⟩ (fun x => decide ((512 : Int) < (x.size : Int)))] at hcall
  (repeat' (first | with_reducible (first | refine agr_d (fun hc => ?_) fun hc => ?_ | refine agr_n (fun hc => ?_) fun hc => ?_ | refine acd_d (fun hc => ?_) fun hc => ?_ | refine acd_n (fun hc => ?_) fun hc => ?_ | refine dgr_d (fun hc => ?_) fun hc => ?_ | refine dgr_n (fun hc => ?_) fun hc => ?_ | refine dl_sound _ _ [] [] [] _ _ (fun _ h => absurd h List.not_mem_nil) ?_ | refine conEnd_p (.inl rfl) ?_ | refine conEnd_p (.inr rfl) ?_ | refine dc1_p hcall ?_ | refine ac1_p hcall ?_) | simp (disch := omega) only [go_sem, Nat.reduceAdd, Nat.reduceSub, Nat.reduceMul, Nat.reduceLeDiff, Nat.reduceLT, Nat.reduceEqDiff, Int.reduceLT, Int.reduceLE, Int.reduceToNat, Int.reduceAdd, Int.reduceSub, Int.reduceMul, Int.reduceEq, Int.reduceNeg, reduceCtorEq, true_and, and_true, Int.toNat_natCast, List.getElem?_map, Option.map_some, List.length_map, List.length_take, List.length_drop, List.length_append, Nat.sub_zero, Int.toNat_zero, List.length_replicate, Bool.true_or, Bool.or_true, Bool.false_or, Bool.or_false, false_implies, implies_true]))
  rw [shortB, List.not_any_eq_all_not]
abbrev devT (d : Dev) : V := .tp [.sl (d.s.map txV) false, .sl (d.cache.map ccV) false, .sl (d.keys.map inV) false, .int .i64 d.next, .sl (d.fen.map inV) false]
theorem plain_devT (d : Dev) : Plain (devT d) := by (simp only [List.nil_append, List.cons_append, List.append_nil, List.forall_mem_cons, List.not_mem_nil, false_implies, implies_true, and_true, true_and, plain_agg, plain_tp, plain_fn, plain_tup, plain_int, plain_bool, plain_str, plain_nilp, plain_nilfn, plain_undef, plain_dev, plain_pr, plain_tx, plain_in, plain_cc])
theorem givenB_eq (d : Dev) (key : Int) : givenB d key = (decide (16 ≤ key) && decide (key / 16 < d.next) && decide (key % 16 < (d.keys.length : Int))) := by
  unfold givenB
  by_cases h1 : 16 ≤ key <;> by_cases h2 : key / 16 < d.next <;> by_cases h3 : key % 16 < (d.keys.length : Int) <;> simp [h1, h2, h3]
set_option maxHeartbeats 1000000 in
theorem wgiven_con (d : Dev) (key : Int) (hk : key ≤ 9223372036854775807) : Con Try.prog 83 [devT d, .int .i64 key] (· = .bool (givenB d key)) := by
  refine con_of_awp Try.func83 rfl mixed (by decide) rfl (by kernel_rfl) rfl ?_
  rw [givenB_eq]
  (repeat' (first | with_reducible (first | refine agr_d (fun hc => ?_) fun hc => ?_ | refine agr_n (fun hc => ?_) fun hc => ?_ | refine acd_d (fun hc => ?_) fun hc => ?_ | refine acd_n (fun hc => ?_) fun hc => ?_ | refine dgr_d (fun hc => ?_) fun hc => ?_ | refine dgr_n (fun hc => ?_) fun hc => ?_ | refine dl_sound _ _ [] [] [] _ _ (fun _ h => absurd h List.not_mem_nil) ?_ | refine conEnd_p (.inl rfl) ?_ | refine conEnd_p (.inr rfl) ?_) | simp (disch := omega) only [go_sem, devT, Nat.reduceAdd, Nat.reduceSub, Nat.reduceMul, Nat.reduceLeDiff, Nat.reduceLT, Nat.reduceEqDiff, Int.reduceLT, Int.reduceLE, Int.reduceToNat, Int.reduceAdd, Int.reduceSub, Int.reduceMul, Int.reduceEq, Int.reduceNeg, reduceCtorEq, true_and, and_true, Int.toNat_natCast, List.getElem?_map, Option.map_some, List.length_map, List.length_take, List.length_drop, List.length_append, Nat.sub_zero, Int.toNat_zero, List.length_replicate, Bool.true_or, Bool.or_true, Bool.false_or, Bool.or_false, false_implies, implies_true]))
set_option maxHeartbeats 1000000 in
theorem wnode_con (d : Dev) (n : Int) : Con Try.prog 79 [devT d, .int .i64 n] (· = .bool (decide (0 ≤ n) && decide (n < (d.keys.length : Int)))) := by
  refine con_of_awp Try.func79 rfl mixed (by decide) rfl (by kernel_rfl) rfl ?_
  (repeat' (first | with_reducible (first | refine agr_d (fun hc => ?_) fun hc => ?_ | refine agr_n (fun hc => ?_) fun hc => ?_ | refine acd_d (fun hc => ?_) fun hc => ?_ | refine acd_n (fun hc => ?_) fun hc => ?_ | refine dgr_d (fun hc => ?_) fun hc => ?_ | refine dgr_n (fun hc => ?_) fun hc => ?_ | refine dl_sound _ _ [] [] [] _ _ (fun _ h => absurd h List.not_mem_nil) ?_ | refine conEnd_p (.inl rfl) ?_ | refine conEnd_p (.inr rfl) ?_) | simp (disch := omega) only [go_sem, devT, Nat.reduceAdd, Nat.reduceSub, Nat.reduceMul, Nat.reduceLeDiff, Nat.reduceLT, Nat.reduceEqDiff, Int.reduceLT, Int.reduceLE, Int.reduceToNat, Int.reduceAdd, Int.reduceSub, Int.reduceMul, Int.reduceEq, Int.reduceNeg, reduceCtorEq, true_and, and_true, Int.toNat_natCast, List.getElem?_map, Option.map_some, List.length_map, List.length_take, List.length_drop, List.length_append, Nat.sub_zero, Int.toNat_zero, List.length_replicate, Bool.true_or, Bool.or_true, Bool.false_or, Bool.or_false, false_implies, implies_true]))
set_option maxRecDepth 100000 in
set_option maxHeartbeats 4000000 in
theorem IndexI_con (l : List Int) (fl : Bool) (x : Int) (hl : l.length ≤ 1000000000) :
    Con Try.prog 95 [.sl (l.map inV) fl, .int .i64 x] (· = .int .i64 (firstB l.length fun t => decide (x = l.getD t 0))) := by
  refine con_of_awp Try.func95 rfl mixed (by decide) rfl (by kernel_rfl) rfl ?_
  (repeat' (first | with_reducible (first | refine agr_d (fun hc => ?_) fun hc => ?_ | refine agr_n (fun hc => ?_) fun hc => ?_ | refine acd_d (fun hc => ?_) fun hc => ?_ | refine acd_n (fun hc => ?_) fun hc => ?_ | refine dgr_d (fun hc => ?_) fun hc => ?_ | refine dgr_n (fun hc => ?_) fun hc => ?_ | refine dl_sound _ _ [] [] [] _ _ (fun _ h => absurd h List.not_mem_nil) ?_) | simp (disch := omega) only [go_sem, Nat.reduceAdd, Nat.reduceSub, Nat.reduceMul, Nat.reduceLeDiff, Nat.reduceLT, Nat.reduceEqDiff, Int.reduceLT, Int.reduceLE, Int.reduceToNat, Int.reduceAdd, Int.reduceSub, Int.reduceMul, Int.reduceEq, Int.reduceNeg, reduceCtorEq, true_and, and_true, Int.toNat_natCast, List.getElem?_map, Option.map_some, List.length_map, List.length_take, List.length_drop, List.length_append, Nat.sub_zero, Int.toNat_zero, List.length_replicate, Bool.true_or, Bool.or_true, Bool.false_or, Bool.or_false, false_implies, implies_true]))
  refine awp_for l.length (fun j fr st => ev fr (.tmp 0) = .sl (l.map inV) fl ∧ ev fr (.tmp 1) = .int .i64 x ∧ ev fr (.tmp 7) = .int .i64 l.length ∧ ev fr (.tmp 8) = .int .i64 j ∧ ∀ t, t < j → decide (x = l.getD t 0) = false) ?_ ?_
  · refine ⟨?_, ?_, ?_, ?_, fun t h => absurd h (by omega)⟩ <;> simp (disch := omega) only [go_sem, Nat.reduceAdd, Nat.reduceSub, Nat.reduceMul, Nat.reduceLeDiff, Nat.reduceLT, Nat.reduceEqDiff, Int.reduceLT, Int.reduceLE, Int.reduceToNat, Int.reduceAdd, Int.reduceSub, Int.reduceMul, Int.reduceEq, Int.reduceNeg, reduceCtorEq, true_and, and_true, Int.toNat_natCast, List.getElem?_map, Option.map_some, List.length_map, List.length_take, List.length_drop, List.length_append, Nat.sub_zero, Int.toNat_zero, List.length_replicate, Bool.true_or, Bool.or_true, Bool.false_or, Bool.or_false, false_implies, implies_true] <;> rfl
  · rintro j fr st hj ⟨h0, h1, h7, h8, hn⟩
    by_cases hlt : j < l.length
    · have hgt : l[j]? = some l[j] := List.getElem?_eq_getElem hlt
      (repeat' (first | with_reducible (first | refine agr_d (fun hc => ?_) fun hc => ?_ | refine agr_n (fun hc => ?_) fun hc => ?_ | refine acd_d (fun hc => ?_) fun hc => ?_ | refine acd_n (fun hc => ?_) fun hc => ?_ | refine dgr_d (fun hc => ?_) fun hc => ?_ | refine dgr_n (fun hc => ?_) fun hc => ?_ | refine dl_sound _ _ [] [] [] _ _ (fun _ h => absurd h List.not_mem_nil) ?_ | refine conEnd_p (.inl rfl) ?_ | refine conEnd_p (.inr rfl) ?_) | simp (disch := omega) only [go_sem, h0, h1, h7, h8, hgt, Nat.reduceAdd, Nat.reduceSub, Nat.reduceMul, Nat.reduceLeDiff, Nat.reduceLT, Nat.reduceEqDiff, Int.reduceLT, Int.reduceLE, Int.reduceToNat, Int.reduceAdd, Int.reduceSub, Int.reduceMul, Int.reduceEq, Int.reduceNeg, reduceCtorEq, true_and, and_true, Int.toNat_natCast, List.getElem?_map, Option.map_some, List.length_map, List.length_take, List.length_drop, List.length_append, Nat.sub_zero, Int.toNat_zero, List.length_replicate, Bool.true_or, Bool.or_true, Bool.false_or, Bool.or_false, false_implies, implies_true]))
      · rw [firstB_at hlt (by rw [getD_at hlt]; exact decide_eq_true hc) hn]
      · refine ⟨j + 1, by omega, by omega, rfl, fun t ht => ?_⟩
        rcases Nat.lt_or_ge t j with h | h
        · exact hn t h
        · obtain rfl : t = j := by omega
          rw [getD_at hlt]
          exact decide_eq_false hc
    · (repeat' (first | with_reducible (first | refine agr_d (fun hc => ?_) fun hc => ?_ | refine agr_n (fun hc => ?_) fun hc => ?_ | refine acd_d (fun hc => ?_) fun hc => ?_ | refine acd_n (fun hc => ?_) fun hc => ?_ | refine dgr_d (fun hc => ?_) fun hc => ?_ | refine dgr_n (fun hc => ?_) fun hc => ?_ | refine dl_sound _ _ [] [] [] _ _ (fun _ h => absurd h List.not_mem_nil) ?_ | refine conEnd_p (.inl rfl) ?_ | refine conEnd_p (.inr rfl) ?_) | simp (disch := omega) only [go_sem, h0, h1, h7, h8, Nat.reduceAdd, Nat.reduceSub, Nat.reduceMul, Nat.reduceLeDiff, Nat.reduceLT, Nat.reduceEqDiff, Int.reduceLT, Int.reduceLE, Int.reduceToNat, Int.reduceAdd, Int.reduceSub, Int.reduceMul, Int.reduceEq, Int.reduceNeg, reduceCtorEq, true_and, and_true, Int.toNat_natCast, List.getElem?_map, Option.map_some, List.length_map, List.length_take, List.length_drop, List.length_append, Nat.sub_zero, Int.toNat_zero, List.length_replicate, Bool.true_or, Bool.or_true, Bool.false_or, Bool.or_false, false_implies, implies_true]))
      rw [firstB_none (fun t ht => hn t (by omega))]
theorem ContainsI_con (l : List Int) (fl : Bool) (x : Int) (hl : l.length ≤ 1000000000) : Con Try.prog 67 [.sl (l.map inV) fl, .int .i64 x] (· = .bool (l.any fun y => decide (x = y))) := by
  refine con_of_awp Try.func67 rfl mixed (by decide) rfl (by kernel_rfl) rfl ?_
  have hcall : PCon Try.prog 95 [.sl (l.map inV) fl, .int .i64 x] (.int .i64 (firstB l.length fun t => decide (x = l.getD t 0))) := ⟨IndexI_con l fl x hl, by (simp only [List.nil_append, List.cons_append, List.append_nil, List.forall_mem_cons, List.not_mem_nil, false_implies, implies_true, and_true, true_and, plain_agg, plain_tp, plain_fn, plain_tup, plain_int, plain_bool, plain_str, plain_nilp, plain_nilfn, plain_undef, plain_dev, plain_pr, plain_tx, plain_in, plain_cc])⟩
  (repeat' (first | with_reducible (first | refine agr_d (fun hc => ?_) fun hc => ?_ | refine agr_n (fun hc => ?_) fun hc => ?_ | refine acd_d (fun hc => ?_) fun hc => ?_ | refine acd_n (fun hc => ?_) fun hc => ?_ | refine dgr_d (fun hc => ?_) fun hc => ?_ | refine dgr_n (fun hc => ?_) fun hc => ?_ | refine dl_sound _ _ [] [] [] _ _ (fun _ h => absurd h List.not_mem_nil) ?_ | refine conEnd_p (.inl rfl) ?_ | refine conEnd_p (.inr rfl) ?_ | refine dc1_p hcall ?_ | refine ac1_p hcall ?_) | simp (disch := omega) only [go_sem, Nat.reduceAdd, Nat.reduceSub, Nat.reduceMul, Nat.reduceLeDiff, Nat.reduceLT, Nat.reduceEqDiff, Int.reduceLT, Int.reduceLE, Int.reduceToNat, Int.reduceAdd, Int.reduceSub, Int.reduceMul, Int.reduceEq, Int.reduceNeg, reduceCtorEq, true_and, and_true, Int.toNat_natCast, List.getElem?_map, Option.map_some, List.length_map, List.length_take, List.length_drop, List.length_append, Nat.sub_zero, Int.toNat_zero, List.length_replicate, Bool.true_or, Bool.or_true, Bool.false_or, Bool.or_false, false_implies, implies_true]))
  rw [firstB_any, range_any l 0 (fun y => decide (x = y))]
theorem fencedc_con (d : Dev) (k : Int) (hl : d.fen.length ≤ 1000000000) : Con Try.prog 66 [.int .i64 k, devT d] (· = .bool (decide (k < 1) || d.fen.any fun x => decide (k = x))) := by
  refine con_of_awp Try.func66 rfl mixed (by decide) rfl (by kernel_rfl) rfl ?_
  have hcall : PCon Try.prog 67 [.sl (d.fen.map inV) false, .int .i64 k] (.bool (d.fen.any fun y => decide (k = y))) := ⟨ContainsI_con d.fen false k hl, by (simp only [List.nil_append, List.cons_append, List.append_nil, List.forall_mem_cons, List.not_mem_nil, false_implies, implies_true, and_true, true_and, plain_agg, plain_tp, plain_fn, plain_tup, plain_int, plain_bool, plain_str, plain_nilp, plain_nilfn, plain_undef, plain_dev, plain_pr, plain_tx, plain_in, plain_cc])⟩
  (repeat' (first | with_reducible (first | refine agr_d (fun hc => ?_) fun hc => ?_ | refine agr_n (fun hc => ?_) fun hc => ?_ | refine acd_d (fun hc => ?_) fun hc => ?_ | refine acd_n (fun hc => ?_) fun hc => ?_ | refine dgr_d (fun hc => ?_) fun hc => ?_ | refine dgr_n (fun hc => ?_) fun hc => ?_ | refine dl_sound _ _ [] [] [] _ _ (fun _ h => absurd h List.not_mem_nil) ?_ | refine conEnd_p (.inl rfl) ?_ | refine conEnd_p (.inr rfl) ?_ | refine dc1_p hcall ?_ | refine ac1_p hcall ?_) | simp (disch := omega) only [go_sem, devT, Nat.reduceAdd, Nat.reduceSub, Nat.reduceMul, Nat.reduceLeDiff, Nat.reduceLT, Nat.reduceEqDiff, Int.reduceLT, Int.reduceLE, Int.reduceToNat, Int.reduceAdd, Int.reduceSub, Int.reduceMul, Int.reduceEq, Int.reduceNeg, reduceCtorEq, true_and, and_true, Int.toNat_natCast, List.getElem?_map, Option.map_some, List.length_map, List.length_take, List.length_drop, List.length_append, Nat.sub_zero, Int.toNat_zero, List.length_replicate, Bool.true_or, Bool.or_true, Bool.false_or, Bool.or_false, false_implies, implies_true]))
theorem fzs_fn {st : St} {f : Nat → Nat} {g : Nat} {x c c' : V} (hx : Plain x) (h : Fz st f c c') : Fzs st f [x, .fn (.func g) [] [c]] [x, .fn (.func g) [] [c']] := by
  refine fzs_two (.plain _ hx) (.fn _ _ _ _ _ rfl (fun j hj => absurd hj (by simp)) rfl fun j hj hj' => ?_)
  obtain rfl : j = 0 := by simp at hj; omega
  exact h
theorem fz_tp {st : St} {b sz lk : Nat} {cs : List V} (hk : st.get b = some ⟨[cs], sz, lk⟩) (hp : ∀ x ∈ cs, Plain x) : Fz st (fun _ => 1) (.ptr b 0 0) (.tp cs) :=
  .ptr b 0 0 _ cs hk (by simp) (by simp) (by simp) fun c hc hc' => by
    have e : (⟨[cs], sz, lk⟩ : Blk').es[0][0 + c] = cs[c] := by simp
    rw [e]
    exact .plain _ (hp _ (List.getElem_mem hc'))
theorem fencedB_eq (d : Dev) (keys : List Int) : (keys.any fun k => decide (k < 1) || d.fen.any fun x => decide (k = x)) = fencedB d keys := by
  unfold fencedB
  congr 1
  funext k
  congr 2
  funext x
  rw [decide_eq_decide]
  exact eq_comm
theorem dFenced_con (d : Dev) (keys : List Int) (fl : Bool) (hl : d.fen.length ≤ 1000000000) (hk : keys.length ≤ 1000000000) : Con Try.prog 25 [devV d, .sl (keys.map inV) fl] (· = .bool (fencedB d keys)) := by
  refine con_of_awp Try.func25 rfl mixed (by decide) rfl (by kernel_rfl) rfl ?_
  have hcall : Con Try.prog 65 [.sl (keys.map inV) fl, .fn (.func 66) [] [devT d]] (· = .bool ((List.range keys.length).any fun t => decide (keys.getD t 0 < 1) || d.fen.any fun x => decide (keys.getD t 0 = x))) :=
    ContainsFuncI_con keys fl _ [devT d] _ hk (fun x h => by
      obtain rfl : x = devT d := by simpa using h
      exact plain_devT d) fun t h => ⟨by rw [getD_at h]; exact fencedc_con d _ hl, by (simp only [List.nil_append, List.cons_append, List.append_nil, List.forall_mem_cons, List.not_mem_nil, false_implies, implies_true, and_true, true_and, plain_agg, plain_tp, plain_fn, plain_tup, plain_int, plain_bool, plain_str, plain_nilp, plain_nilfn, plain_undef, plain_dev, plain_pr, plain_tx, plain_in, plain_cc])⟩
  rw [range_any keys 0 (fun k => decide (k < 1) || d.fen.any fun x => decide (k = x)), fencedB_eq] at hcall
  (repeat' (first | with_reducible (first | refine agr_d (fun hc => ?_) fun hc => ?_ | refine agr_n (fun hc => ?_) fun hc => ?_ | refine acd_d (fun hc => ?_) fun hc => ?_ | refine acd_n (fun hc => ?_) fun hc => ?_ | refine dgr_d (fun hc => ?_) fun hc => ?_ | refine dgr_n (fun hc => ?_) fun hc => ?_ | refine dl_sound _ _ [] [] [] _ _ (fun _ h => absurd h List.not_mem_nil) ?_ | refine conEnd_p (.inl rfl) ?_ | refine conEnd_p (.inr rfl) ?_ | refine ac1_sc (fun _ => 1) (fzs_fn ((plain_in _ _).2 trivial) (fz_tp rfl (by (simp only [List.nil_append, List.cons_append, List.append_nil, List.forall_mem_cons, List.not_mem_nil, false_implies, implies_true, and_true, true_and, plain_agg, plain_tp, plain_fn, plain_tup, plain_int, plain_bool, plain_str, plain_nilp, plain_nilfn, plain_undef, plain_dev, plain_pr, plain_tx, plain_in, plain_cc])))) hcall (.bool _) ?_) | simp (disch := omega) only [go_sem, devV, Nat.reduceAdd, Nat.reduceSub, Nat.reduceMul, Nat.reduceLeDiff, Nat.reduceLT, Nat.reduceEqDiff, Int.reduceLT, Int.reduceLE, Int.reduceToNat, Int.reduceAdd, Int.reduceSub, Int.reduceMul, Int.reduceEq, Int.reduceNeg, reduceCtorEq, true_and, and_true, Int.toNat_natCast, List.getElem?_map, Option.map_some, List.length_map, List.length_take, List.length_drop, List.length_append, Nat.sub_zero, Int.toNat_zero, List.length_replicate, Bool.true_or, Bool.or_true, Bool.false_or, Bool.or_false, false_implies, implies_true]))
theorem wfenced_con (d : Dev) (n : Nat) (hn : n < d.keys.length) (hl : d.fen.length ≤ 1000000000) (hkl : d.keys.length ≤ 1000000000) : Con Try.prog 80 [devT d, .int .i64 n] (· = .bool (fencedB d [d.keys[n]])) := by
  refine con_of_awp Try.func80 rfl mixed (by decide) rfl (by kernel_rfl) rfl ?_
  have hcall : Con Try.prog 25 [devV d, .sl [[.int .i64 d.keys[n]]] false] (· = .bool (fencedB d [d.keys[n]])) := dFenced_con d [d.keys[n]] false hl (by simp)
  have hg : d.keys[n]? = some d.keys[n] := List.getElem?_eq_getElem hn
  have hpd : Plain (devV d) := (plain_dev d).2 trivial
  have hpk : Plain (.sl [[.int .i64 d.keys[n]]] false) := (plain_in [d.keys[n]] false).2 trivial
  (repeat' (first | with_reducible (first | refine agr_d (fun hc => ?_) fun hc => ?_ | refine agr_n (fun hc => ?_) fun hc => ?_ | refine acd_d (fun hc => ?_) fun hc => ?_ | refine acd_n (fun hc => ?_) fun hc => ?_ | refine dgr_d (fun hc => ?_) fun hc => ?_ | refine dgr_n (fun hc => ?_) fun hc => ?_ | refine dl_sound _ _ [] [] [] _ _ (fun _ h => absurd h List.not_mem_nil) ?_ | refine conEnd_p (.inl rfl) ?_ | refine conEnd_p (.inr rfl) ?_ | refine dc1_sc2 (sz := 1) (lk := 0) hpd ?_ ?_ hpk hcall (.bool _) ?_) | simp (disch := omega) only [go_sem, devT, devV, hg, List.size_toArray, Nat.reduceAdd, Nat.reduceSub, Nat.reduceMul, Nat.reduceLeDiff, Nat.reduceLT, Nat.reduceEqDiff, Int.reduceLT, Int.reduceLE, Int.reduceToNat, Int.reduceAdd, Int.reduceSub, Int.reduceMul, Int.reduceEq, Int.reduceNeg, reduceCtorEq, true_and, and_true, Int.toNat_natCast, List.getElem?_map, Option.map_some, List.length_map, List.length_take, List.length_drop, List.length_append, Nat.sub_zero, Int.toNat_zero, List.length_replicate, Bool.true_or, Bool.or_true, Bool.false_or, Bool.or_false, false_implies, implies_true]))
end Go.Proofs.Ytllijcnbjbfabaa

namespace Go.Proofs.Ytllijcnbjbfabaa
open Go.RowKit
set_option linter.unusedSimpArgs false
set_option linter.unusedVariables false

/-- a cache that may be, as far as one has looked -/
def cLook (n : Int) (l : List Pr) (j : Nat) (K : List Int) : Prop := cachedP n l j ∧ ∀ x, x ∈ K ↔ ∃ t, ∃ (h : t < l.length), t < j ∧ l[t].n = x
theorem cLook_zero (n : Int) (l : List Pr) : cLook n l 0 [] := ⟨fun t h h' => by omega, fun x => ⟨fun h => (by cases h), fun ⟨t, _, h, _⟩ => by omega⟩⟩
theorem mem_addK {l : List Int} {n x : Int} : x ∈ addK l n ↔ x ∈ l ∨ x = n := by
  unfold addK
  split
  · exact ⟨.inl, fun h => h.elim id fun e => by rw [e]; assumption⟩
  · simp
theorem cLook_succ {n : Int} {l : List Pr} {j : Nat} {K : List Int} (h : cLook n l j K) (hj : j < l.length) (h0 : 0 ≤ l[j].n) (h1 : l[j].n < n) (h2 : l[j].n ∉ K) (h3 : l[j].t.size ≤ 512) : cLook n l (j + 1) (addK K l[j].n) := by
  refine ⟨fun t ht htj => ?_, fun x => ?_⟩
  · rcases Nat.lt_or_ge t j with h4 | h4
    · exact h.1 t ht h4
    · obtain rfl : t = j := by omega
      exact ⟨⟨h0, h1, h3⟩, fun k hk hkt e => h2 ((h.2 _).2 ⟨k, hk, hkt, e⟩)⟩
  · rw [mem_addK, h.2]
    constructor
    · rintro (⟨t, ht, h4, h5⟩ | rfl)
      · exact ⟨t, ht, by omega, h5⟩
      · exact ⟨j, hj, by omega, rfl⟩
    · rintro ⟨t, ht, h4, h5⟩
      rcases Nat.lt_or_ge t j with h6 | h6
      · exact .inl ⟨t, ht, h6, h5⟩
      · obtain rfl : t = j := by omega
        exact .inr h5.symm
theorem cached_no {n : Int} {l : List Pr} {j : Nat} (hj : j < l.length) (h : l[j].n < 0 ∨ n ≤ l[j].n ∨ (∃ k, ∃ (hk : k < l.length), k < j ∧ l[k].n = l[j].n) ∨ 512 < l[j].t.size) : cachedB n [] l = false := by
  cases hb : cachedB n [] l with
  | false => rfl
  | true =>
    rw [cachedB_P] at hb
    obtain ⟨⟨h1, h2, h3⟩, h4⟩ := hb j hj hj
    rcases h with h | h | ⟨k, hk, hkj, h⟩ | h
    · omega
    · omega
    · exact absurd h (h4 k hk hkj)
    · omega
set_option maxRecDepth 100000 in
set_option maxHeartbeats 16000000 in
theorem wcache_con (d : Dev) (l : List Pr) (fl : Bool) (hl : l.length ≤ 1000000000) (hs : d.s.length ≤ 1000000000) : Con Try.prog 82 [devT d, .sl (l.map prV) fl] (· = .bool (cachedB d.s.length [] l)) := by
  refine con_of_awp Try.func82 rfl mixed (by decide) rfl (by kernel_rfl) rfl ?_
  (repeat' (first | with_reducible (first | refine agr_d (fun hc => ?_) fun hc => ?_ | refine agr_n (fun hc => ?_) fun hc => ?_ | refine acd_d (fun hc => ?_) fun hc => ?_ | refine acd_n (fun hc => ?_) fun hc => ?_ | refine dgr_d (fun hc => ?_) fun hc => ?_ | refine dgr_n (fun hc => ?_) fun hc => ?_ | refine dl_sound _ _ [] [] [] _ _ (fun _ h => absurd h List.not_mem_nil) ?_) | simp (disch := omega) only [go_sem, devT, Nat.reduceAdd, Nat.reduceSub, Nat.reduceMul, Nat.reduceLeDiff, Nat.reduceLT, Nat.reduceEqDiff, Int.reduceLT, Int.reduceLE, Int.reduceToNat, Int.reduceAdd, Int.reduceSub, Int.reduceMul, Int.reduceEq, Int.reduceNeg, reduceCtorEq, true_and, and_true, Int.toNat_natCast, List.getElem?_map, Option.map_some, List.length_map, List.length_take, List.length_drop, List.length_append, Nat.sub_zero, Int.toNat_zero, List.length_replicate, Bool.true_or, Bool.or_true, Bool.false_or, Bool.or_false, false_implies, implies_true]))
  refine awp_for l.length (fun j fr st => ∃ K m, ev fr (.tmp 0) = devT d ∧ ev fr (.tmp 5) = .mp m ∧ ev fr (.tmp 9) = .sl (l.map prV) fl ∧ ev fr (.tmp 10) = .int .i64 l.length ∧ ev fr (.tmp 11) = .int .i64 j ∧ st.get m = some ⟨bmR K, 2, 0⟩ ∧ m < st.c ∧ cLook d.s.length l j K) ?_ ?_
  · refine ⟨[], 0, ?_, ?_, ?_, ?_, ?_, ?_, ?_, cLook_zero _ _⟩ <;> simp (disch := omega) only [go_sem, Nat.reduceAdd, Nat.reduceSub, Nat.reduceMul, Nat.reduceLeDiff, Nat.reduceLT, Nat.reduceEqDiff, Int.reduceLT, Int.reduceLE, Int.reduceToNat, Int.reduceAdd, Int.reduceSub, Int.reduceMul, Int.reduceEq, Int.reduceNeg, reduceCtorEq, true_and, and_true, Int.toNat_natCast, List.getElem?_map, Option.map_some, List.length_map, List.length_take, List.length_drop, List.length_append, Nat.sub_zero, Int.toNat_zero, List.length_replicate, Bool.true_or, Bool.or_true, Bool.false_or, Bool.or_false, false_implies, implies_true] <;> rfl
  · rintro j fr st hj ⟨K, m, h0, h5, h9, h10, h11, hm, hmc, hK⟩
    by_cases hlt : j < l.length
    · have hgt : l[j]? = some l[j] := List.getElem?_eq_getElem hlt
      have hp : Plain (.sl [[.str l[j].t]] false) := (plain_tx [l[j].t] false).2 trivial
      have hcall : Con Try.prog 81 [.sl [[.str l[j].t]] false] (· = .bool (!decide ((512 : Int) < (l[j].t.size : Int)))) := by
        have := short_con [l[j].t] false (by simp)
        rw [show shortB [l[j].t] = !decide ((512 : Int) < (l[j].t.size : Int)) by simp [shortB]] at this
        exact this
      have hne : m ≠ st.c := by omega
      by_cases g1 : l[j].n < 0
      · (repeat' (first | with_reducible (first | refine agr_d (fun hc => ?_) fun hc => ?_ | refine agr_n (fun hc => ?_) fun hc => ?_ | refine acd_d (fun hc => ?_) fun hc => ?_ | refine acd_n (fun hc => ?_) fun hc => ?_ | refine dgr_d (fun hc => ?_) fun hc => ?_ | refine dgr_n (fun hc => ?_) fun hc => ?_ | refine dl_sound _ _ [] [] [] _ _ (fun _ h => absurd h List.not_mem_nil) ?_ | refine conEnd_p (.inl rfl) ?_ | refine conEnd_p (.inr rfl) ?_) | simp (disch := omega) only [go_sem, devT, h0, h5, h9, h10, h11, hgt, hm, Nat.reduceAdd, Nat.reduceSub, Nat.reduceMul, Nat.reduceLeDiff, Nat.reduceLT, Nat.reduceEqDiff, Int.reduceLT, Int.reduceLE, Int.reduceToNat, Int.reduceAdd, Int.reduceSub, Int.reduceMul, Int.reduceEq, Int.reduceNeg, reduceCtorEq, true_and, and_true, Int.toNat_natCast, List.getElem?_map, Option.map_some, List.length_map, List.length_take, List.length_drop, List.length_append, Nat.sub_zero, Int.toNat_zero, List.length_replicate, Bool.true_or, Bool.or_true, Bool.false_or, Bool.or_false, false_implies, implies_true]))
        rw [cached_no hlt (.inl g1)]
      by_cases g2 : (d.s.length : Int) ≤ l[j].n
      · (repeat' (first | with_reducible (first | refine agr_d (fun hc => ?_) fun hc => ?_ | refine agr_n (fun hc => ?_) fun hc => ?_ | refine acd_d (fun hc => ?_) fun hc => ?_ | refine acd_n (fun hc => ?_) fun hc => ?_ | refine dgr_d (fun hc => ?_) fun hc => ?_ | refine dgr_n (fun hc => ?_) fun hc => ?_ | refine dl_sound _ _ [] [] [] _ _ (fun _ h => absurd h List.not_mem_nil) ?_ | refine conEnd_p (.inl rfl) ?_ | refine conEnd_p (.inr rfl) ?_) | simp (disch := omega) only [go_sem, devT, h0, h5, h9, h10, h11, hgt, hm, Nat.reduceAdd, Nat.reduceSub, Nat.reduceMul, Nat.reduceLeDiff, Nat.reduceLT, Nat.reduceEqDiff, Int.reduceLT, Int.reduceLE, Int.reduceToNat, Int.reduceAdd, Int.reduceSub, Int.reduceMul, Int.reduceEq, Int.reduceNeg, reduceCtorEq, true_and, and_true, Int.toNat_natCast, List.getElem?_map, Option.map_some, List.length_map, List.length_take, List.length_drop, List.length_append, Nat.sub_zero, Int.toNat_zero, List.length_replicate, Bool.true_or, Bool.or_true, Bool.false_or, Bool.or_false, false_implies, implies_true]))
        rw [cached_no hlt (.inr (.inl g2))]
      by_cases g3 : l[j].n ∈ K
      · (repeat' (first | with_reducible (first | refine agr_d (fun hc => ?_) fun hc => ?_ | refine agr_n (fun hc => ?_) fun hc => ?_ | refine acd_d (fun hc => ?_) fun hc => ?_ | refine acd_n (fun hc => ?_) fun hc => ?_ | refine dgr_d (fun hc => ?_) fun hc => ?_ | refine dgr_n (fun hc => ?_) fun hc => ?_ | refine dl_sound _ _ [] [] [] _ _ (fun _ h => absurd h List.not_mem_nil) ?_ | refine conEnd_p (.inl rfl) ?_ | refine conEnd_p (.inr rfl) ?_) | simp (disch := omega) only [go_sem, devT, h0, h5, h9, h10, h11, hgt, hm, g3, Nat.reduceAdd, Nat.reduceSub, Nat.reduceMul, Nat.reduceLeDiff, Nat.reduceLT, Nat.reduceEqDiff, Int.reduceLT, Int.reduceLE, Int.reduceToNat, Int.reduceAdd, Int.reduceSub, Int.reduceMul, Int.reduceEq, Int.reduceNeg, reduceCtorEq, true_and, and_true, Int.toNat_natCast, List.getElem?_map, Option.map_some, List.length_map, List.length_take, List.length_drop, List.length_append, Nat.sub_zero, Int.toNat_zero, List.length_replicate, Bool.true_or, Bool.or_true, Bool.false_or, Bool.or_false, false_implies, implies_true]))
        rw [cached_no hlt (.inr (.inr (.inl ((hK.2 _).1 g3))))]
      by_cases g4 : (512 : Int) < (l[j].t.size : Int)
      · (repeat' (first | with_reducible (first | refine agr_d (fun hc => ?_) fun hc => ?_ | refine agr_n (fun hc => ?_) fun hc => ?_ | refine acd_d (fun hc => ?_) fun hc => ?_ | refine acd_n (fun hc => ?_) fun hc => ?_ | refine dgr_d (fun hc => ?_) fun hc => ?_ | refine dgr_n (fun hc => ?_) fun hc => ?_ | refine dl_sound _ _ [] [] [] _ _ (fun _ h => absurd h List.not_mem_nil) ?_ | refine conEnd_p (.inl rfl) ?_ | refine conEnd_p (.inr rfl) ?_ | refine dc1_sc1 (sz := 1) (lk := 0) ?_ ?_ hp hcall (.bool _) ?_) | simp (disch := omega) only [go_sem, devT, h0, h5, h9, h10, h11, hgt, hm, g3, g4, Nat.reduceAdd, Nat.reduceSub, Nat.reduceMul, Nat.reduceLeDiff, Nat.reduceLT, Nat.reduceEqDiff, Int.reduceLT, Int.reduceLE, Int.reduceToNat, Int.reduceAdd, Int.reduceSub, Int.reduceMul, Int.reduceEq, Int.reduceNeg, reduceCtorEq, true_and, and_true, Int.toNat_natCast, List.getElem?_map, Option.map_some, List.length_map, List.length_take, List.length_drop, List.length_append, Nat.sub_zero, Int.toNat_zero, List.length_replicate, Bool.true_or, Bool.or_true, Bool.false_or, Bool.or_false, false_implies, implies_true]))
        rw [cached_no hlt (.inr (.inr (.inr (by omega))))]
      · (repeat' (first | with_reducible (first | refine agr_d (fun hc => ?_) fun hc => ?_ | refine agr_n (fun hc => ?_) fun hc => ?_ | refine acd_d (fun hc => ?_) fun hc => ?_ | refine acd_n (fun hc => ?_) fun hc => ?_ | refine dgr_d (fun hc => ?_) fun hc => ?_ | refine dgr_n (fun hc => ?_) fun hc => ?_ | refine dl_sound _ _ [] [] [] _ _ (fun _ h => absurd h List.not_mem_nil) ?_ | refine conEnd_p (.inl rfl) ?_ | refine conEnd_p (.inr rfl) ?_ | refine dc1_sc1 (sz := 1) (lk := 0) ?_ ?_ hp hcall (.bool _) ?_) | simp (disch := omega) only [go_sem, devT, h0, h5, h9, h10, h11, hgt, hm, g3, g4, Nat.reduceAdd, Nat.reduceSub, Nat.reduceMul, Nat.reduceLeDiff, Nat.reduceLT, Nat.reduceEqDiff, Int.reduceLT, Int.reduceLE, Int.reduceToNat, Int.reduceAdd, Int.reduceSub, Int.reduceMul, Int.reduceEq, Int.reduceNeg, reduceCtorEq, true_and, and_true, Int.toNat_natCast, List.getElem?_map, Option.map_some, List.length_map, List.length_take, List.length_drop, List.length_append, Nat.sub_zero, Int.toNat_zero, List.length_replicate, Bool.true_or, Bool.or_true, Bool.false_or, Bool.or_false, false_implies, implies_true]))
        refine ⟨j + 1, by omega, by omega, addK K l[j].n, m, ?_⟩
        have hfin := cLook_succ hK hlt (by omega) (by omega) g3 (by omega)
        with_reducible (repeat' apply And.intro)
        all_goals first | exact hfin | rfl | exact if_pos rfl | omega
    · (repeat' (first | with_reducible (first | refine agr_d (fun hc => ?_) fun hc => ?_ | refine agr_n (fun hc => ?_) fun hc => ?_ | refine acd_d (fun hc => ?_) fun hc => ?_ | refine acd_n (fun hc => ?_) fun hc => ?_ | refine dgr_d (fun hc => ?_) fun hc => ?_ | refine dgr_n (fun hc => ?_) fun hc => ?_ | refine dl_sound _ _ [] [] [] _ _ (fun _ h => absurd h List.not_mem_nil) ?_ | refine conEnd_p (.inl rfl) ?_ | refine conEnd_p (.inr rfl) ?_) | simp (disch := omega) only [go_sem, devT, h0, h5, h9, h10, h11, Nat.reduceAdd, Nat.reduceSub, Nat.reduceMul, Nat.reduceLeDiff, Nat.reduceLT, Nat.reduceEqDiff, Int.reduceLT, Int.reduceLE, Int.reduceToNat, Int.reduceAdd, Int.reduceSub, Int.reduceMul, Int.reduceEq, Int.reduceNeg, reduceCtorEq, true_and, and_true, Int.toNat_natCast, List.getElem?_map, Option.map_some, List.length_map, List.length_take, List.length_drop, List.length_append, Nat.sub_zero, Int.toNat_zero, List.length_replicate, Bool.true_or, Bool.or_true, Bool.false_or, Bool.or_false, false_implies, implies_true]))
      rw [(cachedB_P d.s.length l).2 fun t h h' => hK.1 t h (by omega)]
end Go.Proofs.Ytllijcnbjbfabaa

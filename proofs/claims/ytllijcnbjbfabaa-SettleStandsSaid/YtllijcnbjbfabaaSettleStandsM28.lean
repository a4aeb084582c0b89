/- Plain words of layer 6, as values. -/
import Derived.Test.YtllijcnbjbfabaaSettleStandsM01
import Derived.Test.YtllijcnbjbfabaaSettleStandsM27
import Derived.Test.YtllijcnbjbfabaaSettleStandsM02
import Derived.Test.YtllijcnbjbfabaaSettleStandsM03
namespace Go.Proofs.Ytllijcnbjbfabaa
open Go.RowKit

def prV (x : Pr) : List V := [.int .i64 x.n, .str x.t]
def txV (s : ByteArray) : List V := [.str s]
def inV (n : Int) : List V := [.int .i64 n]
/-- a device as a value -/
abbrev ccV (c : List Pr) : List V := [.sl (c.map prV) false]
abbrev devV (d : Dev) : V := .agg [.sl (d.s.map txV) false, .sl (d.cache.map ccV) false, .sl (d.keys.map inV) false, .int .i64 d.next, .sl (d.fen.map inV) false]
theorem plain_pr (l : List Pr) (b : Bool) : Plain (.sl (l.map prV) b) ↔ True := ⟨fun _ => trivial, fun _ => .sl _ _ fun r hr x hx => by
  obtain ⟨p, _, rfl⟩ := List.mem_map.1 hr
  rcases List.mem_cons.1 hx with rfl | hx
  · exact .int _ _
  · rcases List.mem_cons.1 hx with rfl | hx
    · exact .str _
    · cases hx⟩
theorem plain_tx (l : List ByteArray) (b : Bool) : Plain (.sl (l.map txV) b) ↔ True := ⟨fun _ => trivial, fun _ => .sl _ _ fun r hr x hx => by
  obtain ⟨p, _, rfl⟩ := List.mem_map.1 hr
  rcases List.mem_cons.1 hx with rfl | hx
  · exact .str _
  · cases hx⟩
theorem plain_in (l : List Int) (b : Bool) : Plain (.sl (l.map inV) b) ↔ True := ⟨fun _ => trivial, fun _ => .sl _ _ fun r hr x hx => by
  obtain ⟨p, _, rfl⟩ := List.mem_map.1 hr
  rcases List.mem_cons.1 hx with rfl | hx
  · exact .int _ _
  · cases hx⟩
theorem plain_cc (l : List (List Pr)) (b : Bool) : Plain (.sl (l.map ccV) b) ↔ True := ⟨fun _ => trivial, fun _ => .sl _ _ fun r hr x hx => by
  obtain ⟨p, _, rfl⟩ := List.mem_map.1 hr
  rcases List.mem_cons.1 hx with rfl | hx
  · exact (plain_pr _ _).2 trivial
  · cases hx⟩
theorem plain_dev (d : Dev) : Plain (devV d) ↔ True := ⟨fun _ => trivial, fun _ => by
  unfold devV
  rw [plain_agg]
  intro x hx
  simp only [List.mem_cons, List.not_mem_nil, or_false] at hx
  rcases hx with rfl | rfl | rfl | rfl | rfl
  · exact (plain_tx _ _).2 trivial
  · exact (plain_cc _ _).2 trivial
  · exact (plain_in _ _).2 trivial
  · exact .int _ _
  · exact (plain_in _ _).2 trivial⟩
/-- a device that is not too great -/
structure DevOk (d : Dev) : Prop where
  s : d.s.length ≤ 1000000
  c : d.cache.length ≤ 1000000
  ci : ∀ i (h : i < d.cache.length), d.cache[i].length ≤ 1000000
  k : d.keys.length ≤ 1000000
  ki : ∀ i (h : i < d.keys.length), -4611686018427387904 ≤ d.keys[i] ∧ d.keys[i] ≤ 4611686018427387904
  n : -4611686018427387904 ≤ d.next ∧ d.next ≤ 4611686018427387904
  f : d.fen.length ≤ 1000000
  fi : ∀ i (h : i < d.fen.length), -4611686018427387904 ≤ d.fen[i] ∧ d.fen[i] ≤ 4611686018427387904
  si : ∀ i (h : i < d.s.length), d.s[i].size ≤ 1000000000
attribute [go_sem] prV txV inV plain_pr plain_tx plain_in plain_cc plain_dev
end Go.Proofs.Ytllijcnbjbfabaa

namespace Go.Proofs.Ytllijcnbjbfabaa
open Go.RowKit
set_option linter.unusedSimpArgs false
set_option linter.unusedVariables false
attribute [go_sem] Option.isNone_some Option.isNone_none Option.isSome_some Option.isSome_none
@[go_sem] theorem nif_pos {α : Type} {a b : Nat} {x y : α} (h : a = b) : (if a = b then x else y) = x := if_pos h
@[go_sem] theorem nif_neg {α : Type} {a b : Nat} {x y : α} (h : ¬ a = b) : (if a = b then x else y) = y := if_neg h
@[go_sem] theorem St.del_c {s : St} {b : Nat} : (s.del b).c = s.c := rfl
@[go_sem] theorem St.set_c {s : St} {b : Nat} {k : Blk'} : (s.set b k).c = s.c := rfl
@[go_sem] theorem St.new_c {s : St} {k : Blk'} : (s.new k).c = s.c + 1 := rfl
theorem bs_eq {b n m : Nat} (h : n = m) : V.bs b 0 n n = V.bs b 0 m m := by rw [h]
@[go_sem] theorem take_map_ {α β : Type} (f : α → β) (l : List α) (k : Nat) : (l.map f).take k = (l.take k).map f := (List.map_take).symm
@[go_sem] theorem drop_map_ {α β : Type} (f : α → β) (l : List α) (k : Nat) : (l.map f).drop k = (l.drop k).map f := (List.map_drop).symm
@[go_sem] theorem app_map_ {α β : Type} (f : α → β) (l m : List α) : l.map f ++ m.map f = (l ++ m).map f := (List.map_append).symm
@[go_sem] theorem all_pr (l : List Pr) : ((l.map prV).all fun r => decide (r.length = 2)) = true := by simp [prV, txV, inV, ccV]
@[go_sem] theorem all_tx (l : List ByteArray) : ((l.map txV).all fun r => decide (r.length = 1)) = true := by simp [prV, txV, inV, ccV]
@[go_sem] theorem all_in (l : List Int) : ((l.map inV).all fun r => decide (r.length = 1)) = true := by simp [prV, txV, inV, ccV]
@[go_sem] theorem all_cc (l : List (List Pr)) : ((l.map ccV).all fun r => decide (r.length = 1)) = true := by simp [prV, txV, inV, ccV]
@[go_sem] theorem all_n {n : Nat} : (([] : List (List V)).all fun r => decide (r.length = n)) = true := rfl
@[go_sem] theorem all_c {n : Nat} {r : List V} {l : List (List V)} : ((r :: l).all fun r => decide (r.length = n)) = (decide (r.length = n) && l.all fun r => decide (r.length = n)) := rfl
theorem Fz.row {st : St} {f : Nat → Nat} {b i n cap : Nat} {k : Blk'} (hk : st.get b = some k) (hle : i + n ≤ k.es.length) (hf : i + n ≤ f b) (hp : ∀ r ∈ k.es, ∀ x ∈ r, Plain x) : Fz st f (.bs b i n cap) (.sl ((k.es.drop i).take n) false) :=
  .bs b i n cap k _ hk hle hf (by simp; omega) (fun a ha ha' => by simp) (fun a ha ha' c hc hc' => by
    have e : ((k.es.drop i).take n)[a][c] = k.es[i + a][c] := by simp
    rw [e]
    exact .plain _ (hp _ (List.getElem_mem ha) _ (List.getElem_mem hc)))
theorem Fz.rows {st : St} {f : Nat → Nat} {b cap : Nat} {es : List (List V)} {sz lk : Nat} (hk : st.get b = some ⟨es, sz, lk⟩) (hf : es.length ≤ f b) (hp : Plain (.sl es false)) : Fz st f (.bs b 0 es.length cap) (.sl es false) := by
  have := Fz.row (f := f) (i := 0) (n := es.length) (cap := cap) hk (by simp) (by simpa using hf) (by cases hp with | sl _ _ h => exact h)
  simpa using this
end Go.Proofs.Ytllijcnbjbfabaa

namespace Go.Proofs.Ytllijcnbjbfabaa
open Go.RowKit
set_option linter.unusedSimpArgs false
set_option linter.unusedVariables false

theorem add_none (g o n : Nat) : (⟨g, o, none⟩ : Addr).add n = ⟨g, o + n, none⟩ := by
  unfold Addr.add
  split
  · rename_i h; subst h; rfl
  · rfl
theorem add_off (a : Addr) (n : Nat) (h : 0 < n) : a.add n = ⟨a.block, a.off + n, none⟩ := by
  unfold Addr.add
  rw [if_neg (by omega)]
section
variable {mu : Mu} {S : Stab} {w : World} {v : Value}
theorem vr_int {k : IntKind} {n : Int} (h : VR mu S w (.int k n) v) : v = .int k n := VR.int_inv h
theorem vrs_nil {cs : List Value} (h : VRs mu S w [] cs) : cs = [] := by
  have := h.1
  cases cs with
  | nil => rfl
  | cons a l => simp at this
theorem vrs_cons {x : V} {xs : List V} {cs : List Value} (h : VRs mu S w (x :: xs) cs) : ∃ u us, cs = u :: us ∧ VR mu S w x u ∧ VRs mu S w xs us := by
  obtain ⟨h1, h2⟩ := h
  cases cs with
  | nil => simp at h1
  | cons a l => exact ⟨a, l, rfl, h2 0 (by simp) (by simp), by simpa using h1, fun j hj hj' => h2 (j + 1) (by simpa using hj) (by simpa using hj')⟩
theorem vr_row {es : List (List V)} {fl : Bool} {sz : Nat} (hb : ∀ g i, S g i → g < w.heap.size) (h : VR mu S w (.sl es fl) v) (hsz : ∀ r ∈ es, r.length = sz) (h0 : 0 < sz) :
    ∃ A c, v = .slice A es.length c ∧ (0 < es.length → ∃ ad, A = some ad ∧ ad.block < w.heap.size ∧ ∀ i (hi : i < es.length) j (hj : j < es[i].length), ∃ u, w.cell? (ad.add (i * sz + j)) = some u ∧ VR mu S w es[i][j] u) := by
  generalize hx : V.sl es fl = x at h
  cases h with
  | sl0 full A c hf => cases hx; exact ⟨A, c, rfl, fun h => absurd h (by simp)⟩
  | sl1 es' full g o c sz' vals hne hc hf hlen hS hcell hone hv =>
    cases hx
    have hs : sz = sz' := by rw [← hsz _ (List.getElem_mem hne), hlen 0 hne]
    subst hs
    refine ⟨_, _, rfl, fun _ => ⟨_, rfl, hb g _ (hS 0 0 hne h0), fun i hi j hj => ⟨vals i j, ?_, hv i hi j hj⟩⟩⟩
    rw [add_none, ← Nat.add_assoc]
    exact hcell i j hi (by rw [← hlen i hi]; exact hj)
  | _ => cases hx
theorem vr_pr {l : List Pr} {fl : Bool} (hb : ∀ g i, S g i → g < w.heap.size) (h : VR mu S w (.sl (l.map prV) fl) v) : ∃ A c, v = .slice A l.length c ∧ Reads w w.heap.size 2 A l.length (prCells l) := by
  obtain ⟨A, c, hv, hr⟩ := vr_row (sz := 2) hb h (fun r hr => by obtain ⟨p, _, rfl⟩ := List.mem_map.1 hr; rfl) (by omega)
  replace hv : v = .slice A l.length c := by rw [hv, List.length_map]
  refine ⟨A, c, hv, prCells_length l, fun hn => ?_⟩
  obtain ⟨ad, hA, hlt, hc⟩ := hr (by simpa using hn)
  refine ⟨ad, hA, hlt, fun j u hu => ?_⟩
  have hj : j < l.length * 2 := by
    rcases Nat.lt_or_ge j (l.length * 2) with h | h
    · exact h
    · rw [List.getElem?_eq_none (by rw [prCells_length]; exact h)] at hu; cases hu
  have hi : j / 2 < l.length := by omega
  obtain ⟨g0, g1⟩ := prCells_get l (j / 2) hi
  have hm : j % 2 = 0 ∨ j % 2 = 1 := by omega
  rcases hm with hm | hm
  · rw [show j = j / 2 * 2 by omega, g0] at hu
    injection hu with hu
    subst hu
    obtain ⟨u, h1, h2⟩ := hc (j / 2) (by simpa using hi) 0 (by simp [prV])
    rw [show ad.add j = ad.add (j / 2 * 2 + 0) from congrArg _ (by omega), h1]
    simp only [List.getElem_map] at h2
    rw [VR.int_inv h2]
  · rw [show j = j / 2 * 2 + 1 by omega, g1] at hu
    injection hu with hu
    subst hu
    obtain ⟨u, h1, h2⟩ := hc (j / 2) (by simpa using hi) 1 (by simp [prV])
    rw [show ad.add j = ad.add (j / 2 * 2 + 1) from congrArg _ (by omega), h1]
    simp only [List.getElem_map] at h2
    rw [VR.str_inv h2]
theorem vr_in {l : List Int} {fl : Bool} (hb : ∀ g i, S g i → g < w.heap.size) (h : VR mu S w (.sl (l.map inV) fl) v) : ∃ A c, v = .slice A l.length c ∧ Reads w w.heap.size 1 A l.length (icells l) := by
  obtain ⟨A, c, hv, hr⟩ := vr_row (sz := 1) hb h (fun r hr => by obtain ⟨p, _, rfl⟩ := List.mem_map.1 hr; rfl) (by omega)
  replace hv : v = .slice A l.length c := by rw [hv, List.length_map]
  refine ⟨A, c, hv, by simp [icells], fun hn => ?_⟩
  obtain ⟨ad, hA, hlt, hc⟩ := hr (by simpa using hn)
  refine ⟨ad, hA, hlt, fun j u hu => ?_⟩
  have hj : j < l.length := by
    rcases Nat.lt_or_ge j l.length with h | h
    · exact h
    · rw [List.getElem?_eq_none (by simpa [icells] using h)] at hu; cases hu
  have hu' : u = .int .i64 l[j] := by
    simp [icells, hj] at hu
    exact hu.symm
  subst hu'
  obtain ⟨u, h1, h2⟩ := hc j (by simpa using hj) 0 (by simp [inV])
  rw [show ad.add j = ad.add (j * 1 + 0) from congrArg _ (by omega), h1]
  simp only [List.getElem_map] at h2
  rw [VR.int_inv h2]
theorem vr_geo {g : Geo} (h : VR mu S w (.agg [.int .i64 g.nodes, .int .i64 g.slots, .int .i64 g.blocks, .int .i64 g.per, .int .i64 g.journal, .int .i64 g.log, .int .i64 g.lease, .int .i64 g.wait]) v) : v = g.v := by
  obtain ⟨vs, rfl, h1, _⟩ := VR.agg_inv h
  obtain ⟨u, us, rfl, e1, h1⟩ := vrs_cons h1
  obtain ⟨u2, us, rfl, e2, h1⟩ := vrs_cons h1
  obtain ⟨u3, us, rfl, e3, h1⟩ := vrs_cons h1
  obtain ⟨u4, us, rfl, e4, h1⟩ := vrs_cons h1
  obtain ⟨u5, us, rfl, e5, h1⟩ := vrs_cons h1
  obtain ⟨u6, us, rfl, e6, h1⟩ := vrs_cons h1
  obtain ⟨u7, us, rfl, e7, h1⟩ := vrs_cons h1
  obtain ⟨u8, us, rfl, e8, h1⟩ := vrs_cons h1
  rw [vrs_nil h1, vr_int e1, vr_int e2, vr_int e3, vr_int e4, vr_int e5, vr_int e6, vr_int e7, vr_int e8]
/-- a row of the callee's own, as a value -/
theorem vr_own {base : Nat} {e : TypeId} {size n : Nat} {xs : List Value} (h : w.ownsRow base e size v n xs) (es : List (List V)) (hn : es.length = n) (hrow : ∀ r ∈ es, r.length = size)
    (hx : ∀ i (hi : i < es.length) j (hj : j < es[i].length), ∃ u, xs[i * size + j]? = some u ∧ u.oneCell' = true ∧ VR mu S w es[i][j] u) (hS : ∀ g i, base ≤ g → g < w.heap.size → S g i) : VR mu S w (.sl es false) v := by
  obtain ⟨hlen, h⟩ := h
  rcases h with ⟨rfl, h0⟩ | ⟨g, cap, cur, rfl, hb, hh, hnc, hcap, hsz, htk⟩
  · have : es = [] := List.length_eq_zero_iff.1 (by omega)
    subst this
    exact .sl0 false none 0 (by simp)
  · have hg : g < w.heap.size := by
      rcases Nat.lt_or_ge g w.heap.size with h | h
      · exact h
      · rw [Array.getElem?_eq_none h] at hh; cases hh
    subst hn
    rcases Nat.eq_zero_or_pos es.length with h0 | h0
    · have : es = [] := List.length_eq_zero_iff.1 h0
      subst this
      exact .sl0 false _ _ (by simp)
    · have hin : ∀ i j, i < es.length → j < size → i * size + j < es.length * size := fun i j hi hj => by
        have : (i + 1) * size ≤ es.length * size := Nat.mul_le_mul_right _ hi
        rw [Nat.add_mul] at this
        omega
      have hcell : ∀ k, w.cell? ⟨g, k, none⟩ = cur[k]? := fun k => by
        unfold World.cell?
        simp [hh]
      refine .sl1 es false g 0 cap size (fun i j => (xs[i * size + j]?).getD Go.undef) h0 hnc (by simp) (fun i hi => hrow _ (List.getElem_mem hi)) (fun i j _ _ => hS g _ hb hg) (fun i j hi hj => ?_) (fun i j hi hj => ?_) (fun i hi j hj => ?_)
      · obtain ⟨u, h1, h2, h3⟩ := hx i hi j (by rw [hrow _ (List.getElem_mem hi)]; exact hj)
        rw [hcell, Nat.zero_add, h1]
        rw [← htk, List.getElem?_take, if_pos (hin i j hi hj)] at h1
        rw [Array.getElem?_toList] at h1
        exact h1
      · obtain ⟨u, h1, h2, h3⟩ := hx i hi j (by rw [hrow _ (List.getElem_mem hi)]; exact hj)
        rw [h1]; exact h2
      · obtain ⟨u, h1, h2, h3⟩ := hx i hi j hj
        rw [h1]; exact h3
end
/-- a contract out of a walk by the kit -/
theorem con_of_calls {P : Program} {g : FuncId} {args : List V} {r : V} {fn : Func} (hf : P.funcs[g]? = some fn) (hn : (fn.name == "runtime.NumGoroutine") = false) (hb : fn.body.isNone = false) (hp : Plain r)
    (h : ∀ (w : World) (S : Stab) (vargs : List Value), (∀ g i, S g i → g < w.heap.size) → VRs noMu S w args vargs → Calls P g vargs.toArray w fun e w' => ∃ v, e = .returned v ∧ VR noMu (fun g i => S g i ∨ (w.heap.size ≤ g ∧ g < w'.heap.size)) w' r v ∧ Below w.heap.size w w') : Con P g args (· = r) := by
  refine ⟨⟨fn, hf, hn, hb⟩, fun w S vargs hS hv => (h w S vargs hS hv).mono ?_⟩
  rintro e w' ⟨v, rfl, hr, hB⟩
  exact ⟨v, r, _, rfl, rfl, hp, hr, fun _ _ h => .inl h, fun _ _ h => h.imp id fun h => h.1, fun g i h => h.elim (fun h => Nat.lt_of_lt_of_le (hS g i h) hB.size) fun h => h.2, hB⟩
section
variable {P : Program} {ops : Array Oper} {h : FuncId} {d : Option Tmp} {l : List Oper} {fr : Fr} {st : St} {args : List V}
theorem ac1_post {K : Fr → St → Prop} {post : V → Prop} (hc : Con P h args post) (hp : ∀ x ∈ args, Plain x) (hk : ∀ r, post r → aops P ops l (fr.put d r) st K) : ac1 P ops h args d l fr st K := acall_post hc hp hk
end
end Go.Proofs.Ytllijcnbjbfabaa

namespace Go.Proofs.Ytllijcnbjbfabaa
open Go.RowKit
set_option linter.unusedSimpArgs false
set_option linter.unusedVariables false

/-- so many rounds of a loop, at most -/
def loopN (P : Program) (c : Code) (Q : AEx → Fr → St → Prop) : Nat → Fr → St → Prop
  | 0, _, _ => False
  | n + 1, fr, st => awp P c (AEx.then (loopN P c Q n) Q) fr st
@[go_sem] theorem loopN_s {P : Program} {c : Code} {Q : AEx → Fr → St → Prop} {n : Nat} {fr : Fr} {st : St} : loopN P c Q (n + 1) fr st = awp P c (AEx.then (loopN P c Q n) Q) fr st := nrfl rfl
theorem awp_unroll {P : Program} {c : Code} {Q : AEx → Fr → St → Prop} {fr : Fr} {st : St} (n : Nat) (h : loopN P c Q n fr st) : awp P (.loop c) Q fr st := by
  refine awp_for n (fun j fr st => loopN P c Q (n - j) fr st) h fun j fr st hj hI => ?_
  obtain ⟨m, hm⟩ : ∃ m, n - j = m := ⟨_, rfl⟩
  rw [hm] at hI
  cases m with
  | zero => exact hI.elim
  | succ m =>
    refine awp_mono c _ _ fr st (fun e fr' st' h => ?_) hI
    cases e with
    | normal => exact ⟨j + 1, by omega, by omega, by rw [show n - (j + 1) = m by omega]; exact h⟩
    | exit i => exact h
    | ret => exact h
theorem fconEnd_v {P : Program} {l : List ResultVar} {r : V} {fr : Fr} {st : St} {e : AEx} (he : e = .ret ∨ e = .normal) (h : bindV (rvv P fr st l) fun r0 => ∃ f, FzO st f r0 r) : fconEnd P l r e fr st := by
  obtain ⟨r0, h1, f, h2⟩ := bindV_some h
  rw [rvv_eq] at h1
  rcases he with rfl | rfl <;> exact ⟨r0, f, h1, h2⟩
theorem FzO.rows {st : St} {f : Nat → Nat} {b cap : Nat} {es : List (List V)} {sz lk : Nat} (hk : st.get b = some ⟨es, sz, lk⟩) (hf : es.length ≤ f b) (hp : ∀ r ∈ es, ∀ x ∈ r, Sc x) : FzO st f (.bs b 0 es.length cap) (.sl es false) :=
  .bs b 0 es.length cap _ es hk (by simp) (by simpa using hf) rfl (fun a ha ha' => by simp) (fun a ha ha' c hc hc' => by
    have e : es[0 + a]'(by simpa using ha) = es[a] := by congr 1; omega
    simp only [e]
    exact .sc _ (hp _ (List.getElem_mem ha') _ (List.getElem_mem _)))
theorem sc_pr (l : List Pr) : ∀ r ∈ l.map prV, ∀ x ∈ r, Sc x := fun r hr x hx => by
  obtain ⟨p, _, rfl⟩ := List.mem_map.1 hr
  simp only [prV, List.mem_cons, List.not_mem_nil, or_false] at hx
  rcases hx with rfl | rfl
  · exact .int _ _
  · exact .str _
theorem sc_in (l : List Int) : ∀ r ∈ l.map inV, ∀ x ∈ r, Sc x := fun r hr x hx => by
  obtain ⟨p, _, rfl⟩ := List.mem_map.1 hr
  simp only [inV, List.mem_cons, List.not_mem_nil, or_false] at hx
  rcases hx with rfl
  exact .int _ _
theorem fzo_end {st : St} {b n cap sz lk : Nat} {es : List (List V)} {X : V} (hk : st.get b = some ⟨es, sz, lk⟩) (hn : n = es.length) (hp : ∀ r ∈ es, ∀ x ∈ r, Sc x) (hX : V.sl es false = X) : ∃ f, FzO st f (.bs b 0 n cap) X := by
  subst hn
  subst hX
  exact ⟨fun _ => es.length, FzO.rows hk (Nat.le_refl _) hp⟩
theorem wrap8 {n : Int} (h1 : 0 ≤ n) (h2 : n < 256) : IntKind.u8.wrap n = n := by
  unfold IntKind.wrap
  simp [IntKind.bits, IntKind.signed]
  omega
section
variable {st : St} {f : Nat → Nat} {a b c d e a' b' c' d' e' : V}
theorem fz_tup2 (h1 : Fz st f a a') (h2 : Fz st f b b') : Fz st f (.tup [a, b]) (.tup [a', b']) := .tup _ _ rfl fun j hj hj' => by
  match j, hj with
  | 0, _ => exact h1
  | 1, _ => exact h2
theorem fz_tup3 (h1 : Fz st f a a') (h2 : Fz st f b b') (h3 : Fz st f c c') : Fz st f (.tup [a, b, c]) (.tup [a', b', c']) := .tup _ _ rfl fun j hj hj' => by
  match j, hj with
  | 0, _ => exact h1
  | 1, _ => exact h2
  | 2, _ => exact h3
theorem fz_agg5 (h1 : Fz st f a a') (h2 : Fz st f b b') (h3 : Fz st f c c') (h4 : Fz st f d d') (h5 : Fz st f e e') : Fz st f (.agg [a, b, c, d, e]) (.agg [a', b', c', d', e']) := .agg _ _ rfl fun j hj hj' => by
  match j, hj with
  | 0, _ => exact h1
  | 1, _ => exact h2
  | 2, _ => exact h3
  | 3, _ => exact h4
  | 4, _ => exact h5
theorem fzs_one (h1 : Fz st f a a') : Fzs st f [a] [a'] := ⟨rfl, fun j hj hj' => by
  match j, hj with
  | 0, _ => exact h1⟩
theorem fzs_two (h1 : Fz st f a a') (h2 : Fz st f b b') : Fzs st f [a, b] [a', b'] := ⟨rfl, fun j hj hj' => by
  match j, hj with
  | 0, _ => exact h1
  | 1, _ => exact h2⟩
theorem fzs_three (h1 : Fz st f a a') (h2 : Fz st f b b') (h3 : Fz st f c c') : Fzs st f [a, b, c] [a', b', c'] := ⟨rfl, fun j hj hj' => by
  match j, hj with
  | 0, _ => exact h1
  | 1, _ => exact h2
  | 2, _ => exact h3⟩
end
section
variable {P : Program} {ops : Array Oper} {n0 k : Nat} {h : FuncId} {d : Option Tmp} {op : Oper} {l : List Oper} {rd wr : Acc} {fr : Fr} {st : St} {g : Gs} {r x y : V} {b n cap sz lk : Nat} {es : List (List V)}
theorem fz_in (hg : g b = some ⟨es, sz, lk⟩) (hn : n = es.length) (hp : Plain (.sl es false)) : Fz ⟨resT (memL [n0, b]) g, n0⟩ (fun _ => es.length) (.bs b 0 n cap) (.sl es false) := by
  subst hn
  refine Fz.rows (sz := sz) (lk := lk) ?_ (Nat.le_refl _) hp
  show cond (memL [n0, b] b) (g b) none = _
  rw [memL_iff.2 (by simp)]
  exact hg
/-- a call of a value and a row of the store, whose value is plain -/
theorem dc1_sc2 {K : Fr → Gs → Prop} (hx : Plain x) (hg : g b = some ⟨es, sz, lk⟩) (hn : n = es.length) (hp : Plain (.sl es false)) (hc : Con P h [x, .sl es false] (· = r)) (hs : Sc r)
    (hk : okAcc op wr [n0 + k, b] [] = true ∧ dl P ops n0 K l (k + 1) ((k, [n0 + k, b], []) :: rd) wr (fr.put d r) g) : dc1 P ops n0 K h [x, .bs b 0 n cap] d op l k rd wr fr g :=
  dc1_sc (fun _ => es.length) [b] (fzs_two (.plain _ hx) (fz_in hg hn hp)) hc hs hk
theorem dc1_fr1 {K : Fr → Gs → Prop} (hx : Plain y) (hg : g b = some ⟨es, sz, lk⟩) (hn : n = es.length) (hp : Plain (.sl es false)) (hc : FCon P h [.sl es false, y] r)
    (hk : okAcc op wr [n0 + k, b] [] = true ∧ dl P ops n0 K l (k + 1) ((k, [n0 + k, b], []) :: rd) wr (fr.put d r) g) : dc1 P ops n0 K h [.bs b 0 n cap, y] d op l k rd wr fr g :=
  dc1_fr (fun _ => es.length) [b] (fzs_two (fz_in hg hn hp) (.plain _ hx)) hc hk
theorem ac1_sc1 {K : Fr → St → Prop} (hx : Plain y) (hg : st.get b = some ⟨es, sz, lk⟩) (hn : n = es.length) (hp : Plain (.sl es false)) (hc : Con P h [.sl es false, y] (· = r)) (hs : Sc r) (hk : aops P ops l (fr.put d r) st K) : ac1 P ops h [.bs b 0 n cap, y] d l fr st K := by
  subst hn
  exact ac1_sc (fun _ => es.length) (fzs_two (Fz.rows hg (Nat.le_refl _) hp) (.plain _ hx)) hc hs hk
end
end Go.Proofs.Ytllijcnbjbfabaa

namespace Go.Proofs.Ytllijcnbjbfabaa
open Go.RowKit
set_option linter.unusedSimpArgs false
set_option linter.unusedVariables false

section
variable {mu : Mu} {S : Stab} {w : World} {x y : V} {u v : Value}
theorem vr_tup2 (h1 : VR mu S w x u) (h2 : VR mu S w y v) : VR mu S w (.tup [x, y]) (.tuple #[u, v]) := .tup [x, y] [u, v] rfl fun j hj hj' => by
  match j, hj with
  | 0, _ => exact h1
  | 1, _ => exact h2
end
abbrev mk3V (r : Bs × Int) : V := .tup [.str (mkS r.1), .int .i64 r.2]
theorem Make3_con (k : Int) (rest : ByteArray) (ws l : List Int) (fl fl' : Bool) (hk : k ≤ 127) (hr : rest.size ≤ 1000000) (hl : l.length ≤ 1000000) (hw : ws.length ≤ 1000000) :
    Con Try.prog 51 [.int .i8 k, .str rest, .sl (ws.map inV) fl, .sl (l.map inV) fl'] (· = mk3V (makeR k rest.data.toList ws l)) := by
  refine con_of_calls Try.func51 (by decide) rfl (by (simp only [List.nil_append, List.cons_append, List.append_nil, List.forall_mem_cons, List.not_mem_nil, false_implies, implies_true, and_true, true_and, plain_agg, plain_tup, plain_int, plain_bool, plain_str, plain_nilp, plain_nilfn, plain_undef, plain_dev, plain_pr, plain_tx, plain_in, plain_cc])) fun w S vargs hS hv => ?_
  obtain ⟨u1, us, rfl, e1, hv⟩ := vrs_cons hv
  obtain ⟨u2, us, rfl, e2, hv⟩ := vrs_cons hv
  obtain ⟨u3, us, rfl, e3, hv⟩ := vrs_cons hv
  obtain ⟨u4, us, rfl, e4, hv⟩ := vrs_cons hv
  obtain rfl := vrs_nil hv
  obtain rfl := vr_int e1
  obtain rfl := VR.str_inv e2
  obtain ⟨A3, c3, rfl, r3⟩ := vr_in hS e3
  obtain ⟨A4, c4, rfl, r4⟩ := vr_in hS e4
  refine (rMake_any k rest A3 A4 c3 c4 ws l w hk hr hl hw r3 r4).mono ?_
  rintro e w' ⟨rfl, hB⟩
  exact ⟨_, rfl, vr_tup2 (.str _) (.int _ _), hB⟩
end Go.Proofs.Ytllijcnbjbfabaa

namespace Go.Proofs.Ytllijcnbjbfabaa
open Go.RowKit
set_option linter.unusedSimpArgs false
set_option linter.unusedVariables false

abbrev geoV (g : Geo) : V := .agg [.int .i64 g.nodes, .int .i64 g.slots, .int .i64 g.blocks, .int .i64 g.per, .int .i64 g.journal, .int .i64 g.log, .int .i64 g.lease, .int .i64 g.wait]
theorem in_con (n a b : Int) : PCon Try.prog 50 [.int .i64 n, .int .i64 a, .int .i64 b] (.bool (decide (a ≤ n ∧ n ≤ b))) := by
  refine ⟨?_, by (simp only [List.nil_append, List.cons_append, List.append_nil, List.forall_mem_cons, List.not_mem_nil, false_implies, implies_true, and_true, true_and, plain_agg, plain_tup, plain_int, plain_bool, plain_str, plain_nilp, plain_nilfn, plain_undef, plain_dev, plain_pr, plain_tx, plain_in, plain_cc])⟩
  refine con_of_awp Try.func50 rfl mixed (by decide) rfl (by kernel_rfl) rfl ?_
  by_cases h1 : a ≤ n
  · by_cases h2 : n ≤ b
    · (repeat' (first | with_reducible refine agr_d (fun hc => ?_) (fun hc => ?_) | with_reducible refine agr_n (fun hc => ?_) (fun hc => ?_) | with_reducible refine acd_d (fun hc => ?_) (fun hc => ?_) | with_reducible refine acd_n (fun hc => ?_) (fun hc => ?_) | with_reducible refine dgr_d (fun hc => ?_) (fun hc => ?_) | with_reducible refine dgr_n (fun hc => ?_) (fun hc => ?_) | with_reducible refine dl_sound _ _ [] [] [] _ _ (fun _ h => absurd h List.not_mem_nil) ?_ | with_reducible refine conEnd_p (.inl rfl) ?_ | with_reducible refine conEnd_p (.inr rfl) ?_ | simp (disch := omega) only [go_sem, Nat.reduceAdd, Nat.reduceSub, Nat.reduceMul, Nat.reduceLeDiff, Nat.reduceLT, Nat.reduceEqDiff, Int.reduceLT, Int.reduceLE, Int.reduceToNat, Int.reduceAdd, Int.reduceSub, Int.reduceMul, Int.reduceEq, Int.reduceNeg, reduceCtorEq, true_and, and_true, Int.toNat_natCast, List.getElem?_map, Option.map_some, List.length_map, List.length_take, List.length_drop, List.length_append, Nat.sub_zero, Int.toNat_zero, List.length_replicate, Bool.true_or, Bool.or_true, Bool.false_or, Bool.or_false, false_implies, implies_true]))
    · (repeat' (first | with_reducible refine agr_d (fun hc => ?_) (fun hc => ?_) | with_reducible refine agr_n (fun hc => ?_) (fun hc => ?_) | with_reducible refine acd_d (fun hc => ?_) (fun hc => ?_) | with_reducible refine acd_n (fun hc => ?_) (fun hc => ?_) | with_reducible refine dgr_d (fun hc => ?_) (fun hc => ?_) | with_reducible refine dgr_n (fun hc => ?_) (fun hc => ?_) | with_reducible refine dl_sound _ _ [] [] [] _ _ (fun _ h => absurd h List.not_mem_nil) ?_ | with_reducible refine conEnd_p (.inl rfl) ?_ | with_reducible refine conEnd_p (.inr rfl) ?_ | simp (disch := omega) only [go_sem, Nat.reduceAdd, Nat.reduceSub, Nat.reduceMul, Nat.reduceLeDiff, Nat.reduceLT, Nat.reduceEqDiff, Int.reduceLT, Int.reduceLE, Int.reduceToNat, Int.reduceAdd, Int.reduceSub, Int.reduceMul, Int.reduceEq, Int.reduceNeg, reduceCtorEq, true_and, and_true, Int.toNat_natCast, List.getElem?_map, Option.map_some, List.length_map, List.length_take, List.length_drop, List.length_append, Nat.sub_zero, Int.toNat_zero, List.length_replicate, Bool.true_or, Bool.or_true, Bool.false_or, Bool.or_false, false_implies, implies_true]))
  · (repeat' (first | with_reducible refine agr_d (fun hc => ?_) (fun hc => ?_) | with_reducible refine agr_n (fun hc => ?_) (fun hc => ?_) | with_reducible refine acd_d (fun hc => ?_) (fun hc => ?_) | with_reducible refine acd_n (fun hc => ?_) (fun hc => ?_) | with_reducible refine dgr_d (fun hc => ?_) (fun hc => ?_) | with_reducible refine dgr_n (fun hc => ?_) (fun hc => ?_) | with_reducible refine dl_sound _ _ [] [] [] _ _ (fun _ h => absurd h List.not_mem_nil) ?_ | with_reducible refine conEnd_p (.inl rfl) ?_ | with_reducible refine conEnd_p (.inr rfl) ?_ | simp (disch := omega) only [go_sem, Nat.reduceAdd, Nat.reduceSub, Nat.reduceMul, Nat.reduceLeDiff, Nat.reduceLT, Nat.reduceEqDiff, Int.reduceLT, Int.reduceLE, Int.reduceToNat, Int.reduceAdd, Int.reduceSub, Int.reduceMul, Int.reduceEq, Int.reduceNeg, reduceCtorEq, true_and, and_true, Int.toNat_natCast, List.getElem?_map, Option.map_some, List.length_map, List.length_take, List.length_drop, List.length_append, Nat.sub_zero, Int.toNat_zero, List.length_replicate, Bool.true_or, Bool.or_true, Bool.false_or, Bool.or_false, false_implies, implies_true]))
set_option maxRecDepth 100000 in
set_option maxHeartbeats 16000000 in
theorem May4_con (g : Geo) : PCon Try.prog 29 [geoV g] (.bool g.may) := by
  refine ⟨?_, by (simp only [List.nil_append, List.cons_append, List.append_nil, List.forall_mem_cons, List.not_mem_nil, false_implies, implies_true, and_true, true_and, plain_agg, plain_tup, plain_int, plain_bool, plain_str, plain_nilp, plain_nilfn, plain_undef, plain_dev, plain_pr, plain_tx, plain_in, plain_cc])⟩
  refine con_of_awp Try.func29 rfl mixed (by decide) rfl (by kernel_rfl) rfl ?_
  by_cases ho : g.OK
  · rw [Geo.ok_may ho]
    obtain ⟨h1, h2, h3, h4, h5, h6, h7, h8, h9, h10, h11, h12, h13, h14, h15⟩ := ho
    (repeat' (first | with_reducible refine agr_d (fun hc => ?_) (fun hc => ?_) | with_reducible refine agr_n (fun hc => ?_) (fun hc => ?_) | with_reducible refine acd_d (fun hc => ?_) (fun hc => ?_) | with_reducible refine acd_n (fun hc => ?_) (fun hc => ?_) | with_reducible refine dgr_d (fun hc => ?_) (fun hc => ?_) | with_reducible refine dgr_n (fun hc => ?_) (fun hc => ?_) | with_reducible refine dl_sound _ _ [] [] [] _ _ (fun _ h => absurd h List.not_mem_nil) ?_ | with_reducible refine conEnd_p (.inl rfl) ?_ | with_reducible refine conEnd_p (.inr rfl) ?_ | with_reducible refine dc1_p (in_con _ _ _) ?_ | with_reducible refine ac1_p (in_con _ _ _) ?_ | simp (disch := omega) only [go_sem, geoV, Nat.reduceAdd, Nat.reduceSub, Nat.reduceMul, Nat.reduceLeDiff, Nat.reduceLT, Nat.reduceEqDiff, Int.reduceLT, Int.reduceLE, Int.reduceToNat, Int.reduceAdd, Int.reduceSub, Int.reduceMul, Int.reduceEq, Int.reduceNeg, reduceCtorEq, true_and, and_true, Int.toNat_natCast, List.getElem?_map, Option.map_some, List.length_map, List.length_take, List.length_drop, List.length_append, Nat.sub_zero, Int.toNat_zero, List.length_replicate, Bool.true_or, Bool.or_true, Bool.false_or, Bool.or_false, false_implies, implies_true]))
  · have hf : g.may = false := by
      cases hb : g.may with
      | false => rfl
      | true => exact absurd (Geo.may_ok hb) ho
    rw [hf]
    (repeat' (first | with_reducible refine agr_d (fun hc => ?_) (fun hc => ?_) | with_reducible refine agr_n (fun hc => ?_) (fun hc => ?_) | with_reducible refine acd_d (fun hc => ?_) (fun hc => ?_) | with_reducible refine acd_n (fun hc => ?_) (fun hc => ?_) | with_reducible refine dgr_d (fun hc => ?_) (fun hc => ?_) | with_reducible refine dgr_n (fun hc => ?_) (fun hc => ?_) | with_reducible refine dl_sound _ _ [] [] [] _ _ (fun _ h => absurd h List.not_mem_nil) ?_ | with_reducible refine conEnd_p (.inl rfl) ?_ | with_reducible refine conEnd_p (.inr rfl) ?_ | with_reducible refine dc1_p (in_con _ _ _) ?_ | with_reducible refine ac1_p (in_con _ _ _) ?_ | simp (disch := omega) only [go_sem, geoV, Nat.reduceAdd, Nat.reduceSub, Nat.reduceMul, Nat.reduceLeDiff, Nat.reduceLT, Nat.reduceEqDiff, Int.reduceLT, Int.reduceLE, Int.reduceToNat, Int.reduceAdd, Int.reduceSub, Int.reduceMul, Int.reduceEq, Int.reduceNeg, reduceCtorEq, true_and, and_true, Int.toNat_natCast, List.getElem?_map, Option.map_some, List.length_map, List.length_take, List.length_drop, List.length_append, Nat.sub_zero, Int.toNat_zero, List.length_replicate, Bool.true_or, Bool.or_true, Bool.false_or, Bool.or_false, false_implies, implies_true]))
    all_goals first | (exfalso; exact ho ⟨by omega, by omega, by omega, by omega, by omega, by omega, by omega, by omega, by omega, by omega, by omega, by omega, by omega, by omega, by omega⟩) | (rw [decide_eq_false (fun hw : g.wait ≤ 1048576 => ho ⟨by omega, by omega, by omega, by omega, by omega, by omega, by omega, by omega, by omega, by omega, by omega, by omega, by omega, by omega, by omega⟩)])
end Go.Proofs.Ytllijcnbjbfabaa

namespace Go.Proofs.Ytllijcnbjbfabaa
open Go.RowKit
set_option linter.unusedSimpArgs false
set_option linter.unusedVariables false

def aaV (a : Ac) : List V := [.int .i8 a.k, .int .i64 a.s, .str a.b, .int .i64 a.key]
theorem plain_aa (l : List Ac) (b : Bool) : Plain (.sl (l.map aaV) b) ↔ True := ⟨fun _ => trivial, fun _ => .sl _ _ fun r hr x hx => by
  obtain ⟨p, _, rfl⟩ := List.mem_map.1 hr
  simp only [aaV, List.mem_cons, List.not_mem_nil, or_false] at hx
  rcases hx with rfl | rfl | rfl | rfl
  · exact .int _ _
  · exact .int _ _
  · exact .str _
  · exact .int _ _⟩
attribute [go_sem] aaV plain_aa
theorem Great16_con (l : List Pr) (fl : Bool) (hl : l.length ≤ maxLen) : Con Try.prog 7 [.sl (l.map prV) fl] (fun r => ∃ q : Bool, r = .bool q ∧ (q = false → l.length ≤ 70)) := by
  refine ⟨⟨_, Try.func7, by decide, rfl⟩, fun w S vargs hS hv => ?_⟩
  obtain ⟨u1, us, rfl, e1, hv⟩ := vrs_cons hv
  obtain rfl := vrs_nil hv
  obtain ⟨A, c, rfl, hr⟩ := vr_pr hS e1
  refine (Great_any A c l w hl hr).mono ?_
  rintro e w' ⟨q, rfl, hq, rfl⟩
  exact ⟨_, .bool q, S, rfl, ⟨q, rfl, hq⟩, .bool q, .bool q, fun _ _ h => h, fun _ _ h => .inl h, hS, Below.refl _ _⟩
theorem wakes20_con : PCon Try.prog 9 [] (.bool true) := by
  refine ⟨?_, by simp⟩
  refine con_of_calls Try.func9 (by decide) rfl (.bool _) fun w S vargs hS hv => ?_
  obtain rfl := vrs_nil hv
  refine (wakes20 w).mono ?_
  rintro e w' ⟨rfl, hB⟩
  exact ⟨_, rfl, .bool _, hB⟩
set_option maxRecDepth 100000 in
theorem Acts_con (g : Geo) (slot tail : Int) (l : List Pr) (fl : Bool) (hw1 : -9223372036854775808 ≤ g.wait) (hw2 : g.wait ≤ 9223372036854775807) (hl : l.length ≤ 100000) :
    PCon Try.prog 13 [geoV g, .int .i64 slot, .int .i64 tail, .sl (l.map prV) fl] (.tup [.sl ((actsR g slot tail l).1.map aaV) false, .int .i64 (actsR g slot tail l).2]) := by
  refine ⟨?_, by (simp only [List.nil_append, List.cons_append, List.append_nil, List.forall_mem_cons, List.not_mem_nil, false_implies, implies_true, and_true, true_and, plain_agg, plain_tup, plain_int, plain_bool, plain_str, plain_nilp, plain_nilfn, plain_undef, plain_dev, plain_pr, plain_tx, plain_in, plain_cc])⟩
  refine con_of_calls Try.func13 (by decide) rfl (plain_tup.2 (by simp (disch := omega) only [go_sem, Nat.reduceAdd, Nat.reduceSub, Nat.reduceMul, Nat.reduceLeDiff, Nat.reduceLT, Nat.reduceEqDiff, Int.reduceLT, Int.reduceLE, Int.reduceToNat, Int.reduceAdd, Int.reduceSub, Int.reduceMul, Int.reduceEq, Int.reduceNeg, reduceCtorEq, true_and, and_true, Int.toNat_natCast, List.getElem?_map, Option.map_some, List.length_map, List.length_take, List.length_drop, List.length_append, Nat.sub_zero, Int.toNat_zero, List.length_replicate, Bool.true_or, Bool.or_true, Bool.false_or, Bool.or_false, false_implies, implies_true])) fun w S vargs hS hv => ?_
  obtain ⟨u1, us, rfl, e1, hv⟩ := vrs_cons hv
  obtain ⟨u2, us, rfl, e2, hv⟩ := vrs_cons hv
  obtain ⟨u3, us, rfl, e3, hv⟩ := vrs_cons hv
  obtain ⟨u4, us, rfl, e4, hv⟩ := vrs_cons hv
  obtain rfl := vrs_nil hv
  obtain rfl := vr_geo e1
  obtain rfl := vr_int e2
  obtain rfl := vr_int e3
  obtain ⟨A, c, rfl, hr⟩ := vr_pr hS e4
  refine (Acts_any g A c l slot tail w hw1 hw2 hl hr).mono ?_
  rintro e w' ⟨v, rfl, hown, hB⟩
  refine ⟨_, rfl, vr_tup2 (vr_own hown _ (List.length_map _) (fun r hr => by obtain ⟨a, _, rfl⟩ := List.mem_map.1 hr; rfl) (fun i hi j hj => ?_) (fun g i h1 h2 => .inr ⟨h1, h2⟩)) (.int _ _), hB⟩
  generalize (actsR g slot tail l).1 = acs at hi
  rw [List.length_map] at hi
  obtain ⟨g0, g1, g2, g3⟩ := acCells_get acs i hi
  simp only [List.getElem_map, aaV, List.length_cons, List.length_nil] at hj ⊢
  match j, hj with
  | 0, _ => exact ⟨_, g0, rfl, .int _ _⟩
  | 1, _ => exact ⟨_, g1, rfl, .int _ _⟩
  | 2, _ => exact ⟨_, g2, rfl, .str _⟩
  | 3, _ => exact ⟨_, g3, rfl, .int _ _⟩
end Go.Proofs.Ytllijcnbjbfabaa

namespace Go.Proofs.Ytllijcnbjbfabaa
open Go.RowKit
set_option linter.unusedSimpArgs false
set_option linter.unusedVariables false

def headG (g : Geo) (slot : Int) : Int := if g.may = true ∧ 0 ≤ slot ∧ slot ≤ g.slots - 1 then 1 + 2 * g.nodes + g.log + slot * (1 + g.journal) else -1
def dataG (g : Geo) (b k : Int) : Int := if g.may = true ∧ (0 ≤ b ∧ b ≤ g.blocks - 1) ∧ 0 ≤ k ∧ k ≤ g.per - 1 then 1 + 2 * g.nodes + g.log + g.slots * (1 + g.journal) + b * g.per + k else -1
def totalG (g : Geo) : Int := if g.may = true then dataG g (g.blocks - 1) (g.per - 1) + 1 else 0
theorem mul_le64 {a b : Int} (h1 : 0 ≤ a) (h2 : a ≤ 512) (h3 : 0 ≤ b) (h4 : b ≤ 512) : 0 ≤ a * b ∧ a * b ≤ 262144 := ⟨Int.mul_nonneg h1 h3, by
  have h := Int.mul_le_mul h2 h4 h3 (by omega : (0 : Int) ≤ 512)
  omega⟩
set_option maxRecDepth 100000 in
set_option maxHeartbeats 16000000 in
theorem Head4_con (g : Geo) (slot : Int) : PCon Try.prog 16 [geoV g, .int .i64 slot] (.int .i64 (headG g slot)) := by
  refine ⟨?_, by (simp only [List.nil_append, List.cons_append, List.append_nil, List.forall_mem_cons, List.not_mem_nil, false_implies, implies_true, and_true, true_and, plain_agg, plain_tup, plain_int, plain_bool, plain_str, plain_nilp, plain_nilfn, plain_undef, plain_dev, plain_pr, plain_tx, plain_in, plain_cc])⟩
  have hm := May4_con g
  refine con_of_awp Try.func16 rfl mixed (by decide) rfl (by kernel_rfl) rfl ?_
  cases hb : g.may with
  | false =>
    rw [hb] at hm
    rw [show headG g slot = -1 from if_neg (by rw [hb]; simp)]
    (repeat' (first | with_reducible refine agr_d (fun hc => ?_) (fun hc => ?_) | with_reducible refine agr_n (fun hc => ?_) (fun hc => ?_) | with_reducible refine acd_d (fun hc => ?_) (fun hc => ?_) | with_reducible refine acd_n (fun hc => ?_) (fun hc => ?_) | with_reducible refine dgr_d (fun hc => ?_) (fun hc => ?_) | with_reducible refine dgr_n (fun hc => ?_) (fun hc => ?_) | with_reducible refine dl_sound _ _ [] [] [] _ _ (fun _ h => absurd h List.not_mem_nil) ?_ | with_reducible refine conEnd_p (.inl rfl) ?_ | with_reducible refine conEnd_p (.inr rfl) ?_ | with_reducible refine dc1_p hm ?_ | with_reducible refine ac1_p hm ?_ | simp (disch := omega) only [go_sem, geoV, Nat.reduceAdd, Nat.reduceSub, Nat.reduceMul, Nat.reduceLeDiff, Nat.reduceLT, Nat.reduceEqDiff, Int.reduceLT, Int.reduceLE, Int.reduceToNat, Int.reduceAdd, Int.reduceSub, Int.reduceMul, Int.reduceEq, Int.reduceNeg, reduceCtorEq, true_and, and_true, Int.toNat_natCast, List.getElem?_map, Option.map_some, List.length_map, List.length_take, List.length_drop, List.length_append, Nat.sub_zero, Int.toNat_zero, List.length_replicate, Bool.true_or, Bool.or_true, Bool.false_or, Bool.or_false, false_implies, implies_true]))
  | true =>
    rw [hb] at hm
    obtain ⟨h1, h2, h3, h4, h5, h6, h7, h8, h9, h10, h11, h12, h13, h14, h15⟩ := Geo.may_ok hb
    by_cases hs : 0 ≤ slot ∧ slot ≤ g.slots - 1
    · rw [show headG g slot = _ from if_pos ⟨hb, hs⟩]
      have hmul := mul_le64 (a := slot) (b := 1 + g.journal) (by omega) (by omega) (by omega) (by omega)
      generalize hq : slot * (1 + g.journal) = q at hmul
      (repeat' (first | with_reducible refine agr_d (fun hc => ?_) (fun hc => ?_) | with_reducible refine agr_n (fun hc => ?_) (fun hc => ?_) | with_reducible refine acd_d (fun hc => ?_) (fun hc => ?_) | with_reducible refine acd_n (fun hc => ?_) (fun hc => ?_) | with_reducible refine dgr_d (fun hc => ?_) (fun hc => ?_) | with_reducible refine dgr_n (fun hc => ?_) (fun hc => ?_) | with_reducible refine dl_sound _ _ [] [] [] _ _ (fun _ h => absurd h List.not_mem_nil) ?_ | with_reducible refine conEnd_p (.inl rfl) ?_ | with_reducible refine conEnd_p (.inr rfl) ?_ | with_reducible refine dc1_p hm ?_ | with_reducible refine ac1_p hm ?_ | with_reducible refine dc1_p (in_con _ _ _) ?_ | with_reducible refine ac1_p (in_con _ _ _) ?_ | simp (disch := omega) only [go_sem, geoV, hq, Nat.reduceAdd, Nat.reduceSub, Nat.reduceMul, Nat.reduceLeDiff, Nat.reduceLT, Nat.reduceEqDiff, Int.reduceLT, Int.reduceLE, Int.reduceToNat, Int.reduceAdd, Int.reduceSub, Int.reduceMul, Int.reduceEq, Int.reduceNeg, reduceCtorEq, true_and, and_true, Int.toNat_natCast, List.getElem?_map, Option.map_some, List.length_map, List.length_take, List.length_drop, List.length_append, Nat.sub_zero, Int.toNat_zero, List.length_replicate, Bool.true_or, Bool.or_true, Bool.false_or, Bool.or_false, false_implies, implies_true]))
    · rw [show headG g slot = -1 from if_neg (fun h => hs h.2)]
      (repeat' (first | with_reducible refine agr_d (fun hc => ?_) (fun hc => ?_) | with_reducible refine agr_n (fun hc => ?_) (fun hc => ?_) | with_reducible refine acd_d (fun hc => ?_) (fun hc => ?_) | with_reducible refine acd_n (fun hc => ?_) (fun hc => ?_) | with_reducible refine dgr_d (fun hc => ?_) (fun hc => ?_) | with_reducible refine dgr_n (fun hc => ?_) (fun hc => ?_) | with_reducible refine dl_sound _ _ [] [] [] _ _ (fun _ h => absurd h List.not_mem_nil) ?_ | with_reducible refine conEnd_p (.inl rfl) ?_ | with_reducible refine conEnd_p (.inr rfl) ?_ | with_reducible refine dc1_p hm ?_ | with_reducible refine ac1_p hm ?_ | with_reducible refine dc1_p (in_con _ _ _) ?_ | with_reducible refine ac1_p (in_con _ _ _) ?_ | simp (disch := omega) only [go_sem, geoV, Nat.reduceAdd, Nat.reduceSub, Nat.reduceMul, Nat.reduceLeDiff, Nat.reduceLT, Nat.reduceEqDiff, Int.reduceLT, Int.reduceLE, Int.reduceToNat, Int.reduceAdd, Int.reduceSub, Int.reduceMul, Int.reduceEq, Int.reduceNeg, reduceCtorEq, true_and, and_true, Int.toNat_natCast, List.getElem?_map, Option.map_some, List.length_map, List.length_take, List.length_drop, List.length_append, Nat.sub_zero, Int.toNat_zero, List.length_replicate, Bool.true_or, Bool.or_true, Bool.false_or, Bool.or_false, false_implies, implies_true]))
set_option maxRecDepth 100000 in
set_option maxHeartbeats 16000000 in
theorem Data4_con (g : Geo) (b k : Int) : PCon Try.prog 49 [geoV g, .int .i64 b, .int .i64 k] (.int .i64 (dataG g b k)) := by
  refine ⟨?_, by (simp only [List.nil_append, List.cons_append, List.append_nil, List.forall_mem_cons, List.not_mem_nil, false_implies, implies_true, and_true, true_and, plain_agg, plain_tup, plain_int, plain_bool, plain_str, plain_nilp, plain_nilfn, plain_undef, plain_dev, plain_pr, plain_tx, plain_in, plain_cc])⟩
  have hm := May4_con g
  refine con_of_awp Try.func49 rfl mixed (by decide) rfl (by kernel_rfl) rfl ?_
  cases hb : g.may with
  | false =>
    rw [hb] at hm
    rw [show dataG g b k = -1 from if_neg (by rw [hb]; simp)]
    (repeat' (first | with_reducible refine agr_d (fun hc => ?_) (fun hc => ?_) | with_reducible refine agr_n (fun hc => ?_) (fun hc => ?_) | with_reducible refine acd_d (fun hc => ?_) (fun hc => ?_) | with_reducible refine acd_n (fun hc => ?_) (fun hc => ?_) | with_reducible refine dgr_d (fun hc => ?_) (fun hc => ?_) | with_reducible refine dgr_n (fun hc => ?_) (fun hc => ?_) | with_reducible refine dl_sound _ _ [] [] [] _ _ (fun _ h => absurd h List.not_mem_nil) ?_ | with_reducible refine conEnd_p (.inl rfl) ?_ | with_reducible refine conEnd_p (.inr rfl) ?_ | with_reducible refine dc1_p hm ?_ | with_reducible refine ac1_p hm ?_ | simp (disch := omega) only [go_sem, geoV, Nat.reduceAdd, Nat.reduceSub, Nat.reduceMul, Nat.reduceLeDiff, Nat.reduceLT, Nat.reduceEqDiff, Int.reduceLT, Int.reduceLE, Int.reduceToNat, Int.reduceAdd, Int.reduceSub, Int.reduceMul, Int.reduceEq, Int.reduceNeg, reduceCtorEq, true_and, and_true, Int.toNat_natCast, List.getElem?_map, Option.map_some, List.length_map, List.length_take, List.length_drop, List.length_append, Nat.sub_zero, Int.toNat_zero, List.length_replicate, Bool.true_or, Bool.or_true, Bool.false_or, Bool.or_false, false_implies, implies_true]))
  | true =>
    rw [hb] at hm
    obtain ⟨h1, h2, h3, h4, h5, h6, h7, h8, h9, h10, h11, h12, h13, h14, h15⟩ := Geo.may_ok hb
    by_cases hs : 0 ≤ b ∧ b ≤ g.blocks - 1
    · by_cases hk : 0 ≤ k ∧ k ≤ g.per - 1
      · rw [show dataG g b k = _ from if_pos ⟨hb, hs, hk⟩]
        have hmul := mul_le64 (a := g.slots) (b := 1 + g.journal) (by omega) (by omega) (by omega) (by omega)
        have hmul' := mul_le64 (a := b) (b := g.per) (by omega) (by omega) (by omega) (by omega)
        generalize hq : g.slots * (1 + g.journal) = q at hmul
        generalize hq' : b * g.per = q' at hmul'
        (repeat' (first | with_reducible refine agr_d (fun hc => ?_) (fun hc => ?_) | with_reducible refine agr_n (fun hc => ?_) (fun hc => ?_) | with_reducible refine acd_d (fun hc => ?_) (fun hc => ?_) | with_reducible refine acd_n (fun hc => ?_) (fun hc => ?_) | with_reducible refine dgr_d (fun hc => ?_) (fun hc => ?_) | with_reducible refine dgr_n (fun hc => ?_) (fun hc => ?_) | with_reducible refine dl_sound _ _ [] [] [] _ _ (fun _ h => absurd h List.not_mem_nil) ?_ | with_reducible refine conEnd_p (.inl rfl) ?_ | with_reducible refine conEnd_p (.inr rfl) ?_ | with_reducible refine dc1_p hm ?_ | with_reducible refine ac1_p hm ?_ | with_reducible refine dc1_p (in_con _ _ _) ?_ | with_reducible refine ac1_p (in_con _ _ _) ?_ | simp (disch := omega) only [go_sem, geoV, hq, hq', Nat.reduceAdd, Nat.reduceSub, Nat.reduceMul, Nat.reduceLeDiff, Nat.reduceLT, Nat.reduceEqDiff, Int.reduceLT, Int.reduceLE, Int.reduceToNat, Int.reduceAdd, Int.reduceSub, Int.reduceMul, Int.reduceEq, Int.reduceNeg, reduceCtorEq, true_and, and_true, Int.toNat_natCast, List.getElem?_map, Option.map_some, List.length_map, List.length_take, List.length_drop, List.length_append, Nat.sub_zero, Int.toNat_zero, List.length_replicate, Bool.true_or, Bool.or_true, Bool.false_or, Bool.or_false, false_implies, implies_true]))
      · rw [show dataG g b k = -1 from if_neg (fun h => hk h.2.2)]
        (repeat' (first | with_reducible refine agr_d (fun hc => ?_) (fun hc => ?_) | with_reducible refine agr_n (fun hc => ?_) (fun hc => ?_) | with_reducible refine acd_d (fun hc => ?_) (fun hc => ?_) | with_reducible refine acd_n (fun hc => ?_) (fun hc => ?_) | with_reducible refine dgr_d (fun hc => ?_) (fun hc => ?_) | with_reducible refine dgr_n (fun hc => ?_) (fun hc => ?_) | with_reducible refine dl_sound _ _ [] [] [] _ _ (fun _ h => absurd h List.not_mem_nil) ?_ | with_reducible refine conEnd_p (.inl rfl) ?_ | with_reducible refine conEnd_p (.inr rfl) ?_ | with_reducible refine dc1_p hm ?_ | with_reducible refine ac1_p hm ?_ | with_reducible refine dc1_p (in_con _ _ _) ?_ | with_reducible refine ac1_p (in_con _ _ _) ?_ | simp (disch := omega) only [go_sem, geoV, Nat.reduceAdd, Nat.reduceSub, Nat.reduceMul, Nat.reduceLeDiff, Nat.reduceLT, Nat.reduceEqDiff, Int.reduceLT, Int.reduceLE, Int.reduceToNat, Int.reduceAdd, Int.reduceSub, Int.reduceMul, Int.reduceEq, Int.reduceNeg, reduceCtorEq, true_and, and_true, Int.toNat_natCast, List.getElem?_map, Option.map_some, List.length_map, List.length_take, List.length_drop, List.length_append, Nat.sub_zero, Int.toNat_zero, List.length_replicate, Bool.true_or, Bool.or_true, Bool.false_or, Bool.or_false, false_implies, implies_true]))
    · rw [show dataG g b k = -1 from if_neg (fun h => hs h.2.1)]
      (repeat' (first | with_reducible refine agr_d (fun hc => ?_) (fun hc => ?_) | with_reducible refine agr_n (fun hc => ?_) (fun hc => ?_) | with_reducible refine acd_d (fun hc => ?_) (fun hc => ?_) | with_reducible refine acd_n (fun hc => ?_) (fun hc => ?_) | with_reducible refine dgr_d (fun hc => ?_) (fun hc => ?_) | with_reducible refine dgr_n (fun hc => ?_) (fun hc => ?_) | with_reducible refine dl_sound _ _ [] [] [] _ _ (fun _ h => absurd h List.not_mem_nil) ?_ | with_reducible refine conEnd_p (.inl rfl) ?_ | with_reducible refine conEnd_p (.inr rfl) ?_ | with_reducible refine dc1_p hm ?_ | with_reducible refine ac1_p hm ?_ | with_reducible refine dc1_p (in_con _ _ _) ?_ | with_reducible refine ac1_p (in_con _ _ _) ?_ | simp (disch := omega) only [go_sem, geoV, Nat.reduceAdd, Nat.reduceSub, Nat.reduceMul, Nat.reduceLeDiff, Nat.reduceLT, Nat.reduceEqDiff, Int.reduceLT, Int.reduceLE, Int.reduceToNat, Int.reduceAdd, Int.reduceSub, Int.reduceMul, Int.reduceEq, Int.reduceNeg, reduceCtorEq, true_and, and_true, Int.toNat_natCast, List.getElem?_map, Option.map_some, List.length_map, List.length_take, List.length_drop, List.length_append, Nat.sub_zero, Int.toNat_zero, List.length_replicate, Bool.true_or, Bool.or_true, Bool.false_or, Bool.or_false, false_implies, implies_true]))
set_option maxRecDepth 100000 in
set_option maxHeartbeats 16000000 in
theorem Total4_con (g : Geo) : PCon Try.prog 35 [geoV g] (.int .i64 (totalG g)) := by
  refine ⟨?_, by (simp only [List.nil_append, List.cons_append, List.append_nil, List.forall_mem_cons, List.not_mem_nil, false_implies, implies_true, and_true, true_and, plain_agg, plain_tup, plain_int, plain_bool, plain_str, plain_nilp, plain_nilfn, plain_undef, plain_dev, plain_pr, plain_tx, plain_in, plain_cc])⟩
  have hm := May4_con g
  have hd := Data4_con g (g.blocks - 1) (g.per - 1)
  refine con_of_awp Try.func35 rfl mixed (by decide) rfl (by kernel_rfl) rfl ?_
  cases hb : g.may with
  | false =>
    rw [hb] at hm
    rw [show totalG g = 0 from if_neg (by rw [hb]; simp)]
    (repeat' (first | with_reducible refine agr_d (fun hc => ?_) (fun hc => ?_) | with_reducible refine agr_n (fun hc => ?_) (fun hc => ?_) | with_reducible refine acd_d (fun hc => ?_) (fun hc => ?_) | with_reducible refine acd_n (fun hc => ?_) (fun hc => ?_) | with_reducible refine dgr_d (fun hc => ?_) (fun hc => ?_) | with_reducible refine dgr_n (fun hc => ?_) (fun hc => ?_) | with_reducible refine dl_sound _ _ [] [] [] _ _ (fun _ h => absurd h List.not_mem_nil) ?_ | with_reducible refine conEnd_p (.inl rfl) ?_ | with_reducible refine conEnd_p (.inr rfl) ?_ | with_reducible refine dc1_p hm ?_ | with_reducible refine ac1_p hm ?_ | simp (disch := omega) only [go_sem, geoV, Nat.reduceAdd, Nat.reduceSub, Nat.reduceMul, Nat.reduceLeDiff, Nat.reduceLT, Nat.reduceEqDiff, Int.reduceLT, Int.reduceLE, Int.reduceToNat, Int.reduceAdd, Int.reduceSub, Int.reduceMul, Int.reduceEq, Int.reduceNeg, reduceCtorEq, true_and, and_true, Int.toNat_natCast, List.getElem?_map, Option.map_some, List.length_map, List.length_take, List.length_drop, List.length_append, Nat.sub_zero, Int.toNat_zero, List.length_replicate, Bool.true_or, Bool.or_true, Bool.false_or, Bool.or_false, false_implies, implies_true]))
  | true =>
    rw [hb] at hm
    obtain ⟨h1, h2, h3, h4, h5, h6, h7, h8, h9, h10, h11, h12, h13, h14, h15⟩ := Geo.may_ok hb
    rw [show totalG g = _ from if_pos hb]
    have hr : -1 ≤ dataG g (g.blocks - 1) (g.per - 1) ∧ dataG g (g.blocks - 1) (g.per - 1) ≤ 10000000 := by
      unfold dataG
      have hmul := mul_le64 (a := g.slots) (b := 1 + g.journal) (by omega) (by omega) (by omega) (by omega)
      have hmul' := mul_le64 (a := g.blocks - 1) (b := g.per) (by omega) (by omega) (by omega) (by omega)
      split <;> omega
    generalize dataG g (g.blocks - 1) (g.per - 1) = D at hd hr
    (repeat' (first | with_reducible refine agr_d (fun hc => ?_) (fun hc => ?_) | with_reducible refine agr_n (fun hc => ?_) (fun hc => ?_) | with_reducible refine acd_d (fun hc => ?_) (fun hc => ?_) | with_reducible refine acd_n (fun hc => ?_) (fun hc => ?_) | with_reducible refine dgr_d (fun hc => ?_) (fun hc => ?_) | with_reducible refine dgr_n (fun hc => ?_) (fun hc => ?_) | with_reducible refine dl_sound _ _ [] [] [] _ _ (fun _ h => absurd h List.not_mem_nil) ?_ | with_reducible refine conEnd_p (.inl rfl) ?_ | with_reducible refine conEnd_p (.inr rfl) ?_ | with_reducible refine dc1_p hm ?_ | with_reducible refine ac1_p hm ?_ | with_reducible refine dc1_p hd ?_ | with_reducible refine ac1_p hd ?_ | simp (disch := omega) only [go_sem, geoV, Nat.reduceAdd, Nat.reduceSub, Nat.reduceMul, Nat.reduceLeDiff, Nat.reduceLT, Nat.reduceEqDiff, Int.reduceLT, Int.reduceLE, Int.reduceToNat, Int.reduceAdd, Int.reduceSub, Int.reduceMul, Int.reduceEq, Int.reduceNeg, reduceCtorEq, true_and, and_true, Int.toNat_natCast, List.getElem?_map, Option.map_some, List.length_map, List.length_take, List.length_drop, List.length_append, Nat.sub_zero, Int.toNat_zero, List.length_replicate, Bool.true_or, Bool.or_true, Bool.false_or, Bool.or_false, false_implies, implies_true]))
end Go.Proofs.Ytllijcnbjbfabaa

namespace Go.Proofs.Ytllijcnbjbfabaa
open Go.RowKit
set_option linter.unusedSimpArgs false
set_option linter.unusedVariables false

set_option maxHeartbeats 1000000 in
theorem given_con (S C F : V) (ks : List (List V)) (fl : Bool) (n key : Int) (hk : key ≤ 9223372036854775807) :
    Con Try.prog 37 [.agg [S, C, .sl ks fl, .int .i64 n, F], .int .i64 key] (· = .bool (decide (16 ≤ key) && decide (key / 16 < n) && decide (key % 16 < ks.length))) := by
  refine con_of_awp Try.func37 rfl mixed (by decide) rfl (by kernel_rfl) rfl ?_
  (repeat' (first | with_reducible refine agr_d (fun hc => ?_) (fun hc => ?_) | with_reducible refine agr_n (fun hc => ?_) (fun hc => ?_) | with_reducible refine acd_d (fun hc => ?_) (fun hc => ?_) | with_reducible refine acd_n (fun hc => ?_) (fun hc => ?_) | with_reducible refine dgr_d (fun hc => ?_) (fun hc => ?_) | with_reducible refine dgr_n (fun hc => ?_) (fun hc => ?_) | with_reducible refine dl_sound _ _ [] [] [] _ _ (fun _ h => absurd h List.not_mem_nil) ?_ | with_reducible refine conEnd_p (.inl rfl) ?_ | with_reducible refine conEnd_p (.inr rfl) ?_ | simp (disch := omega) only [go_sem, Nat.reduceAdd, Nat.reduceSub, Nat.reduceMul, Nat.reduceLeDiff, Nat.reduceLT, Nat.reduceEqDiff, Int.reduceLT, Int.reduceLE, Int.reduceToNat, Int.reduceAdd, Int.reduceSub, Int.reduceMul, Int.reduceEq, Int.reduceNeg, reduceCtorEq, true_and, and_true, Int.toNat_natCast, List.getElem?_map, Option.map_some, List.length_map, List.length_take, List.length_drop, List.length_append, Nat.sub_zero, Int.toNat_zero, List.length_replicate, Bool.true_or, Bool.or_true, Bool.false_or, Bool.or_false, false_implies, implies_true]))

set_option maxHeartbeats 1000000 in
theorem place_con (l : List Pr) (fl : Bool) (s : Int) (hl : l.length ≤ 1000000000) :
    Con Try.prog 40 [.sl (l.map prV) fl, .int .i64 s] (· = .int .i64 (placeR l s)) := by
  refine con_of_awp Try.func40 rfl mixed (by decide) rfl (by kernel_rfl) rfl ?_
  (repeat' (first | with_reducible refine agr_d (fun hc => ?_) (fun hc => ?_) | with_reducible refine agr_n (fun hc => ?_) (fun hc => ?_) | with_reducible refine acd_d (fun hc => ?_) (fun hc => ?_) | with_reducible refine acd_n (fun hc => ?_) (fun hc => ?_) | with_reducible refine dgr_d (fun hc => ?_) (fun hc => ?_) | with_reducible refine dgr_n (fun hc => ?_) (fun hc => ?_) | with_reducible refine dl_sound _ _ [] [] [] _ _ (fun _ h => absurd h List.not_mem_nil) ?_ | simp (disch := omega) only [go_sem, Nat.reduceAdd, Nat.reduceSub, Nat.reduceMul, Nat.reduceLeDiff, Nat.reduceLT, Nat.reduceEqDiff, Int.reduceLT, Int.reduceLE, Int.reduceToNat, Int.reduceAdd, Int.reduceSub, Int.reduceMul, Int.reduceEq, Int.reduceNeg, reduceCtorEq, true_and, and_true, Int.toNat_natCast, List.getElem?_map, Option.map_some, List.length_map, List.length_take, List.length_drop, List.length_append, Nat.sub_zero, Int.toNat_zero, List.length_replicate, Bool.true_or, Bool.or_true, Bool.false_or, Bool.or_false, false_implies, implies_true]))
  refine awp_for l.length (fun j fr st => ev fr (.tmp 0) = .sl (l.map prV) fl ∧ ev fr (.tmp 1) = .int .i64 s ∧ ev fr (.tmp 5) = .int .i64 j ∧ st = ⟨fun _ => none, 0⟩ ∧ ∀ t (h : t < l.length), t < j → l[t].n ≠ s) ?_ ?_
  · refine ⟨?_, ?_, ?_, rfl, fun t _ h => absurd h (by omega)⟩ <;> simp (disch := omega) only [go_sem, Nat.reduceAdd, Nat.reduceSub, Nat.reduceMul, Nat.reduceLeDiff, Nat.reduceLT, Nat.reduceEqDiff, Int.reduceLT, Int.reduceLE, Int.reduceToNat, Int.reduceAdd, Int.reduceSub, Int.reduceMul, Int.reduceEq, Int.reduceNeg, reduceCtorEq, true_and, and_true, Int.toNat_natCast, List.getElem?_map, Option.map_some, List.length_map, List.length_take, List.length_drop, List.length_append, Nat.sub_zero, Int.toNat_zero, List.length_replicate, Bool.true_or, Bool.or_true, Bool.false_or, Bool.or_false, false_implies, implies_true] <;> rfl
  · rintro j fr st hj ⟨h0, h1, h5, rfl, hn⟩
    by_cases hlt : j < l.length
    · have hg : l[j]? = some l[j] := List.getElem?_eq_getElem hlt
      (repeat' (first | with_reducible refine agr_d (fun hc => ?_) (fun hc => ?_) | with_reducible refine agr_n (fun hc => ?_) (fun hc => ?_) | with_reducible refine acd_d (fun hc => ?_) (fun hc => ?_) | with_reducible refine acd_n (fun hc => ?_) (fun hc => ?_) | with_reducible refine dgr_d (fun hc => ?_) (fun hc => ?_) | with_reducible refine dgr_n (fun hc => ?_) (fun hc => ?_) | with_reducible refine dl_sound _ _ [] [] [] _ _ (fun _ h => absurd h List.not_mem_nil) ?_ | with_reducible refine conEnd_p (.inl rfl) ?_ | with_reducible refine conEnd_p (.inr rfl) ?_ | simp (disch := omega) only [go_sem, h0, h1, h5, hg, Nat.reduceAdd, Nat.reduceSub, Nat.reduceMul, Nat.reduceLeDiff, Nat.reduceLT, Nat.reduceEqDiff, Int.reduceLT, Int.reduceLE, Int.reduceToNat, Int.reduceAdd, Int.reduceSub, Int.reduceMul, Int.reduceEq, Int.reduceNeg, reduceCtorEq, true_and, and_true, Int.toNat_natCast, List.getElem?_map, Option.map_some, List.length_map, List.length_take, List.length_drop, List.length_append, Nat.sub_zero, Int.toNat_zero, List.length_replicate, Bool.true_or, Bool.or_true, Bool.false_or, Bool.or_false, false_implies, implies_true]))
      · rw [placeR, placeN_at hlt hc hn]
      · refine ⟨j + 1, by omega, by omega, rfl, fun t ht htj => ?_⟩
        · rcases Nat.lt_or_ge t j with h1 | h1
          · exact hn t ht h1
          · obtain rfl : t = j := by omega
            assumption
    · (repeat' (first | with_reducible refine agr_d (fun hc => ?_) (fun hc => ?_) | with_reducible refine agr_n (fun hc => ?_) (fun hc => ?_) | with_reducible refine acd_d (fun hc => ?_) (fun hc => ?_) | with_reducible refine acd_n (fun hc => ?_) (fun hc => ?_) | with_reducible refine dgr_d (fun hc => ?_) (fun hc => ?_) | with_reducible refine dgr_n (fun hc => ?_) (fun hc => ?_) | with_reducible refine dl_sound _ _ [] [] [] _ _ (fun _ h => absurd h List.not_mem_nil) ?_ | with_reducible refine conEnd_p (.inl rfl) ?_ | with_reducible refine conEnd_p (.inr rfl) ?_ | simp (disch := omega) only [go_sem, h0, h1, h5, Nat.reduceAdd, Nat.reduceSub, Nat.reduceMul, Nat.reduceLeDiff, Nat.reduceLT, Nat.reduceEqDiff, Int.reduceLT, Int.reduceLE, Int.reduceToNat, Int.reduceAdd, Int.reduceSub, Int.reduceMul, Int.reduceEq, Int.reduceNeg, reduceCtorEq, true_and, and_true, Int.toNat_natCast, List.getElem?_map, Option.map_some, List.length_map, List.length_take, List.length_drop, List.length_append, Nat.sub_zero, Int.toNat_zero, List.length_replicate, Bool.true_or, Bool.or_true, Bool.false_or, Bool.or_false, false_implies, implies_true]))
      rw [placeR, placeN_none (fun t ht => hn t ht (by omega))]

theorem cachedB_cut {n : Int} {l : List Pr} {j : Nat} (hlt : j < l.length) (h : ¬ (0 ≤ l[j].n ∧ l[j].n < n ∧ l[j].t.size ≤ 512) ∨ ∃ k, ∃ (hk : k < l.length), k < j ∧ l[k].n = l[j].n) : cachedB n [] l = false := by
  cases hb : cachedB n [] l with
  | false => rfl
  | true =>
    have h1 := (cachedB_P n l).1 hb j hlt hlt
    rcases h with h | ⟨k, hk, h2, h3⟩
    · exact absurd h1.1 h
    · exact absurd h3 (h1.2 k hk h2)
theorem cachedP_succ {n : Int} {l : List Pr} {j : Nat} (h : cachedP n l j) (hlt : j < l.length) (h1 : 0 ≤ l[j].n ∧ l[j].n < n ∧ l[j].t.size ≤ 512) (h2 : ∀ k (hk : k < l.length), k < j → l[k].n ≠ l[j].n) : cachedP n l (j + 1) := fun t ht htj => by
  rcases Nat.lt_or_ge t j with h3 | h3
  · exact h t ht h3
  · obtain rfl : t = j := by omega
    exact ⟨h1, h2⟩
set_option maxHeartbeats 4000000 in
theorem cached_con (l : List Pr) (fl : Bool) (n : Int) (hl : l.length ≤ 1000000000) :
    Con Try.prog 72 [.sl (l.map prV) fl, .int .i64 n] (· = .bool (cachedB n [] l)) := by
  refine con_of_awp Try.func72 rfl mixed (by decide) rfl (by kernel_rfl) rfl ?_
  (repeat' (first | with_reducible refine agr_d (fun hc => ?_) (fun hc => ?_) | with_reducible refine agr_n (fun hc => ?_) (fun hc => ?_) | with_reducible refine acd_d (fun hc => ?_) (fun hc => ?_) | with_reducible refine acd_n (fun hc => ?_) (fun hc => ?_) | with_reducible refine dgr_d (fun hc => ?_) (fun hc => ?_) | with_reducible refine dgr_n (fun hc => ?_) (fun hc => ?_) | with_reducible refine dl_sound _ _ [] [] [] _ _ (fun _ h => absurd h List.not_mem_nil) ?_ | simp (disch := omega) only [go_sem, Nat.reduceAdd, Nat.reduceSub, Nat.reduceMul, Nat.reduceLeDiff, Nat.reduceLT, Nat.reduceEqDiff, Int.reduceLT, Int.reduceLE, Int.reduceToNat, Int.reduceAdd, Int.reduceSub, Int.reduceMul, Int.reduceEq, Int.reduceNeg, reduceCtorEq, true_and, and_true, Int.toNat_natCast, List.getElem?_map, Option.map_some, List.length_map, List.length_take, List.length_drop, List.length_append, Nat.sub_zero, Int.toNat_zero, List.length_replicate, Bool.true_or, Bool.or_true, Bool.false_or, Bool.or_false, false_implies, implies_true]))
  refine awp_for l.length (fun j fr st => ev fr (.tmp 0) = .sl (l.map prV) fl ∧ ev fr (.tmp 1) = .int .i64 n ∧ ev fr (.tmp 5) = .int .i64 j ∧ st = ⟨fun _ => none, st.c⟩ ∧ cachedP n l j) ?_ ?_
  · refine ⟨?_, ?_, ?_, rfl, fun t _ h => absurd h (by omega)⟩ <;> simp (disch := omega) only [go_sem, Nat.reduceAdd, Nat.reduceSub, Nat.reduceMul, Nat.reduceLeDiff, Nat.reduceLT, Nat.reduceEqDiff, Int.reduceLT, Int.reduceLE, Int.reduceToNat, Int.reduceAdd, Int.reduceSub, Int.reduceMul, Int.reduceEq, Int.reduceNeg, reduceCtorEq, true_and, and_true, Int.toNat_natCast, List.getElem?_map, Option.map_some, List.length_map, List.length_take, List.length_drop, List.length_append, Nat.sub_zero, Int.toNat_zero, List.length_replicate, Bool.true_or, Bool.or_true, Bool.false_or, Bool.or_false, false_implies, implies_true] <;> rfl
  · rintro j fr ⟨g, c⟩ hj ⟨h0, h1, h5, hs, hn⟩
    obtain rfl : g = fun _ => none := by injection hs
    clear hs
    by_cases hlt : j < l.length
    · have hg : l[j]? = some l[j] := List.getElem?_eq_getElem hlt
      (repeat' (first | with_reducible refine agr_d (fun hc => ?_) (fun hc => ?_) | with_reducible refine agr_n (fun hc => ?_) (fun hc => ?_) | with_reducible refine acd_d (fun hc => ?_) (fun hc => ?_) | with_reducible refine acd_n (fun hc => ?_) (fun hc => ?_) | with_reducible refine dgr_d (fun hc => ?_) (fun hc => ?_) | with_reducible refine dgr_n (fun hc => ?_) (fun hc => ?_) | with_reducible refine dl_sound _ _ [] [] [] _ _ (fun _ h => absurd h List.not_mem_nil) ?_ | with_reducible refine conEnd_p (.inl rfl) ?_ | with_reducible refine conEnd_p (.inr rfl) ?_ | simp (disch := omega) only [go_sem, h0, h1, h5, hg, Nat.reduceAdd, Nat.reduceSub, Nat.reduceMul, Nat.reduceLeDiff, Nat.reduceLT, Nat.reduceEqDiff, Int.reduceLT, Int.reduceLE, Int.reduceToNat, Int.reduceAdd, Int.reduceSub, Int.reduceMul, Int.reduceEq, Int.reduceNeg, reduceCtorEq, true_and, and_true, Int.toNat_natCast, List.getElem?_map, Option.map_some, List.length_map, List.length_take, List.length_drop, List.length_append, Nat.sub_zero, Int.toNat_zero, List.length_replicate, Bool.true_or, Bool.or_true, Bool.false_or, Bool.or_false, false_implies, implies_true]))
      · rw [cachedB_cut hlt (.inl (by omega))]
      · rw [cachedB_cut hlt (.inl (by omega))]
      · rw [cachedB_cut hlt (.inl (by omega))]
      · refine awp_for j (fun k fr' st => ev fr' (.tmp 0) = .sl (l.map prV) fl ∧ ev fr' (.tmp 1) = .int .i64 n ∧ ev fr' (.tmp 5) = .int .i64 j ∧ ev fr' (.tmp 6) = .int .i64 k ∧ st = ⟨fun _ => none, st.c⟩ ∧ ∀ t (ht : t < l.length), t < k → l[t].n ≠ l[j].n) ?_ ?_
        · refine ⟨?_, ?_, ?_, ?_, rfl, fun t _ h => absurd h (by omega)⟩ <;> simp (disch := omega) only [go_sem, h0, h1, h5, Nat.reduceAdd, Nat.reduceSub, Nat.reduceMul, Nat.reduceLeDiff, Nat.reduceLT, Nat.reduceEqDiff, Int.reduceLT, Int.reduceLE, Int.reduceToNat, Int.reduceAdd, Int.reduceSub, Int.reduceMul, Int.reduceEq, Int.reduceNeg, reduceCtorEq, true_and, and_true, Int.toNat_natCast, List.getElem?_map, Option.map_some, List.length_map, List.length_take, List.length_drop, List.length_append, Nat.sub_zero, Int.toNat_zero, List.length_replicate, Bool.true_or, Bool.or_true, Bool.false_or, Bool.or_false, false_implies, implies_true] <;> rfl
        · rintro k fr ⟨g, c⟩ hk ⟨h0, h1, h5, h6, hs, hn2⟩
          obtain rfl : g = fun _ => none := by injection hs
          clear hs
          by_cases hkj : k < j
          · have hg2 : l[k]? = some l[k] := List.getElem?_eq_getElem (by omega)
            (repeat' (first | with_reducible refine agr_d (fun hc => ?_) (fun hc => ?_) | with_reducible refine agr_n (fun hc => ?_) (fun hc => ?_) | with_reducible refine acd_d (fun hc => ?_) (fun hc => ?_) | with_reducible refine acd_n (fun hc => ?_) (fun hc => ?_) | with_reducible refine dgr_d (fun hc => ?_) (fun hc => ?_) | with_reducible refine dgr_n (fun hc => ?_) (fun hc => ?_) | with_reducible refine dl_sound _ _ [] [] [] _ _ (fun _ h => absurd h List.not_mem_nil) ?_ | with_reducible refine conEnd_p (.inl rfl) ?_ | with_reducible refine conEnd_p (.inr rfl) ?_ | simp (disch := omega) only [go_sem, h0, h1, h5, h6, hg, hg2, Nat.reduceAdd, Nat.reduceSub, Nat.reduceMul, Nat.reduceLeDiff, Nat.reduceLT, Nat.reduceEqDiff, Int.reduceLT, Int.reduceLE, Int.reduceToNat, Int.reduceAdd, Int.reduceSub, Int.reduceMul, Int.reduceEq, Int.reduceNeg, reduceCtorEq, true_and, and_true, Int.toNat_natCast, List.getElem?_map, Option.map_some, List.length_map, List.length_take, List.length_drop, List.length_append, Nat.sub_zero, Int.toNat_zero, List.length_replicate, Bool.true_or, Bool.or_true, Bool.false_or, Bool.or_false, false_implies, implies_true]))
            · rw [cachedB_cut hlt (.inr ⟨k, by omega, hkj, hc⟩)]
            · refine ⟨k + 1, by omega, by omega, rfl, fun t ht htk => ?_⟩
              rcases Nat.lt_or_ge t k with h3 | h3
              · exact hn2 t ht h3
              · obtain rfl : t = k := by omega
                exact hc
          · (repeat' (first | with_reducible refine agr_d (fun hc => ?_) (fun hc => ?_) | with_reducible refine agr_n (fun hc => ?_) (fun hc => ?_) | with_reducible refine acd_d (fun hc => ?_) (fun hc => ?_) | with_reducible refine acd_n (fun hc => ?_) (fun hc => ?_) | with_reducible refine dgr_d (fun hc => ?_) (fun hc => ?_) | with_reducible refine dgr_n (fun hc => ?_) (fun hc => ?_) | with_reducible refine dl_sound _ _ [] [] [] _ _ (fun _ h => absurd h List.not_mem_nil) ?_ | with_reducible refine conEnd_p (.inl rfl) ?_ | with_reducible refine conEnd_p (.inr rfl) ?_ | simp (disch := omega) only [go_sem, h0, h1, h5, h6, Nat.reduceAdd, Nat.reduceSub, Nat.reduceMul, Nat.reduceLeDiff, Nat.reduceLT, Nat.reduceEqDiff, Int.reduceLT, Int.reduceLE, Int.reduceToNat, Int.reduceAdd, Int.reduceSub, Int.reduceMul, Int.reduceEq, Int.reduceNeg, reduceCtorEq, true_and, and_true, Int.toNat_natCast, List.getElem?_map, Option.map_some, List.length_map, List.length_take, List.length_drop, List.length_append, Nat.sub_zero, Int.toNat_zero, List.length_replicate, Bool.true_or, Bool.or_true, Bool.false_or, Bool.or_false, false_implies, implies_true]))
            exact ⟨j + 1, by omega, by omega, rfl, cachedP_succ hn hlt (by omega) fun t ht htj => hn2 t ht (by omega)⟩
    · (repeat' (first | with_reducible refine agr_d (fun hc => ?_) (fun hc => ?_) | with_reducible refine agr_n (fun hc => ?_) (fun hc => ?_) | with_reducible refine acd_d (fun hc => ?_) (fun hc => ?_) | with_reducible refine acd_n (fun hc => ?_) (fun hc => ?_) | with_reducible refine dgr_d (fun hc => ?_) (fun hc => ?_) | with_reducible refine dgr_n (fun hc => ?_) (fun hc => ?_) | with_reducible refine dl_sound _ _ [] [] [] _ _ (fun _ h => absurd h List.not_mem_nil) ?_ | with_reducible refine conEnd_p (.inl rfl) ?_ | with_reducible refine conEnd_p (.inr rfl) ?_ | simp (disch := omega) only [go_sem, h0, h1, h5, Nat.reduceAdd, Nat.reduceSub, Nat.reduceMul, Nat.reduceLeDiff, Nat.reduceLT, Nat.reduceEqDiff, Int.reduceLT, Int.reduceLE, Int.reduceToNat, Int.reduceAdd, Int.reduceSub, Int.reduceMul, Int.reduceEq, Int.reduceNeg, reduceCtorEq, true_and, and_true, Int.toNat_natCast, List.getElem?_map, Option.map_some, List.length_map, List.length_take, List.length_drop, List.length_append, Nat.sub_zero, Int.toNat_zero, List.length_replicate, Bool.true_or, Bool.or_true, Bool.false_or, Bool.or_false, false_implies, implies_true]))
      rw [(cachedB_P n l).2 (fun t ht _ => hn t ht (by omega))]
end Go.Proofs.Ytllijcnbjbfabaa

namespace Go.Proofs.Ytllijcnbjbfabaa
open Go.RowKit
set_option linter.unusedSimpArgs false
set_option linter.unusedVariables false

theorem fencedB_yes {d : Dev} {keys : List Int} {j : Nat} (hj : j < keys.length) (h : keys[j] < 1 ∨ ∃ k, ∃ (hk : k < d.fen.length), d.fen[k] = keys[j]) : fencedB d keys = true := by
  unfold fencedB
  rw [List.any_eq_true]
  refine ⟨keys[j], List.getElem_mem hj, ?_⟩
  rcases h with h | ⟨k, hk, h⟩
  · simp [h]
  · rw [Bool.or_eq_true, List.any_eq_true]
    exact .inr ⟨d.fen[k], List.getElem_mem hk, by simpa using h⟩
def notF (d : Dev) (keys : List Int) (j : Nat) : Prop := ∀ t (h : t < keys.length), t < j → ¬ keys[t] < 1 ∧ ∀ k (hk : k < d.fen.length), d.fen[k] ≠ keys[t]
theorem fencedB_no {d : Dev} {keys : List Int} (h : notF d keys keys.length) : fencedB d keys = false := by
  unfold fencedB
  rw [List.any_eq_false]
  intro x hx
  obtain ⟨j, hj, rfl⟩ := List.getElem_of_mem hx
  obtain ⟨h1, h2⟩ := h j hj hj
  rw [Bool.or_eq_true, List.any_eq_true]
  rintro (h3 | ⟨y, hy, h3⟩)
  · simp at h3; omega
  · obtain ⟨k, hk, rfl⟩ := List.getElem_of_mem hy
    exact h2 k hk (by simpa using h3)
theorem notF_succ {d : Dev} {keys : List Int} {j : Nat} (h : notF d keys j) (hj : j < keys.length) (h1 : ¬ keys[j] < 1) (h2 : ∀ k (hk : k < d.fen.length), d.fen[k] ≠ keys[j]) : notF d keys (j + 1) := fun t ht htj => by
  rcases Nat.lt_or_ge t j with h3 | h3
  · exact h t ht h3
  · obtain rfl : t = j := by omega
    exact ⟨h1, h2⟩
set_option maxRecDepth 100000 in
set_option maxHeartbeats 4000000 in
theorem Fenced_con (S C K N : V) (d : Dev) (fl fl' : Bool) (keys : List Int) (hl : d.fen.length ≤ 1000000000) (hl' : keys.length ≤ 1000000000) :
    Con Try.prog 38 [.agg [S, C, K, N, .sl (d.fen.map inV) fl], .sl (keys.map inV) fl'] (· = .bool (fencedB d keys)) := by
  refine con_of_awp Try.func38 rfl mixed (by decide) rfl (by kernel_rfl) rfl ?_
  (repeat' (first | with_reducible refine agr_d (fun hc => ?_) (fun hc => ?_) | with_reducible refine agr_n (fun hc => ?_) (fun hc => ?_) | with_reducible refine acd_d (fun hc => ?_) (fun hc => ?_) | with_reducible refine acd_n (fun hc => ?_) (fun hc => ?_) | with_reducible refine dgr_d (fun hc => ?_) (fun hc => ?_) | with_reducible refine dgr_n (fun hc => ?_) (fun hc => ?_) | with_reducible refine dl_sound _ _ [] [] [] _ _ (fun _ h => absurd h List.not_mem_nil) ?_ | simp (disch := omega) only [go_sem, Nat.reduceAdd, Nat.reduceSub, Nat.reduceMul, Nat.reduceLeDiff, Nat.reduceLT, Nat.reduceEqDiff, Int.reduceLT, Int.reduceLE, Int.reduceToNat, Int.reduceAdd, Int.reduceSub, Int.reduceMul, Int.reduceEq, Int.reduceNeg, reduceCtorEq, true_and, and_true, Int.toNat_natCast, List.getElem?_map, Option.map_some, List.length_map, List.length_take, List.length_drop, List.length_append, Nat.sub_zero, Int.toNat_zero, List.length_replicate, Bool.true_or, Bool.or_true, Bool.false_or, Bool.or_false, false_implies, implies_true]))
  refine awp_for keys.length (fun j fr st => ev fr (.tmp 1) = .sl (keys.map inV) fl' ∧ ev fr (.tmp 2) = .ptr 0 0 0 ∧ ev fr (.tmp 5) = .int .i64 j ∧ 1 ≤ st.c ∧ st.get 0 = some ⟨[[S, C, K, N, .sl (d.fen.map inV) fl]], 5, 0⟩ ∧ notF d keys j) ?_ ?_
  · refine ⟨?_, ?_, ?_, ?_, ?_, fun t _ h => absurd h (by omega)⟩  <;> simp (disch := omega) only [go_sem, Nat.reduceAdd, Nat.reduceSub, Nat.reduceMul, Nat.reduceLeDiff, Nat.reduceLT, Nat.reduceEqDiff, Int.reduceLT, Int.reduceLE, Int.reduceToNat, Int.reduceAdd, Int.reduceSub, Int.reduceMul, Int.reduceEq, Int.reduceNeg, reduceCtorEq, true_and, and_true, Int.toNat_natCast, List.getElem?_map, Option.map_some, List.length_map, List.length_take, List.length_drop, List.length_append, Nat.sub_zero, Int.toNat_zero, List.length_replicate, Bool.true_or, Bool.or_true, Bool.false_or, Bool.or_false, false_implies, implies_true] <;> rfl
  · rintro j fr st hj ⟨h1, h2, h5, hc1, hb, hn⟩
    by_cases hlt : j < keys.length
    · have hg : keys[j]? = some keys[j] := List.getElem?_eq_getElem hlt
      (repeat' (first | with_reducible refine agr_d (fun hc => ?_) (fun hc => ?_) | with_reducible refine agr_n (fun hc => ?_) (fun hc => ?_) | with_reducible refine acd_d (fun hc => ?_) (fun hc => ?_) | with_reducible refine acd_n (fun hc => ?_) (fun hc => ?_) | with_reducible refine dgr_d (fun hc => ?_) (fun hc => ?_) | with_reducible refine dgr_n (fun hc => ?_) (fun hc => ?_) | with_reducible refine dl_sound _ _ [] [] [] _ _ (fun _ h => absurd h List.not_mem_nil) ?_ | with_reducible refine conEnd_p (.inl rfl) ?_ | with_reducible refine conEnd_p (.inr rfl) ?_ | simp (disch := omega) only [go_sem, h1, h2, h5, hg, hb, Nat.reduceAdd, Nat.reduceSub, Nat.reduceMul, Nat.reduceLeDiff, Nat.reduceLT, Nat.reduceEqDiff, Int.reduceLT, Int.reduceLE, Int.reduceToNat, Int.reduceAdd, Int.reduceSub, Int.reduceMul, Int.reduceEq, Int.reduceNeg, reduceCtorEq, true_and, and_true, Int.toNat_natCast, List.getElem?_map, Option.map_some, List.length_map, List.length_take, List.length_drop, List.length_append, Nat.sub_zero, Int.toNat_zero, List.length_replicate, Bool.true_or, Bool.or_true, Bool.false_or, Bool.or_false, false_implies, implies_true]))
      · rw [fencedB_yes hlt (.inl hc)]
      · refine awp_for d.fen.length (fun k fr' st => ev fr' (.tmp 1) = .sl (keys.map inV) fl' ∧ ev fr' (.tmp 2) = .ptr 0 0 0 ∧ ev fr' (.tmp 5) = .int .i64 j ∧ ev fr' (.tmp 6) = .int .i64 k ∧ 1 ≤ st.c ∧ st.get 0 = some ⟨[[S, C, K, N, .sl (d.fen.map inV) fl]], 5, 0⟩ ∧ ∀ t (ht : t < d.fen.length), t < k → d.fen[t] ≠ keys[j]) ?_ ?_
        · refine ⟨?_, ?_, ?_, ?_, hc1, hb, fun t _ h => absurd h (by omega)⟩ <;> simp (disch := omega) only [go_sem, h1, h2, h5, Nat.reduceAdd, Nat.reduceSub, Nat.reduceMul, Nat.reduceLeDiff, Nat.reduceLT, Nat.reduceEqDiff, Int.reduceLT, Int.reduceLE, Int.reduceToNat, Int.reduceAdd, Int.reduceSub, Int.reduceMul, Int.reduceEq, Int.reduceNeg, reduceCtorEq, true_and, and_true, Int.toNat_natCast, List.getElem?_map, Option.map_some, List.length_map, List.length_take, List.length_drop, List.length_append, Nat.sub_zero, Int.toNat_zero, List.length_replicate, Bool.true_or, Bool.or_true, Bool.false_or, Bool.or_false, false_implies, implies_true] <;> rfl
        · rintro k fr st hk ⟨h1, h2, h5, h6, hc1, hb, hn2⟩
          by_cases hkj : k < d.fen.length
          · have hg2 : d.fen[k]? = some d.fen[k] := List.getElem?_eq_getElem hkj
            (repeat' (first | with_reducible refine agr_d (fun hc => ?_) (fun hc => ?_) | with_reducible refine agr_n (fun hc => ?_) (fun hc => ?_) | with_reducible refine acd_d (fun hc => ?_) (fun hc => ?_) | with_reducible refine acd_n (fun hc => ?_) (fun hc => ?_) | with_reducible refine dgr_d (fun hc => ?_) (fun hc => ?_) | with_reducible refine dgr_n (fun hc => ?_) (fun hc => ?_) | with_reducible refine dl_sound _ _ [] [] [] _ _ (fun _ h => absurd h List.not_mem_nil) ?_ | with_reducible refine conEnd_p (.inl rfl) ?_ | with_reducible refine conEnd_p (.inr rfl) ?_ | simp (disch := omega) only [go_sem, h1, h2, h5, h6, hg, hg2, hb, Nat.reduceAdd, Nat.reduceSub, Nat.reduceMul, Nat.reduceLeDiff, Nat.reduceLT, Nat.reduceEqDiff, Int.reduceLT, Int.reduceLE, Int.reduceToNat, Int.reduceAdd, Int.reduceSub, Int.reduceMul, Int.reduceEq, Int.reduceNeg, reduceCtorEq, true_and, and_true, Int.toNat_natCast, List.getElem?_map, Option.map_some, List.length_map, List.length_take, List.length_drop, List.length_append, Nat.sub_zero, Int.toNat_zero, List.length_replicate, Bool.true_or, Bool.or_true, Bool.false_or, Bool.or_false, false_implies, implies_true]))
            · rw [fencedB_yes hlt (.inr ⟨k, hkj, hc⟩)]
            · refine ⟨k + 1, by omega, by omega, rfl, by omega, fun t ht htk => ?_⟩
              rcases Nat.lt_or_ge t k with h3 | h3
              · exact hn2 t ht h3
              · obtain rfl : t = k := by omega
                exact hc
          · (repeat' (first | with_reducible refine agr_d (fun hc => ?_) (fun hc => ?_) | with_reducible refine agr_n (fun hc => ?_) (fun hc => ?_) | with_reducible refine acd_d (fun hc => ?_) (fun hc => ?_) | with_reducible refine acd_n (fun hc => ?_) (fun hc => ?_) | with_reducible refine dgr_d (fun hc => ?_) (fun hc => ?_) | with_reducible refine dgr_n (fun hc => ?_) (fun hc => ?_) | with_reducible refine dl_sound _ _ [] [] [] _ _ (fun _ h => absurd h List.not_mem_nil) ?_ | with_reducible refine conEnd_p (.inl rfl) ?_ | with_reducible refine conEnd_p (.inr rfl) ?_ | simp (disch := omega) only [go_sem, h1, h2, h5, h6, hb, Nat.reduceAdd, Nat.reduceSub, Nat.reduceMul, Nat.reduceLeDiff, Nat.reduceLT, Nat.reduceEqDiff, Int.reduceLT, Int.reduceLE, Int.reduceToNat, Int.reduceAdd, Int.reduceSub, Int.reduceMul, Int.reduceEq, Int.reduceNeg, reduceCtorEq, true_and, and_true, Int.toNat_natCast, List.getElem?_map, Option.map_some, List.length_map, List.length_take, List.length_drop, List.length_append, Nat.sub_zero, Int.toNat_zero, List.length_replicate, Bool.true_or, Bool.or_true, Bool.false_or, Bool.or_false, false_implies, implies_true]))
            exact ⟨j + 1, by omega, by omega, rfl, by omega, notF_succ hn hlt (by omega) fun t ht => hn2 t ht (by omega)⟩
    · (repeat' (first | with_reducible refine agr_d (fun hc => ?_) (fun hc => ?_) | with_reducible refine agr_n (fun hc => ?_) (fun hc => ?_) | with_reducible refine acd_d (fun hc => ?_) (fun hc => ?_) | with_reducible refine acd_n (fun hc => ?_) (fun hc => ?_) | with_reducible refine dgr_d (fun hc => ?_) (fun hc => ?_) | with_reducible refine dgr_n (fun hc => ?_) (fun hc => ?_) | with_reducible refine dl_sound _ _ [] [] [] _ _ (fun _ h => absurd h List.not_mem_nil) ?_ | with_reducible refine conEnd_p (.inl rfl) ?_ | with_reducible refine conEnd_p (.inr rfl) ?_ | simp (disch := omega) only [go_sem, h1, h2, h5, Nat.reduceAdd, Nat.reduceSub, Nat.reduceMul, Nat.reduceLeDiff, Nat.reduceLT, Nat.reduceEqDiff, Int.reduceLT, Int.reduceLE, Int.reduceToNat, Int.reduceAdd, Int.reduceSub, Int.reduceMul, Int.reduceEq, Int.reduceNeg, reduceCtorEq, true_and, and_true, Int.toNat_natCast, List.getElem?_map, Option.map_some, List.length_map, List.length_take, List.length_drop, List.length_append, Nat.sub_zero, Int.toNat_zero, List.length_replicate, Bool.true_or, Bool.or_true, Bool.false_or, Bool.or_false, false_implies, implies_true]))
      rw [fencedB_no (fun t ht _ => hn t ht (by omega))]
end Go.Proofs.Ytllijcnbjbfabaa

namespace Go.Proofs.Ytllijcnbjbfabaa
open Go.RowKit
set_option linter.unusedSimpArgs false
set_option linter.unusedVariables false

theorem given_c (d : Dev) (key : Int) (hk : key ≤ 9223372036854775807) : PCon Try.prog 37 [devV d, .int .i64 key] (.bool (givenB d key)) := by
  refine ⟨?_, by (simp only [List.nil_append, List.cons_append, List.append_nil, List.forall_mem_cons, List.not_mem_nil, false_implies, implies_true, and_true, true_and, plain_agg, plain_tup, plain_int, plain_bool, plain_str, plain_nilp, plain_nilfn, plain_undef, plain_dev, plain_pr, plain_tx, plain_in, plain_cc])⟩
  have := given_con (.sl (d.s.map txV) false) (.sl (d.cache.map ccV) false) (.sl (d.fen.map inV) false) (d.keys.map inV) false d.next key hk
  have e : givenB d key = (decide (16 ≤ key) && decide (key / 16 < d.next) && decide (key % 16 < ((d.keys.map inV).length : Int))) := by
    unfold givenB
    rw [List.length_map]
    by_cases h1 : 16 ≤ key <;> by_cases h2 : key / 16 < d.next <;> by_cases h3 : key % 16 < (d.keys.length : Int) <;> simp [h1, h2, h3]
  rw [e]
  exact this
theorem cached_c (l : List Pr) (n : Int) (hl : l.length ≤ 1000000) : PCon Try.prog 72 [.sl (l.map prV) false, .int .i64 n] (.bool (cachedB n [] l)) := ⟨cached_con l false n (by omega), by (simp only [List.nil_append, List.cons_append, List.append_nil, List.forall_mem_cons, List.not_mem_nil, false_implies, implies_true, and_true, true_and, plain_agg, plain_tup, plain_int, plain_bool, plain_str, plain_nilp, plain_nilfn, plain_undef, plain_dev, plain_pr, plain_tx, plain_in, plain_cc])⟩
theorem keysB_iff (d : Dev) : ∀ (l : List Int) (i : Nat), keysB d i l = true ↔ ∀ t (h : t < l.length), cachedB d.s.length [] (d.cache.getD (i + t) []) = true ∧ (l[t] = 0 ∨ (givenB d l[t] = true ∧ l[t] % 16 = ((i + t : Nat) : Int)))
  | [], i => by simp [keysB]
  | k :: l, i => by
    simp only [keysB, Bool.and_eq_true, Bool.or_eq_true, decide_eq_true_eq]
    rw [keysB_iff d l (i + 1)]
    constructor
    · rintro ⟨⟨h1, h2⟩, h3⟩ t ht
      cases t with
      | zero => exact ⟨h1, h2⟩
      | succ t =>
        have := h3 t (by simpa using ht)
        rw [show i + (t + 1) = i + 1 + t by omega]
        exact this
    · intro h
      refine ⟨h 0 (by simp), fun t ht => ?_⟩
      have := h (t + 1) (by simpa using ht)
      rw [show i + (t + 1) = i + 1 + t by omega] at this
      exact this
def fenP (d : Dev) (j : Nat) : Prop := ∀ t (h : t < d.fen.length), t < j → givenB d d.fen[t] = true ∧ ∀ s (hs : s < d.fen.length), s + 1 = t → d.fen[s] < d.fen[t]
theorem fenB_iff (d : Dev) : ∀ (l : List Int) (q : Option Int), fenB d q l = true ↔ ∀ t (h : t < l.length), givenB d l[t] = true ∧ (∀ x, t = 0 → q = some x → x < l[t]) ∧ ∀ s (hs : s < l.length), s + 1 = t → l[s] < l[t]
  | [], q => by simp [fenB]
  | k :: l, q => by
    simp only [fenB, Bool.and_eq_true]
    rw [fenB_iff d l (some k)]
    constructor
    · rintro ⟨⟨h1, h2⟩, h3⟩ t ht
      cases t with
      | zero => exact ⟨h1, fun x _ e => by subst e; simpa using h2, fun s _ h => by omega⟩
      | succ t =>
        obtain ⟨g1, g2, g3⟩ := h3 t (by simpa using ht)
        refine ⟨g1, fun _ h => by omega, fun s hs hst => ?_⟩
        cases s with
        | zero => exact g2 k (by omega) rfl
        | succ s => exact g3 s (by simpa using hs) (by omega)
    · intro h
      refine ⟨⟨(h 0 (by simp)).1, ?_⟩, fun t ht => ?_⟩
      · cases q with
        | none => rfl
        | some x => exact decide_eq_true ((h 0 (by simp)).2.1 x rfl rfl)
      · obtain ⟨g1, g2, g3⟩ := h (t + 1) (by simpa using ht)
        refine ⟨g1, fun x h0 e => ?_, fun s hs hst => g3 (s + 1) (by simpa using hs) (by omega)⟩
        injection e with e
        subst e
        subst h0
        exact g3 0 (by simp) rfl
theorem fenB_P (d : Dev) : fenB d none d.fen = true ↔ fenP d d.fen.length := by
  rw [fenB_iff]
  exact ⟨fun h t ht _ => ⟨(h t ht).1, (h t ht).2.2⟩, fun h t ht => ⟨(h t ht ht).1, fun _ _ e => (by cases e), (h t ht ht).2⟩⟩
/-- a device that may be -/
structure MayD (d : Dev) : Prop where
  s0 : 1 ≤ d.s.length
  k0 : 1 ≤ d.keys.length
  k1 : d.keys.length ≤ 16
  c : d.cache.length = d.keys.length
  n0 : 1 ≤ d.next
  n1 : d.next ≤ 68719476736
  s : ∀ t (h : t < d.s.length), d.s[t].size ≤ 512
  ca : ∀ t (h : t < d.keys.length), cachedB d.s.length [] (d.cache.getD t []) = true
  ke : ∀ t (h : t < d.keys.length), d.keys[t] = 0 ∨ (givenB d d.keys[t] = true ∧ d.keys[t] % 16 = (t : Int))
  f : fenP d d.fen.length
theorem checkB_iff (d : Dev) : checkB d = true ↔ MayD d := by
  unfold checkB
  simp only [Bool.and_eq_true, decide_eq_true_eq, List.all_eq_true]
  rw [keysB_iff, fenB_P]
  constructor
  · rintro ⟨⟨⟨⟨h1, h2, h3, h4, h5, h6⟩, h7⟩, h8⟩, h9⟩
    exact ⟨h1, h2, h3, h4, h5, h6, fun t h => h7 _ (List.getElem_mem h), fun t h => by simpa using (h8 t h).1, fun t h => by simpa using (h8 t h).2, h9⟩
  · intro h
    refine ⟨⟨⟨⟨h.s0, h.k0, h.k1, h.c, h.n0, h.n1⟩, fun x hx => ?_⟩, fun t ht => ?_⟩, h.f⟩
    · obtain ⟨t, ht, rfl⟩ := List.getElem_of_mem hx
      exact h.s t ht
    · rw [Nat.zero_add]
      exact ⟨h.ca t ht, h.ke t ht⟩
theorem checkB_no {d : Dev} (h : ¬ MayD d) : checkB d = false := by
  cases hb : checkB d with
  | false => rfl
  | true => exact absurd ((checkB_iff d).1 hb) h
end Go.Proofs.Ytllijcnbjbfabaa

namespace Go.Proofs.Ytllijcnbjbfabaa
open Go.RowKit
set_option linter.unusedSimpArgs false
set_option linter.unusedVariables false

def chk (d : Dev) : Int := if checkB d = true then 0 else 2
theorem chk_no {d : Dev} (h : ¬ MayD d) : chk d = 2 := by rw [chk, checkB_no h]; rfl
theorem chk_yes {d : Dev} (h : MayD d) : chk d = 0 := by rw [chk, (checkB_iff d).2 h]; rfl
abbrev devB (d : Dev) : Blk' := ⟨[[.sl (d.s.map txV) false, .sl (d.cache.map ccV) false, .sl (d.keys.map inV) false, .int .i64 d.next, .sl (d.fen.map inV) false]], 5, 0⟩
set_option maxRecDepth 100000 in
set_option maxHeartbeats 16000000 in
theorem Check_con (d : Dev) (hd : DevOk d) : Con Try.prog 36 [devV d] (· = .int .i64 (chk d)) := by
  refine con_of_awp Try.func36 rfl mixed (by decide) rfl (by kernel_rfl) rfl ?_
  obtain ⟨q1, q2, q3, q4, q5, q6, q7, q8, q9⟩ := hd
  (repeat' (first | with_reducible refine agr_d (fun hc => ?_) (fun hc => ?_) | with_reducible refine agr_n (fun hc => ?_) (fun hc => ?_) | with_reducible refine acd_d (fun hc => ?_) (fun hc => ?_) | with_reducible refine acd_n (fun hc => ?_) (fun hc => ?_) | with_reducible refine dgr_d (fun hc => ?_) (fun hc => ?_) | with_reducible refine dgr_n (fun hc => ?_) (fun hc => ?_) | with_reducible refine dl_sound _ _ [] [] [] _ _ (fun _ h => absurd h List.not_mem_nil) ?_ | with_reducible refine conEnd_p (.inl rfl) ?_ | with_reducible refine conEnd_p (.inr rfl) ?_ | simp (disch := omega) only [go_sem, devV, Nat.reduceAdd, Nat.reduceSub, Nat.reduceMul, Nat.reduceLeDiff, Nat.reduceLT, Nat.reduceEqDiff, Int.reduceLT, Int.reduceLE, Int.reduceToNat, Int.reduceAdd, Int.reduceSub, Int.reduceMul, Int.reduceEq, Int.reduceNeg, reduceCtorEq, true_and, and_true, Int.toNat_natCast, List.getElem?_map, Option.map_some, List.length_map, List.length_take, List.length_drop, List.length_append, Nat.sub_zero, Int.toNat_zero, List.length_replicate, Bool.true_or, Bool.or_true, Bool.false_or, Bool.or_false, false_implies, implies_true]))
  all_goals (first | (rw [chk_no (fun h => by have := h.s0; have := h.k0; have := h.k1; have := h.c; have := h.n0; have := h.n1; omega)]; done) | skip)
  refine awp_for d.s.length (fun j fr st => ev fr (.tmp 1) = .ptr 0 0 0 ∧ ev fr (.tmp 3) = .int .i64 j ∧ 1 ≤ st.c ∧ st.get 0 = some (devB d) ∧ ∀ t (h : t < d.s.length), t < j → d.s[t].size ≤ 512) ?_ ?_
  · refine ⟨?_, ?_, ?_, ?_, fun t _ h => absurd h (by omega)⟩ <;> simp (disch := omega) only [go_sem, Nat.reduceAdd, Nat.reduceSub, Nat.reduceMul, Nat.reduceLeDiff, Nat.reduceLT, Nat.reduceEqDiff, Int.reduceLT, Int.reduceLE, Int.reduceToNat, Int.reduceAdd, Int.reduceSub, Int.reduceMul, Int.reduceEq, Int.reduceNeg, reduceCtorEq, true_and, and_true, Int.toNat_natCast, List.getElem?_map, Option.map_some, List.length_map, List.length_take, List.length_drop, List.length_append, Nat.sub_zero, Int.toNat_zero, List.length_replicate, Bool.true_or, Bool.or_true, Bool.false_or, Bool.or_false, false_implies, implies_true] <;> rfl
  rintro j fr st hj ⟨h1, h3, hc1, hb, hs⟩
  by_cases hlt : j < d.s.length
  · have hg : d.s[j]? = some d.s[j] := List.getElem?_eq_getElem hlt
    (repeat' (first | with_reducible refine agr_d (fun hc => ?_) (fun hc => ?_) | with_reducible refine agr_n (fun hc => ?_) (fun hc => ?_) | with_reducible refine acd_d (fun hc => ?_) (fun hc => ?_) | with_reducible refine acd_n (fun hc => ?_) (fun hc => ?_) | with_reducible refine dgr_d (fun hc => ?_) (fun hc => ?_) | with_reducible refine dgr_n (fun hc => ?_) (fun hc => ?_) | with_reducible refine dl_sound _ _ [] [] [] _ _ (fun _ h => absurd h List.not_mem_nil) ?_ | with_reducible refine conEnd_p (.inl rfl) ?_ | with_reducible refine conEnd_p (.inr rfl) ?_ | simp (disch := omega) only [go_sem, h1, h3, hg, hb, devB, Nat.reduceAdd, Nat.reduceSub, Nat.reduceMul, Nat.reduceLeDiff, Nat.reduceLT, Nat.reduceEqDiff, Int.reduceLT, Int.reduceLE, Int.reduceToNat, Int.reduceAdd, Int.reduceSub, Int.reduceMul, Int.reduceEq, Int.reduceNeg, reduceCtorEq, true_and, and_true, Int.toNat_natCast, List.getElem?_map, Option.map_some, List.length_map, List.length_take, List.length_drop, List.length_append, Nat.sub_zero, Int.toNat_zero, List.length_replicate, Bool.true_or, Bool.or_true, Bool.false_or, Bool.or_false, false_implies, implies_true]))
    · rw [chk_no (fun h => by have := h.s j hlt; omega)]
    · refine ⟨j + 1, by omega, by omega, rfl, by omega, fun t ht htj => ?_⟩
      rcases Nat.lt_or_ge t j with h4 | h4
      · exact hs t ht h4
      · obtain rfl : t = j := by omega
        omega
  (repeat' (first | with_reducible refine agr_d (fun hc => ?_) (fun hc => ?_) | with_reducible refine agr_n (fun hc => ?_) (fun hc => ?_) | with_reducible refine acd_d (fun hc => ?_) (fun hc => ?_) | with_reducible refine acd_n (fun hc => ?_) (fun hc => ?_) | with_reducible refine dgr_d (fun hc => ?_) (fun hc => ?_) | with_reducible refine dgr_n (fun hc => ?_) (fun hc => ?_) | with_reducible refine dl_sound _ _ [] [] [] _ _ (fun _ h => absurd h List.not_mem_nil) ?_ | with_reducible refine conEnd_p (.inl rfl) ?_ | with_reducible refine conEnd_p (.inr rfl) ?_ | simp (disch := omega) only [go_sem, h1, h3, hb, devB, Nat.reduceAdd, Nat.reduceSub, Nat.reduceMul, Nat.reduceLeDiff, Nat.reduceLT, Nat.reduceEqDiff, Int.reduceLT, Int.reduceLE, Int.reduceToNat, Int.reduceAdd, Int.reduceSub, Int.reduceMul, Int.reduceEq, Int.reduceNeg, reduceCtorEq, true_and, and_true, Int.toNat_natCast, List.getElem?_map, Option.map_some, List.length_map, List.length_take, List.length_drop, List.length_append, Nat.sub_zero, Int.toNat_zero, List.length_replicate, Bool.true_or, Bool.or_true, Bool.false_or, Bool.or_false, false_implies, implies_true]))
  refine awp_for d.keys.length (fun j fr st => ev fr (.tmp 1) = .ptr 0 0 0 ∧ ev fr (.tmp 4) = .int .i64 j ∧ 1 ≤ st.c ∧ st.get 0 = some (devB d) ∧ ∀ t (h : t < d.keys.length), t < j → cachedB d.s.length [] (d.cache.getD t []) = true ∧ (d.keys[t] = 0 ∨ (givenB d d.keys[t] = true ∧ d.keys[t] % 16 = (t : Int)))) ?_ ?_
  · refine ⟨?_, ?_, ?_, ?_, fun t _ h => absurd h (by omega)⟩ <;> (try simp (disch := omega) only [go_sem, h1, Nat.reduceAdd, Nat.reduceSub, Nat.reduceMul, Nat.reduceLeDiff, Nat.reduceLT, Nat.reduceEqDiff, Int.reduceLT, Int.reduceLE, Int.reduceToNat, Int.reduceAdd, Int.reduceSub, Int.reduceMul, Int.reduceEq, Int.reduceNeg, reduceCtorEq, true_and, and_true, Int.toNat_natCast, List.getElem?_map, Option.map_some, List.length_map, List.length_take, List.length_drop, List.length_append, Nat.sub_zero, Int.toNat_zero, List.length_replicate, Bool.true_or, Bool.or_true, Bool.false_or, Bool.or_false, false_implies, implies_true]) <;> first | rfl | assumption
  clear h1 h3 hc1 hb hj
  rintro j' fr st hj' ⟨h1, h4, hc1, hb, hk⟩
  by_cases hlt' : j' < d.keys.length
  · have hg : d.keys[j']? = some d.keys[j'] := List.getElem?_eq_getElem hlt'
    have hlc : j' < d.cache.length := by omega
    have hg2 : d.cache[j']? = some d.cache[j'] := List.getElem?_eq_getElem hlc
    have hgd : d.cache.getD j' [] = d.cache[j'] := by rw [List.getD_eq_getElem?_getD, hg2]; rfl
    have hkr := q5 j' hlt'
    have hcc := cached_c d.cache[j'] d.s.length (q3 j' hlc)
    have hgc := given_c d d.keys[j'] (by omega)
    have hnext : (d.keys[j'] = 0 ∨ (givenB d d.keys[j'] = true ∧ d.keys[j'] % 16 = (j' : Int))) → cachedB d.s.length [] d.cache[j'] = true → ∀ t (h : t < d.keys.length), t < j' + 1 → cachedB d.s.length [] (d.cache.getD t []) = true ∧ (d.keys[t] = 0 ∨ (givenB d d.keys[t] = true ∧ d.keys[t] % 16 = (t : Int))) := fun g1 g2 t ht htj => by
      rcases Nat.lt_or_ge t j' with h5 | h5
      · exact hk t ht h5
      · obtain rfl : t = j' := by omega
        exact ⟨by rw [hgd]; exact g2, g1⟩
    have hg16 : givenB d d.keys[j'] = true → 16 ≤ d.keys[j'] := fun h => (of_decide_eq_true h).1
    have hno : cachedB d.s.length [] d.cache[j'] = false ∨ ¬ (d.keys[j'] = 0 ∨ (givenB d d.keys[j'] = true ∧ d.keys[j'] % 16 = (j' : Int))) → ¬ MayD d := fun h hm => by
      rcases h with h | h
      · have := hm.ca j' hlt'
        rw [hgd, h] at this
        cases this
      · exact h (hm.ke j' hlt')
    cases hcb : cachedB d.s.length [] d.cache[j'] with
    | false =>
      rw [hcb] at hcc
      (repeat' (first | with_reducible refine agr_d (fun hc => ?_) (fun hc => ?_) | with_reducible refine agr_n (fun hc => ?_) (fun hc => ?_) | with_reducible refine acd_d (fun hc => ?_) (fun hc => ?_) | with_reducible refine acd_n (fun hc => ?_) (fun hc => ?_) | with_reducible refine dgr_d (fun hc => ?_) (fun hc => ?_) | with_reducible refine dgr_n (fun hc => ?_) (fun hc => ?_) | with_reducible refine dl_sound _ _ [] [] [] _ _ (fun _ h => absurd h List.not_mem_nil) ?_ | with_reducible refine conEnd_p (.inl rfl) ?_ | with_reducible refine conEnd_p (.inr rfl) ?_ | with_reducible refine dc1_p hcc ?_ | with_reducible refine ac1_p hcc ?_ | simp (disch := omega) only [go_sem, h1, h4, hg, hg2, hb, devB, Nat.reduceAdd, Nat.reduceSub, Nat.reduceMul, Nat.reduceLeDiff, Nat.reduceLT, Nat.reduceEqDiff, Int.reduceLT, Int.reduceLE, Int.reduceToNat, Int.reduceAdd, Int.reduceSub, Int.reduceMul, Int.reduceEq, Int.reduceNeg, reduceCtorEq, true_and, and_true, Int.toNat_natCast, List.getElem?_map, Option.map_some, List.length_map, List.length_take, List.length_drop, List.length_append, Nat.sub_zero, Int.toNat_zero, List.length_replicate, Bool.true_or, Bool.or_true, Bool.false_or, Bool.or_false, false_implies, implies_true]))
      rw [chk_no (hno (.inl hcb))]
    | true =>
      rw [hcb] at hcc
      cases hgb : givenB d d.keys[j'] with
      | false =>
        rw [hgb] at hgc
        (repeat' (first | with_reducible refine agr_d (fun hc => ?_) (fun hc => ?_) | with_reducible refine agr_n (fun hc => ?_) (fun hc => ?_) | with_reducible refine acd_d (fun hc => ?_) (fun hc => ?_) | with_reducible refine acd_n (fun hc => ?_) (fun hc => ?_) | with_reducible refine dgr_d (fun hc => ?_) (fun hc => ?_) | with_reducible refine dgr_n (fun hc => ?_) (fun hc => ?_) | with_reducible refine dl_sound _ _ [] [] [] _ _ (fun _ h => absurd h List.not_mem_nil) ?_ | with_reducible refine conEnd_p (.inl rfl) ?_ | with_reducible refine conEnd_p (.inr rfl) ?_ | with_reducible refine dc1_p hcc ?_ | with_reducible refine ac1_p hcc ?_ | with_reducible refine dc1_p hgc ?_ | with_reducible refine ac1_p hgc ?_ | simp (disch := omega) only [go_sem, h1, h4, hg, hg2, hb, devB, Nat.reduceAdd, Nat.reduceSub, Nat.reduceMul, Nat.reduceLeDiff, Nat.reduceLT, Nat.reduceEqDiff, Int.reduceLT, Int.reduceLE, Int.reduceToNat, Int.reduceAdd, Int.reduceSub, Int.reduceMul, Int.reduceEq, Int.reduceNeg, reduceCtorEq, true_and, and_true, Int.toNat_natCast, List.getElem?_map, Option.map_some, List.length_map, List.length_take, List.length_drop, List.length_append, Nat.sub_zero, Int.toNat_zero, List.length_replicate, Bool.true_or, Bool.or_true, Bool.false_or, Bool.or_false, false_implies, implies_true]))
        · rw [chk_no (hno (.inr (by rw [hgb]; simp; omega)))]
        · refine ⟨j' + 1, by omega, by omega, rfl, by omega, hnext (.inl (by omega)) hcb⟩
      | true =>
        rw [hgb] at hgc
        have h16 := hg16 hgb
        (repeat' (first | with_reducible refine agr_d (fun hc => ?_) (fun hc => ?_) | with_reducible refine agr_n (fun hc => ?_) (fun hc => ?_) | with_reducible refine acd_d (fun hc => ?_) (fun hc => ?_) | with_reducible refine acd_n (fun hc => ?_) (fun hc => ?_) | with_reducible refine dgr_d (fun hc => ?_) (fun hc => ?_) | with_reducible refine dgr_n (fun hc => ?_) (fun hc => ?_) | with_reducible refine dl_sound _ _ [] [] [] _ _ (fun _ h => absurd h List.not_mem_nil) ?_ | with_reducible refine conEnd_p (.inl rfl) ?_ | with_reducible refine conEnd_p (.inr rfl) ?_ | with_reducible refine dc1_p hcc ?_ | with_reducible refine ac1_p hcc ?_ | with_reducible refine dc1_p hgc ?_ | with_reducible refine ac1_p hgc ?_ | simp (disch := omega) only [go_sem, h1, h4, hg, hg2, hb, devB, Nat.reduceAdd, Nat.reduceSub, Nat.reduceMul, Nat.reduceLeDiff, Nat.reduceLT, Nat.reduceEqDiff, Int.reduceLT, Int.reduceLE, Int.reduceToNat, Int.reduceAdd, Int.reduceSub, Int.reduceMul, Int.reduceEq, Int.reduceNeg, reduceCtorEq, true_and, and_true, Int.toNat_natCast, List.getElem?_map, Option.map_some, List.length_map, List.length_take, List.length_drop, List.length_append, Nat.sub_zero, Int.toNat_zero, List.length_replicate, Bool.true_or, Bool.or_true, Bool.false_or, Bool.or_false, false_implies, implies_true]))
        · rw [chk_no (hno (.inr (by rw [hgb]; simp; omega)))]
        · refine ⟨j' + 1, by omega, by omega, rfl, by omega, hnext (.inr ⟨hgb, by omega⟩) hcb⟩
  (repeat' (first | with_reducible refine agr_d (fun hc => ?_) (fun hc => ?_) | with_reducible refine agr_n (fun hc => ?_) (fun hc => ?_) | with_reducible refine acd_d (fun hc => ?_) (fun hc => ?_) | with_reducible refine acd_n (fun hc => ?_) (fun hc => ?_) | with_reducible refine dgr_d (fun hc => ?_) (fun hc => ?_) | with_reducible refine dgr_n (fun hc => ?_) (fun hc => ?_) | with_reducible refine dl_sound _ _ [] [] [] _ _ (fun _ h => absurd h List.not_mem_nil) ?_ | with_reducible refine conEnd_p (.inl rfl) ?_ | with_reducible refine conEnd_p (.inr rfl) ?_ | simp (disch := omega) only [go_sem, h1, h4, hb, devB, Nat.reduceAdd, Nat.reduceSub, Nat.reduceMul, Nat.reduceLeDiff, Nat.reduceLT, Nat.reduceEqDiff, Int.reduceLT, Int.reduceLE, Int.reduceToNat, Int.reduceAdd, Int.reduceSub, Int.reduceMul, Int.reduceEq, Int.reduceNeg, reduceCtorEq, true_and, and_true, Int.toNat_natCast, List.getElem?_map, Option.map_some, List.length_map, List.length_take, List.length_drop, List.length_append, Nat.sub_zero, Int.toNat_zero, List.length_replicate, Bool.true_or, Bool.or_true, Bool.false_or, Bool.or_false, false_implies, implies_true]))
  refine awp_for d.fen.length (fun j fr st => ev fr (.tmp 1) = .ptr 0 0 0 ∧ ev fr (.tmp 5) = .int .i64 j ∧ 1 ≤ st.c ∧ st.get 0 = some (devB d) ∧ fenP d j) ?_ ?_
  · refine ⟨?_, ?_, ?_, ?_, fun t _ h => absurd h (by omega)⟩ <;> (try simp (disch := omega) only [go_sem, h1, Nat.reduceAdd, Nat.reduceSub, Nat.reduceMul, Nat.reduceLeDiff, Nat.reduceLT, Nat.reduceEqDiff, Int.reduceLT, Int.reduceLE, Int.reduceToNat, Int.reduceAdd, Int.reduceSub, Int.reduceMul, Int.reduceEq, Int.reduceNeg, reduceCtorEq, true_and, and_true, Int.toNat_natCast, List.getElem?_map, Option.map_some, List.length_map, List.length_take, List.length_drop, List.length_append, Nat.sub_zero, Int.toNat_zero, List.length_replicate, Bool.true_or, Bool.or_true, Bool.false_or, Bool.or_false, false_implies, implies_true]) <;> first | rfl | assumption
  clear h1 h4 hc1 hb
  rintro i fr st hi ⟨h1, h5, hc1, hb, hf⟩
  by_cases hlt'' : i < d.fen.length
  · have hg : d.fen[i]? = some d.fen[i] := List.getElem?_eq_getElem hlt''
    have hkr := q8 i hlt''
    have hgc := given_c d d.fen[i] (by omega)
    cases hgb : givenB d d.fen[i] with
    | false =>
      rw [hgb] at hgc
      (repeat' (first | with_reducible refine agr_d (fun hc => ?_) (fun hc => ?_) | with_reducible refine agr_n (fun hc => ?_) (fun hc => ?_) | with_reducible refine acd_d (fun hc => ?_) (fun hc => ?_) | with_reducible refine acd_n (fun hc => ?_) (fun hc => ?_) | with_reducible refine dgr_d (fun hc => ?_) (fun hc => ?_) | with_reducible refine dgr_n (fun hc => ?_) (fun hc => ?_) | with_reducible refine dl_sound _ _ [] [] [] _ _ (fun _ h => absurd h List.not_mem_nil) ?_ | with_reducible refine conEnd_p (.inl rfl) ?_ | with_reducible refine conEnd_p (.inr rfl) ?_ | with_reducible refine dc1_p hgc ?_ | with_reducible refine ac1_p hgc ?_ | simp (disch := omega) only [go_sem, h1, h5, hg, hb, devB, Nat.reduceAdd, Nat.reduceSub, Nat.reduceMul, Nat.reduceLeDiff, Nat.reduceLT, Nat.reduceEqDiff, Int.reduceLT, Int.reduceLE, Int.reduceToNat, Int.reduceAdd, Int.reduceSub, Int.reduceMul, Int.reduceEq, Int.reduceNeg, reduceCtorEq, true_and, and_true, Int.toNat_natCast, List.getElem?_map, Option.map_some, List.length_map, List.length_take, List.length_drop, List.length_append, Nat.sub_zero, Int.toNat_zero, List.length_replicate, Bool.true_or, Bool.or_true, Bool.false_or, Bool.or_false, false_implies, implies_true]))
      rw [chk_no (fun h => by have := (h.f i hlt'' hlt'').1; rw [hgb] at this; cases this)]
    | true =>
      rw [hgb] at hgc
      by_cases h0 : i = 0
      · subst h0
        (repeat' (first | with_reducible refine agr_d (fun hc => ?_) (fun hc => ?_) | with_reducible refine agr_n (fun hc => ?_) (fun hc => ?_) | with_reducible refine acd_d (fun hc => ?_) (fun hc => ?_) | with_reducible refine acd_n (fun hc => ?_) (fun hc => ?_) | with_reducible refine dgr_d (fun hc => ?_) (fun hc => ?_) | with_reducible refine dgr_n (fun hc => ?_) (fun hc => ?_) | with_reducible refine dl_sound _ _ [] [] [] _ _ (fun _ h => absurd h List.not_mem_nil) ?_ | with_reducible refine conEnd_p (.inl rfl) ?_ | with_reducible refine conEnd_p (.inr rfl) ?_ | with_reducible refine dc1_p hgc ?_ | with_reducible refine ac1_p hgc ?_ | simp (disch := omega) only [go_sem, h1, h5, hg, hb, devB, Nat.reduceAdd, Nat.reduceSub, Nat.reduceMul, Nat.reduceLeDiff, Nat.reduceLT, Nat.reduceEqDiff, Int.reduceLT, Int.reduceLE, Int.reduceToNat, Int.reduceAdd, Int.reduceSub, Int.reduceMul, Int.reduceEq, Int.reduceNeg, reduceCtorEq, true_and, and_true, Int.toNat_natCast, List.getElem?_map, Option.map_some, List.length_map, List.length_take, List.length_drop, List.length_append, Nat.sub_zero, Int.toNat_zero, List.length_replicate, Bool.true_or, Bool.or_true, Bool.false_or, Bool.or_false, false_implies, implies_true]))
        refine ⟨1, by omega, by omega, rfl, by omega, fun t ht htj => ?_⟩
        obtain rfl : t = 0 := by omega
        exact ⟨hgb, fun s _ h => by omega⟩
      · obtain ⟨p, rfl⟩ : ∃ p, i = p + 1 := ⟨i - 1, by omega⟩
        have hp : p < d.fen.length := by omega
        have hg2 : d.fen[p]? = some d.fen[p] := List.getElem?_eq_getElem hp
        have hpp : (((p + 1 : Nat) : Int) - 1).toNat = p := by omega
        (repeat' (first | with_reducible refine agr_d (fun hc => ?_) (fun hc => ?_) | with_reducible refine agr_n (fun hc => ?_) (fun hc => ?_) | with_reducible refine acd_d (fun hc => ?_) (fun hc => ?_) | with_reducible refine acd_n (fun hc => ?_) (fun hc => ?_) | with_reducible refine dgr_d (fun hc => ?_) (fun hc => ?_) | with_reducible refine dgr_n (fun hc => ?_) (fun hc => ?_) | with_reducible refine dl_sound _ _ [] [] [] _ _ (fun _ h => absurd h List.not_mem_nil) ?_ | with_reducible refine conEnd_p (.inl rfl) ?_ | with_reducible refine conEnd_p (.inr rfl) ?_ | with_reducible refine dc1_p hgc ?_ | with_reducible refine ac1_p hgc ?_ | simp (disch := omega) only [go_sem, h1, h5, hg, hg2, hpp, hb, devB, Nat.reduceAdd, Nat.reduceSub, Nat.reduceMul, Nat.reduceLeDiff, Nat.reduceLT, Nat.reduceEqDiff, Int.reduceLT, Int.reduceLE, Int.reduceToNat, Int.reduceAdd, Int.reduceSub, Int.reduceMul, Int.reduceEq, Int.reduceNeg, reduceCtorEq, true_and, and_true, Int.toNat_natCast, List.getElem?_map, Option.map_some, List.length_map, List.length_take, List.length_drop, List.length_append, Nat.sub_zero, Int.toNat_zero, List.length_replicate, Bool.true_or, Bool.or_true, Bool.false_or, Bool.or_false, false_implies, implies_true]))
        · rw [chk_no (fun h => by have := (h.f (p + 1) hlt'' hlt'').2 p hp rfl; omega)]
        · refine ⟨p + 2, by omega, by omega, rfl, by omega, fun t ht htj => ?_⟩
          rcases Nat.lt_or_ge t (p + 1) with h6 | h6
          · exact hf t ht h6
          · obtain rfl : t = p + 1 := by omega
            exact ⟨hgb, fun s hs hst => by obtain rfl : s = p := by omega
                                           omega⟩
  (repeat' (first | with_reducible refine agr_d (fun hc => ?_) (fun hc => ?_) | with_reducible refine agr_n (fun hc => ?_) (fun hc => ?_) | with_reducible refine acd_d (fun hc => ?_) (fun hc => ?_) | with_reducible refine acd_n (fun hc => ?_) (fun hc => ?_) | with_reducible refine dgr_d (fun hc => ?_) (fun hc => ?_) | with_reducible refine dgr_n (fun hc => ?_) (fun hc => ?_) | with_reducible refine dl_sound _ _ [] [] [] _ _ (fun _ h => absurd h List.not_mem_nil) ?_ | with_reducible refine conEnd_p (.inl rfl) ?_ | with_reducible refine conEnd_p (.inr rfl) ?_ | simp (disch := omega) only [go_sem, h1, h5, hb, devB, Nat.reduceAdd, Nat.reduceSub, Nat.reduceMul, Nat.reduceLeDiff, Nat.reduceLT, Nat.reduceEqDiff, Int.reduceLT, Int.reduceLE, Int.reduceToNat, Int.reduceAdd, Int.reduceSub, Int.reduceMul, Int.reduceEq, Int.reduceNeg, reduceCtorEq, true_and, and_true, Int.toNat_natCast, List.getElem?_map, Option.map_some, List.length_map, List.length_take, List.length_drop, List.length_append, Nat.sub_zero, Int.toNat_zero, List.length_replicate, Bool.true_or, Bool.or_true, Bool.false_or, Bool.or_false, false_implies, implies_true]))
  rw [chk_yes ⟨by omega, by omega, by omega, by omega, by omega, by omega, fun t h => hs t h (by omega), fun t h => (hk t h (by omega)).1, fun t h => (hk t h (by omega)).2, fun t h h' => hf t h (by omega)⟩]
end Go.Proofs.Ytllijcnbjbfabaa

namespace Go.Proofs.Ytllijcnbjbfabaa
open Go.RowKit
set_option linter.unusedSimpArgs false
set_option linter.unusedVariables false

theorem fz_end {st : St} {b n cap sz lk : Nat} {es : List (List V)} {X : V} (hk : st.get b = some ⟨es, sz, lk⟩) (hn : n = es.length) (hp : Plain (.sl es false)) (hX : V.sl es false = X) : ∃ f r', Fz st f (.bs b 0 n cap) r' ∧ r' = X := by
  subst hn
  exact ⟨fun _ => es.length, _, Fz.rows hk (Nat.le_refl _) hp, hX⟩
set_option maxRecDepth 100000 in
set_option maxHeartbeats 4000000 in
theorem without_con (l : List Pr) (fl : Bool) (k : Nat) (hl : l.length ≤ 1000000) (hk : k < l.length) : Con Try.prog 41 [.sl (l.map prV) fl, .int .i64 k] (· = .sl ((l.eraseIdx k).map prV) false) := by
  refine con_of_awp Try.func41 rfl mixed (by decide) rfl (by kernel_rfl) rfl ?_
  (repeat' (first | with_reducible refine agr_d (fun hc => ?_) (fun hc => ?_) | with_reducible refine agr_n (fun hc => ?_) (fun hc => ?_) | with_reducible refine acd_d (fun hc => ?_) (fun hc => ?_) | with_reducible refine acd_n (fun hc => ?_) (fun hc => ?_) | with_reducible refine dgr_d (fun hc => ?_) (fun hc => ?_) | with_reducible refine dgr_n (fun hc => ?_) (fun hc => ?_) | with_reducible refine dl_sound _ _ [] [] [] _ _ (fun _ h => absurd h List.not_mem_nil) ?_ | simp (disch := omega) only [go_sem, Nat.reduceAdd, Nat.reduceSub, Nat.reduceMul, Nat.reduceLeDiff, Nat.reduceLT, Nat.reduceEqDiff, Int.reduceLT, Int.reduceLE, Int.reduceToNat, Int.reduceAdd, Int.reduceSub, Int.reduceMul, Int.reduceEq, Int.reduceNeg, reduceCtorEq, true_and, and_true, Int.toNat_natCast, List.getElem?_map, Option.map_some, List.length_map, List.length_take, List.length_drop, List.length_append, Nat.sub_zero, Int.toNat_zero, List.length_replicate, Bool.true_or, Bool.or_true, Bool.false_or, Bool.or_false, false_implies, implies_true]))
  refine conEnd_f (.inl rfl) ?_
  have e : l.take k ++ (l.drop ((k : Int) + 1).toNat).take (l.length - ((k : Int) + 1).toNat) = l.eraseIdx k := by
    rw [show ((k : Int) + 1).toNat = k + 1 by omega, List.take_of_length_le (l := l.drop (k + 1)) (by simp), List.eraseIdx_eq_take_drop_succ]
  simp (disch := omega) only [go_sem, e, Nat.reduceAdd, Nat.reduceSub, Nat.reduceMul, Nat.reduceLeDiff, Nat.reduceLT, Nat.reduceEqDiff, Int.reduceLT, Int.reduceLE, Int.reduceToNat, Int.reduceAdd, Int.reduceSub, Int.reduceMul, Int.reduceEq, Int.reduceNeg, reduceCtorEq, true_and, and_true, Int.toNat_natCast, List.getElem?_map, Option.map_some, List.length_map, List.length_take, List.length_drop, List.length_append, Nat.sub_zero, Int.toNat_zero, List.length_replicate, Bool.true_or, Bool.or_true, Bool.false_or, Bool.or_false, false_implies, implies_true]
  refine fz_end (by rw [St.get_new]; exact if_pos rfl) ?_ ?_ rfl
  · rw [List.length_map, List.length_eraseIdx_of_lt hk]; omega
  · exact (plain_pr _ _).2 trivial

theorem fenceA_len (l : List Int) (k : Int) (j : Nat) : (fenceA l k j).1.length ≤ 2 * j := by
  induction j with
  | zero => simp [fenceA]
  | succ j ih =>
    simp only [fenceA]
    split
    · omega
    · split <;> simp <;> omega
set_option maxRecDepth 100000 in
set_option maxHeartbeats 8000000 in
theorem fence_con (l : List Int) (fl : Bool) (k : Int) (hl : l.length ≤ 1000000) : Con Try.prog 42 [.sl (l.map inV) fl, .int .i64 k] (· = .sl ((fenceR l k).map inV) false) := by
  refine con_of_awp Try.func42 rfl mixed (by decide) rfl (by kernel_rfl) rfl ?_
  (repeat' (first | with_reducible refine agr_d (fun hc => ?_) (fun hc => ?_) | with_reducible refine agr_n (fun hc => ?_) (fun hc => ?_) | with_reducible refine acd_d (fun hc => ?_) (fun hc => ?_) | with_reducible refine acd_n (fun hc => ?_) (fun hc => ?_) | with_reducible refine dgr_d (fun hc => ?_) (fun hc => ?_) | with_reducible refine dgr_n (fun hc => ?_) (fun hc => ?_) | with_reducible refine dl_sound _ _ [] [] [] _ _ (fun _ h => absurd h List.not_mem_nil) ?_ | simp (disch := omega) only [go_sem, Nat.reduceAdd, Nat.reduceSub, Nat.reduceMul, Nat.reduceLeDiff, Nat.reduceLT, Nat.reduceEqDiff, Int.reduceLT, Int.reduceLE, Int.reduceToNat, Int.reduceAdd, Int.reduceSub, Int.reduceMul, Int.reduceEq, Int.reduceNeg, reduceCtorEq, true_and, and_true, Int.toNat_natCast, List.getElem?_map, Option.map_some, List.length_map, List.length_take, List.length_drop, List.length_append, Nat.sub_zero, Int.toNat_zero, List.length_replicate, Bool.true_or, Bool.or_true, Bool.false_or, Bool.or_false, false_implies, implies_true]))
  refine awp_for l.length (fun j fr st => ∃ o dn, fenceA l k j = (o, dn) ∧ ev fr (.tmp 0) = .sl (l.map inV) fl ∧ ev fr (.tmp 1) = .int .i64 k ∧ ev fr (.tmp 7) = .int .i64 j ∧ ev fr (.tmp 6) = .bool dn ∧
    ((j = 0 ∧ ev fr (.tmp 5) = .sl [] true ∧ o = []) ∨ ∃ b, b < st.c ∧ ev fr (.tmp 5) = .bs b 0 o.length o.length ∧ st.get b = some ⟨o.map inV, 1, 0⟩)) ?_ ?_
  · refine ⟨[], false, rfl, ?_, ?_, ?_, ?_, .inl ⟨rfl, ?_, rfl⟩⟩ <;> simp (disch := omega) only [go_sem, Nat.reduceAdd, Nat.reduceSub, Nat.reduceMul, Nat.reduceLeDiff, Nat.reduceLT, Nat.reduceEqDiff, Int.reduceLT, Int.reduceLE, Int.reduceToNat, Int.reduceAdd, Int.reduceSub, Int.reduceMul, Int.reduceEq, Int.reduceNeg, reduceCtorEq, true_and, and_true, Int.toNat_natCast, List.getElem?_map, Option.map_some, List.length_map, List.length_take, List.length_drop, List.length_append, Nat.sub_zero, Int.toNat_zero, List.length_replicate, Bool.true_or, Bool.or_true, Bool.false_or, Bool.or_false, false_implies, implies_true] <;> rfl
  rintro j fr st hj ⟨o, dn, hp, h0, h1, h7, h6, h5⟩
  have hlen := fenceA_len l k j
  rw [hp] at hlen
  by_cases hlt : j < l.length
  · have hg : l[j]? = some l[j] := List.getElem?_eq_getElem hlt
    have hs : fenceA l k (j + 1) = (if k < l[j] ∧ (dn || decide (l[j] = k)) = false then (o ++ [k] ++ [l[j]], true) else (o ++ [l[j]], dn || decide (l[j] = k))) := by
      show (match l[j]? with | none => _ | some x => _) = _
      rw [hg, hp]
    clear hp
    rcases h5 with ⟨rfl, h5, rfl⟩ | ⟨b, hbc, h5, hb⟩
    · cases dn
      · (repeat' (first | with_reducible refine agr_d (fun hc => ?_) (fun hc => ?_) | with_reducible refine agr_n (fun hc => ?_) (fun hc => ?_) | with_reducible refine acd_d (fun hc => ?_) (fun hc => ?_) | with_reducible refine acd_n (fun hc => ?_) (fun hc => ?_) | with_reducible refine dgr_d (fun hc => ?_) (fun hc => ?_) | with_reducible refine dgr_n (fun hc => ?_) (fun hc => ?_) | with_reducible refine dl_sound _ _ [] [] [] _ _ (fun _ h => absurd h List.not_mem_nil) ?_ | simp (disch := omega) only [go_sem, h0, h1, h7, h6, h5, hg, Nat.reduceAdd, Nat.reduceSub, Nat.reduceMul, Nat.reduceLeDiff, Nat.reduceLT, Nat.reduceEqDiff, Int.reduceLT, Int.reduceLE, Int.reduceToNat, Int.reduceAdd, Int.reduceSub, Int.reduceMul, Int.reduceEq, Int.reduceNeg, reduceCtorEq, true_and, and_true, Int.toNat_natCast, List.getElem?_map, Option.map_some, List.length_map, List.length_take, List.length_drop, List.length_append, Nat.sub_zero, Int.toNat_zero, List.length_replicate, Bool.true_or, Bool.or_true, Bool.false_or, Bool.or_false, false_implies, implies_true]))
        all_goals first | rw [if_pos (by simp; omega)] at hs | rw [if_neg (by simp; omega)] at hs
        all_goals refine ⟨1, by omega, by omega, _, _, hs, rfl, by first | (simp [hc]; done) | (simp; assumption), .inr ⟨_, ?_, bs_eq (by simp), ?_⟩⟩
        all_goals first | omega | (simp [inV, St.del_c]; done)
      · (repeat' (first | with_reducible refine agr_d (fun hc => ?_) (fun hc => ?_) | with_reducible refine agr_n (fun hc => ?_) (fun hc => ?_) | with_reducible refine acd_d (fun hc => ?_) (fun hc => ?_) | with_reducible refine acd_n (fun hc => ?_) (fun hc => ?_) | with_reducible refine dgr_d (fun hc => ?_) (fun hc => ?_) | with_reducible refine dgr_n (fun hc => ?_) (fun hc => ?_) | with_reducible refine dl_sound _ _ [] [] [] _ _ (fun _ h => absurd h List.not_mem_nil) ?_ | simp (disch := omega) only [go_sem, h0, h1, h7, h6, h5, hg, Nat.reduceAdd, Nat.reduceSub, Nat.reduceMul, Nat.reduceLeDiff, Nat.reduceLT, Nat.reduceEqDiff, Int.reduceLT, Int.reduceLE, Int.reduceToNat, Int.reduceAdd, Int.reduceSub, Int.reduceMul, Int.reduceEq, Int.reduceNeg, reduceCtorEq, true_and, and_true, Int.toNat_natCast, List.getElem?_map, Option.map_some, List.length_map, List.length_take, List.length_drop, List.length_append, Nat.sub_zero, Int.toNat_zero, List.length_replicate, Bool.true_or, Bool.or_true, Bool.false_or, Bool.or_false, false_implies, implies_true]))
        all_goals rw [if_neg (by simp)] at hs
        all_goals refine ⟨1, by omega, by omega, _, _, hs, rfl, by simp, .inr ⟨_, ?_, bs_eq (by simp), ?_⟩⟩
        all_goals first | omega | (simp [inV, St.del_c]; done)
    · have ho : o.length ≤ 2 * j := hlen
      cases dn
      · (repeat' (first | with_reducible refine agr_d (fun hc => ?_) (fun hc => ?_) | with_reducible refine agr_n (fun hc => ?_) (fun hc => ?_) | with_reducible refine acd_d (fun hc => ?_) (fun hc => ?_) | with_reducible refine acd_n (fun hc => ?_) (fun hc => ?_) | with_reducible refine dgr_d (fun hc => ?_) (fun hc => ?_) | with_reducible refine dgr_n (fun hc => ?_) (fun hc => ?_) | with_reducible refine dl_sound _ _ [] [] [] _ _ (fun _ h => absurd h List.not_mem_nil) ?_ | simp (disch := omega) only [go_sem, h0, h1, h7, h6, h5, hg, hb, Nat.reduceAdd, Nat.reduceSub, Nat.reduceMul, Nat.reduceLeDiff, Nat.reduceLT, Nat.reduceEqDiff, Int.reduceLT, Int.reduceLE, Int.reduceToNat, Int.reduceAdd, Int.reduceSub, Int.reduceMul, Int.reduceEq, Int.reduceNeg, reduceCtorEq, true_and, and_true, Int.toNat_natCast, List.getElem?_map, Option.map_some, List.length_map, List.length_take, List.length_drop, List.length_append, Nat.sub_zero, Int.toNat_zero, List.length_replicate, Bool.true_or, Bool.or_true, Bool.false_or, Bool.or_false, false_implies, implies_true]))
        all_goals first | rw [if_pos (by simp; omega)] at hs | rw [if_neg (by simp; omega)] at hs
        all_goals refine ⟨j + 1, by omega, by omega, _, _, hs, rfl, by first | (simp [hc]; done) | (simp; assumption), .inr ⟨_, ?_, bs_eq (by simp), ?_⟩⟩
        all_goals first | omega | (simp [inV, St.del_c]; done)
      · (repeat' (first | with_reducible refine agr_d (fun hc => ?_) (fun hc => ?_) | with_reducible refine agr_n (fun hc => ?_) (fun hc => ?_) | with_reducible refine acd_d (fun hc => ?_) (fun hc => ?_) | with_reducible refine acd_n (fun hc => ?_) (fun hc => ?_) | with_reducible refine dgr_d (fun hc => ?_) (fun hc => ?_) | with_reducible refine dgr_n (fun hc => ?_) (fun hc => ?_) | with_reducible refine dl_sound _ _ [] [] [] _ _ (fun _ h => absurd h List.not_mem_nil) ?_ | simp (disch := omega) only [go_sem, h0, h1, h7, h6, h5, hg, hb, Nat.reduceAdd, Nat.reduceSub, Nat.reduceMul, Nat.reduceLeDiff, Nat.reduceLT, Nat.reduceEqDiff, Int.reduceLT, Int.reduceLE, Int.reduceToNat, Int.reduceAdd, Int.reduceSub, Int.reduceMul, Int.reduceEq, Int.reduceNeg, reduceCtorEq, true_and, and_true, Int.toNat_natCast, List.getElem?_map, Option.map_some, List.length_map, List.length_take, List.length_drop, List.length_append, Nat.sub_zero, Int.toNat_zero, List.length_replicate, Bool.true_or, Bool.or_true, Bool.false_or, Bool.or_false, false_implies, implies_true]))
        all_goals rw [if_neg (by simp)] at hs
        all_goals refine ⟨j + 1, by omega, by omega, _, _, hs, rfl, by simp, .inr ⟨_, ?_, bs_eq (by simp), ?_⟩⟩
        all_goals first | omega | (simp [inV, St.del_c]; done)
  · obtain rfl : j = l.length := by omega
    have hr : fenceR l k = if dn = true then o else o ++ [k] := by
      unfold fenceR
      rw [hp]
    rcases h5 with ⟨h00, h5, rfl⟩ | ⟨b, hbc, h5, hb⟩
    · cases dn
      · (repeat' (first | with_reducible refine agr_d (fun hc => ?_) (fun hc => ?_) | with_reducible refine agr_n (fun hc => ?_) (fun hc => ?_) | with_reducible refine acd_d (fun hc => ?_) (fun hc => ?_) | with_reducible refine acd_n (fun hc => ?_) (fun hc => ?_) | with_reducible refine dgr_d (fun hc => ?_) (fun hc => ?_) | with_reducible refine dgr_n (fun hc => ?_) (fun hc => ?_) | with_reducible refine dl_sound _ _ [] [] [] _ _ (fun _ h => absurd h List.not_mem_nil) ?_ | simp (disch := omega) only [go_sem, h0, h1, h7, h6, h5, Nat.reduceAdd, Nat.reduceSub, Nat.reduceMul, Nat.reduceLeDiff, Nat.reduceLT, Nat.reduceEqDiff, Int.reduceLT, Int.reduceLE, Int.reduceToNat, Int.reduceAdd, Int.reduceSub, Int.reduceMul, Int.reduceEq, Int.reduceNeg, reduceCtorEq, true_and, and_true, Int.toNat_natCast, List.getElem?_map, Option.map_some, List.length_map, List.length_take, List.length_drop, List.length_append, Nat.sub_zero, Int.toNat_zero, List.length_replicate, Bool.true_or, Bool.or_true, Bool.false_or, Bool.or_false, false_implies, implies_true]))
        refine conEnd_f (.inl rfl) ?_
        simp (disch := omega) only [go_sem, Nat.reduceAdd, Nat.reduceSub, Nat.reduceMul, Nat.reduceLeDiff, Nat.reduceLT, Nat.reduceEqDiff, Int.reduceLT, Int.reduceLE, Int.reduceToNat, Int.reduceAdd, Int.reduceSub, Int.reduceMul, Int.reduceEq, Int.reduceNeg, reduceCtorEq, true_and, and_true, Int.toNat_natCast, List.getElem?_map, Option.map_some, List.length_map, List.length_take, List.length_drop, List.length_append, Nat.sub_zero, Int.toNat_zero, List.length_replicate, Bool.true_or, Bool.or_true, Bool.false_or, Bool.or_false, false_implies, implies_true]
        refine fz_end (by rw [St.get_new]; exact if_pos rfl) ?_ ?_ (by rw [hr]; rfl)
        · rfl
        · exact (plain_in [k] _).2 trivial
      · have : l = [] := List.eq_nil_of_length_eq_zero h00
        subst this
        simp [fenceA] at hp
    · have ho : o.length ≤ 2 * l.length := hlen
      cases dn
      · (repeat' (first | with_reducible refine agr_d (fun hc => ?_) (fun hc => ?_) | with_reducible refine agr_n (fun hc => ?_) (fun hc => ?_) | with_reducible refine acd_d (fun hc => ?_) (fun hc => ?_) | with_reducible refine acd_n (fun hc => ?_) (fun hc => ?_) | with_reducible refine dgr_d (fun hc => ?_) (fun hc => ?_) | with_reducible refine dgr_n (fun hc => ?_) (fun hc => ?_) | with_reducible refine dl_sound _ _ [] [] [] _ _ (fun _ h => absurd h List.not_mem_nil) ?_ | simp (disch := omega) only [go_sem, h0, h1, h7, h6, h5, hb, Nat.reduceAdd, Nat.reduceSub, Nat.reduceMul, Nat.reduceLeDiff, Nat.reduceLT, Nat.reduceEqDiff, Int.reduceLT, Int.reduceLE, Int.reduceToNat, Int.reduceAdd, Int.reduceSub, Int.reduceMul, Int.reduceEq, Int.reduceNeg, reduceCtorEq, true_and, and_true, Int.toNat_natCast, List.getElem?_map, Option.map_some, List.length_map, List.length_take, List.length_drop, List.length_append, Nat.sub_zero, Int.toNat_zero, List.length_replicate, Bool.true_or, Bool.or_true, Bool.false_or, Bool.or_false, false_implies, implies_true]))
        refine conEnd_f (.inl rfl) ?_
        simp (disch := omega) only [go_sem, Nat.reduceAdd, Nat.reduceSub, Nat.reduceMul, Nat.reduceLeDiff, Nat.reduceLT, Nat.reduceEqDiff, Int.reduceLT, Int.reduceLE, Int.reduceToNat, Int.reduceAdd, Int.reduceSub, Int.reduceMul, Int.reduceEq, Int.reduceNeg, reduceCtorEq, true_and, and_true, Int.toNat_natCast, List.getElem?_map, Option.map_some, List.length_map, List.length_take, List.length_drop, List.length_append, Nat.sub_zero, Int.toNat_zero, List.length_replicate, Bool.true_or, Bool.or_true, Bool.false_or, Bool.or_false, false_implies, implies_true]
        refine fz_end (sz := 1) (lk := 0) (es := (o ++ [k]).map inV) (by simp [inV, St.get_new, St.del_c]) ?_ ((plain_in _ _).2 trivial) (by rw [hr]; rfl)
        simp
      · (repeat' (first | with_reducible refine agr_d (fun hc => ?_) (fun hc => ?_) | with_reducible refine agr_n (fun hc => ?_) (fun hc => ?_) | with_reducible refine acd_d (fun hc => ?_) (fun hc => ?_) | with_reducible refine acd_n (fun hc => ?_) (fun hc => ?_) | with_reducible refine dgr_d (fun hc => ?_) (fun hc => ?_) | with_reducible refine dgr_n (fun hc => ?_) (fun hc => ?_) | with_reducible refine dl_sound _ _ [] [] [] _ _ (fun _ h => absurd h List.not_mem_nil) ?_ | simp (disch := omega) only [go_sem, h0, h1, h7, h6, h5, hb, Nat.reduceAdd, Nat.reduceSub, Nat.reduceMul, Nat.reduceLeDiff, Nat.reduceLT, Nat.reduceEqDiff, Int.reduceLT, Int.reduceLE, Int.reduceToNat, Int.reduceAdd, Int.reduceSub, Int.reduceMul, Int.reduceEq, Int.reduceNeg, reduceCtorEq, true_and, and_true, Int.toNat_natCast, List.getElem?_map, Option.map_some, List.length_map, List.length_take, List.length_drop, List.length_append, Nat.sub_zero, Int.toNat_zero, List.length_replicate, Bool.true_or, Bool.or_true, Bool.false_or, Bool.or_false, false_implies, implies_true]))
        refine conEnd_f (.inl rfl) ?_
        simp (disch := omega) only [go_sem, Nat.reduceAdd, Nat.reduceSub, Nat.reduceMul, Nat.reduceLeDiff, Nat.reduceLT, Nat.reduceEqDiff, Int.reduceLT, Int.reduceLE, Int.reduceToNat, Int.reduceAdd, Int.reduceSub, Int.reduceMul, Int.reduceEq, Int.reduceNeg, reduceCtorEq, true_and, and_true, Int.toNat_natCast, List.getElem?_map, Option.map_some, List.length_map, List.length_take, List.length_drop, List.length_append, Nat.sub_zero, Int.toNat_zero, List.length_replicate, Bool.true_or, Bool.or_true, Bool.false_or, Bool.or_false, false_implies, implies_true]
        refine fz_end (es := o.map inV) (by first | exact hb | (simp; exact hb)) ?_ ((plain_in _ _).2 trivial) (by rw [hr]; rfl)
        simp
end Go.Proofs.Ytllijcnbjbfabaa

namespace Go.Proofs.Ytllijcnbjbfabaa
open Go.RowKit
set_option linter.unusedSimpArgs false
set_option linter.unusedVariables false

/-- a cache's length -/
def cLen (d : Dev) (i : Nat) : Nat := (d.cache.getD i []).length
theorem cLen_at {d : Dev} {i : Nat} (h : i < d.cache.length) : cLen d i = d.cache[i].length := by
  unfold cLen
  rw [List.getD_eq_getElem?_getD, List.getElem?_eq_getElem h]
  rfl
/-- rows of slices, each of a block of its own -/
def cRows (d : Dev) (bc : Nat → Nat) (n : Nat) : List (List V) := (List.range n).map fun i => [.bs (bc i) 0 (cLen d i) (cLen d i)]
theorem cRows_len (d : Dev) (bc : Nat → Nat) (n : Nat) : (cRows d bc n).length = n := by simp [cRows]
theorem cRows_succ (d : Dev) (bc : Nat → Nat) (n : Nat) : cRows d bc (n + 1) = cRows d bc n ++ [[.bs (bc n) 0 (cLen d n) (cLen d n)]] := by simp [cRows, List.range_succ]
theorem cRows_congr {d : Dev} {bc bc' : Nat → Nat} {n : Nat} (h : ∀ i, i < n → bc i = bc' i) : cRows d bc n = cRows d bc' n := by
  unfold cRows
  refine List.map_congr_left fun i hi => ?_
  rw [h i (by simpa using hi)]
theorem cRows_all (d : Dev) (bc : Nat → Nat) (n : Nat) : ((cRows d bc n).all fun r => decide (r.length = 1)) = true := by simp [cRows]
/-- a device in blocks of the call's own -/
structure FreshDev (c0 : Nat) (st : St) (d : Dev) (bS bK bF bC : Nat) (bc : Nat → Nat) : Prop where
  o1 : c0 ≤ bS
  o2 : bS < bK
  o3 : bK < bF
  o4 : ∀ i, i < d.cache.length → bF < bc i ∧ bc i < bC
  o5 : ∀ i j, i < j → j < d.cache.length → bc i < bc j
  o6 : bF < bC
  o7 : bC < st.c
  s : st.get bS = some ⟨d.s.map txV, 1, 0⟩
  k : st.get bK = some ⟨d.keys.map inV, 1, 0⟩
  f : st.get bF = some ⟨d.fen.map inV, 1, 0⟩
  c : st.get bC = some ⟨cRows d bc d.cache.length, 1, 0⟩
  ci : ∀ i (h : i < d.cache.length), st.get (bc i) = some ⟨d.cache[i].map prV, 2, 0⟩
def freshV (d : Dev) (bS bK bF bC : Nat) : V := .agg [.bs bS 0 d.s.length d.s.length, .bs bC 0 d.cache.length d.cache.length, .bs bK 0 d.keys.length d.keys.length, .int .i64 d.next, .bs bF 0 d.fen.length d.fen.length]
theorem iconEnd_v {P : Program} {l : List ResultVar} {post : V → St → Prop} {fr : Fr} {st : St} {e : AEx} (he : e = .ret ∨ e = .normal) (h : bindV (rvv P fr st l) fun r => post r st) : iconEnd P l post e fr st := by
  obtain ⟨r, h1, h2⟩ := bindV_some h
  rw [rvv_eq] at h1
  rcases he with rfl | rfl <;> exact ⟨r, h1, h2⟩
set_option maxRecDepth 100000 in
set_option maxHeartbeats 16000000 in
theorem copied_con (d : Dev) (hd : DevOk d) (h0 : 0 < d.cache.length) (st0 : St) : ICon Try.prog 39 [devV d] st0 fun r st => ∃ bS bK bF bC bc, r = freshV d bS bK bF bC ∧ FreshDev st0.c st d bS bK bF bC bc ∧ ∀ b, b < st0.c → st.get b = st0.get b := by
  refine icon_of_awp Try.func39 rfl mixed (by decide) rfl (by kernel_rfl) rfl ?_
  obtain ⟨q1, q2, q3, q4, q5, q6, q7, q8, q9⟩ := hd
  obtain ⟨g0, c0⟩ := st0
  dsimp only
  (repeat' (first | with_reducible refine agr_d (fun hc => ?_) (fun hc => ?_) | with_reducible refine agr_n (fun hc => ?_) (fun hc => ?_) | with_reducible refine acd_d (fun hc => ?_) (fun hc => ?_) | with_reducible refine acd_n (fun hc => ?_) (fun hc => ?_) | with_reducible refine dgr_d (fun hc => ?_) (fun hc => ?_) | with_reducible refine dgr_n (fun hc => ?_) (fun hc => ?_) | with_reducible refine dl_sound _ _ [] [] [] _ _ (fun _ h => absurd h List.not_mem_nil) ?_ | simp (disch := omega) only [go_sem, devV, List.size_toArray, Nat.reduceAdd, Nat.reduceSub, Nat.reduceMul, Nat.reduceLeDiff, Nat.reduceLT, Nat.reduceEqDiff, Int.reduceLT, Int.reduceLE, Int.reduceToNat, Int.reduceAdd, Int.reduceSub, Int.reduceMul, Int.reduceEq, Int.reduceNeg, reduceCtorEq, true_and, and_true, Int.toNat_natCast, List.getElem?_map, Option.map_some, List.length_map, List.length_take, List.length_drop, List.length_append, Nat.sub_zero, Int.toNat_zero, List.length_replicate, Bool.true_or, Bool.or_true, Bool.false_or, Bool.or_false, false_implies, implies_true]))
  have hB : ∀ (S0 C0 K0 F0 N0 : V), True := fun _ _ _ _ _ => trivial
  refine awp_for d.cache.length (fun j fr st => ev fr (.tmp 1) = .ptr c0 0 0 ∧ ev fr (.tmp 2) = .ptr (c0 + 1) 0 0 ∧ ev fr (.tmp 3) = .ptr (c0 + 17) 0 0 ∧ ev fr (.tmp 4) = .int .i64 j ∧ c0 + 19 ≤ st.c ∧
    st.get c0 = some (devB d) ∧ st.get (c0 + 1) = some ⟨[[.sl [] true, .sl [] true, .sl [] true, .int .i64 0, .sl [] true]], 5, 0⟩ ∧
    st.get (c0 + 5) = some ⟨d.s.map txV, 1, 0⟩ ∧ st.get (c0 + 9) = some ⟨d.keys.map inV, 1, 0⟩ ∧ st.get (c0 + 15) = some ⟨d.fen.map inV, 1, 0⟩ ∧ (∀ b, b < c0 → st.get b = g0 b) ∧
    ((j = 0 ∧ st.get (c0 + 17) = some ⟨[[.bs (c0 + 5) 0 d.s.length d.s.length, .sl [] true, .bs (c0 + 9) 0 d.keys.length d.keys.length, .int .i64 d.next, .bs (c0 + 15) 0 d.fen.length d.fen.length]], 5, 0⟩) ∨
     ∃ bC bc, st.get (c0 + 17) = some ⟨[[.bs (c0 + 5) 0 d.s.length d.s.length, .bs bC 0 j j, .bs (c0 + 9) 0 d.keys.length d.keys.length, .int .i64 d.next, .bs (c0 + 15) 0 d.fen.length d.fen.length]], 5, 0⟩ ∧ c0 + 18 < bC ∧ bC < st.c ∧
       (∀ i, i < j → c0 + 18 < bc i ∧ bc i < bC) ∧ (∀ i i', i < i' → i' < j → bc i < bc i') ∧ st.get bC = some ⟨cRows d bc j, 1, 0⟩ ∧ ∀ i (h : i < d.cache.length), i < j → st.get (bc i) = some ⟨d.cache[i].map prV, 2, 0⟩)) ?_ ?_
  · refine ⟨?_, ?_, ?_, ?_, ?_, ?_, ?_, ?_, ?_, ?_, fun b hb => ?_, .inl ⟨rfl, ?_⟩⟩
    all_goals simp (disch := omega) only [go_sem, Nat.reduceAdd, Nat.reduceSub, Nat.reduceMul, Nat.reduceLeDiff, Nat.reduceLT, Nat.reduceEqDiff, Int.reduceLT, Int.reduceLE, Int.reduceToNat, Int.reduceAdd, Int.reduceSub, Int.reduceMul, Int.reduceEq, Int.reduceNeg, reduceCtorEq, true_and, and_true, Int.toNat_natCast, List.getElem?_map, Option.map_some, List.length_map, List.length_take, List.length_drop, List.length_append, Nat.sub_zero, Int.toNat_zero, List.length_replicate, Bool.true_or, Bool.or_true, Bool.false_or, Bool.or_false, false_implies, implies_true]
    all_goals first | rfl | omega
  clear hB
  rintro j fr st hj ⟨h1, h2, h3, h4, hc, b1, b2, bs, bk, bf, hold, hC⟩
  by_cases hlt : j < d.cache.length
  · have hg : d.cache[j]? = some d.cache[j] := List.getElem?_eq_getElem hlt
    have hlj := q3 j hlt
    rcases hC with ⟨rfl, b3⟩ | ⟨bC, bc, b3, o1, o2, o3, o4, bC1, bci⟩
    · (repeat' (first | with_reducible refine agr_d (fun hc => ?_) (fun hc => ?_) | with_reducible refine agr_n (fun hc => ?_) (fun hc => ?_) | with_reducible refine acd_d (fun hc => ?_) (fun hc => ?_) | with_reducible refine acd_n (fun hc => ?_) (fun hc => ?_) | with_reducible refine dgr_d (fun hc => ?_) (fun hc => ?_) | with_reducible refine dgr_n (fun hc => ?_) (fun hc => ?_) | with_reducible refine dl_sound _ _ [] [] [] _ _ (fun _ h => absurd h List.not_mem_nil) ?_ | simp (disch := omega) only [go_sem, h1, h2, h3, h4, hg, b1, b2, b3, devB, List.size_toArray, Nat.reduceAdd, Nat.reduceSub, Nat.reduceMul, Nat.reduceLeDiff, Nat.reduceLT, Nat.reduceEqDiff, Int.reduceLT, Int.reduceLE, Int.reduceToNat, Int.reduceAdd, Int.reduceSub, Int.reduceMul, Int.reduceEq, Int.reduceNeg, reduceCtorEq, true_and, and_true, Int.toNat_natCast, List.getElem?_map, Option.map_some, List.length_map, List.length_take, List.length_drop, List.length_append, Nat.sub_zero, Int.toNat_zero, List.length_replicate, Bool.true_or, Bool.or_true, Bool.false_or, Bool.or_false, false_implies, implies_true]))
      refine ⟨1, by omega, by omega, rfl, by omega, bs, bk, bf, fun b hb => ?_, .inr ⟨st.c + 10, fun _ => st.c + 8, rfl, by omega, by omega, fun i hi => by (dsimp only; omega), fun i i' k1 k2 => by omega, ?_, fun i h hi => ?_⟩⟩
      · (repeat rw [if_neg (by omega)])
        exact hold b hb
      · rw [if_neg (by omega), if_pos rfl, cRows_succ, cLen_at hlt]
        rfl
      · obtain rfl : i = 0 := by omega
        dsimp only
        (repeat rw [if_neg (by omega)])
        try rw [if_pos rfl]
    · (repeat' (first | with_reducible refine agr_d (fun hc => ?_) (fun hc => ?_) | with_reducible refine agr_n (fun hc => ?_) (fun hc => ?_) | with_reducible refine acd_d (fun hc => ?_) (fun hc => ?_) | with_reducible refine acd_n (fun hc => ?_) (fun hc => ?_) | with_reducible refine dgr_d (fun hc => ?_) (fun hc => ?_) | with_reducible refine dgr_n (fun hc => ?_) (fun hc => ?_) | with_reducible refine dl_sound _ _ [] [] [] _ _ (fun _ h => absurd h List.not_mem_nil) ?_ | simp (disch := omega) only [go_sem, h1, h2, h3, h4, hg, b1, b2, b3, bC1, cRows_len, cRows_all, devB, List.size_toArray, Nat.reduceAdd, Nat.reduceSub, Nat.reduceMul, Nat.reduceLeDiff, Nat.reduceLT, Nat.reduceEqDiff, Int.reduceLT, Int.reduceLE, Int.reduceToNat, Int.reduceAdd, Int.reduceSub, Int.reduceMul, Int.reduceEq, Int.reduceNeg, reduceCtorEq, true_and, and_true, Int.toNat_natCast, List.getElem?_map, Option.map_some, List.length_map, List.length_take, List.length_drop, List.length_append, Nat.sub_zero, Int.toNat_zero, List.length_replicate, Bool.true_or, Bool.or_true, Bool.false_or, Bool.or_false, false_implies, implies_true]))
      refine ⟨j + 1, by omega, by omega, rfl, by omega, bs, bk, bf, fun b hb => ?_, .inr ⟨st.c + 10, fun i => if i = j then st.c + 8 else bc i, rfl, by omega, by omega, fun i hi => ?_, fun i i' h1 h2 => ?_, ?_, fun i h hi => ?_⟩⟩
      · (repeat rw [if_neg (by omega)])
        exact hold b hb
      · dsimp only
        by_cases e : i = j
        · rw [if_pos e]; omega
        · rw [if_neg e]
          have := o3 i (by omega)
          omega
      · dsimp only
        rw [if_neg (by omega : ¬ i = j)]
        have := o3 i (by omega)
        by_cases e : i' = j
        · rw [if_pos e]; omega
        · rw [if_neg e]; exact o4 i i' h1 (by omega)
      · rw [if_neg (by omega), if_pos rfl, cRows_succ, cLen_at hlt, if_pos rfl]
        rw [cRows_congr (bc' := bc) fun i hi => if_neg (by omega)]
      · dsimp only
        by_cases e : i = j
        · have e1 : (if i = j then st.c + 8 else bc i) = st.c + 8 := if_pos e
          simp only [e1]
          (repeat rw [if_neg (by omega)])
          rw [if_pos trivial]
          subst e
          rfl
        · have e1 : (if i = j then st.c + 8 else bc i) = bc i := if_neg e
          simp only [e1]
          have := o3 i (by omega)
          (repeat rw [if_neg (by omega)])
          exact bci i h (by omega)
  · obtain rfl : j = d.cache.length := by omega
    rcases hC with ⟨h00, b3⟩ | ⟨bC, bc, b3, o1, o2, o3, o4, bC1, bci⟩
    · omega
    · (repeat' (first | with_reducible refine agr_d (fun hc => ?_) (fun hc => ?_) | with_reducible refine agr_n (fun hc => ?_) (fun hc => ?_) | with_reducible refine acd_d (fun hc => ?_) (fun hc => ?_) | with_reducible refine acd_n (fun hc => ?_) (fun hc => ?_) | with_reducible refine dgr_d (fun hc => ?_) (fun hc => ?_) | with_reducible refine dgr_n (fun hc => ?_) (fun hc => ?_) | with_reducible refine dl_sound _ _ [] [] [] _ _ (fun _ h => absurd h List.not_mem_nil) ?_ | simp (disch := omega) only [go_sem, h1, h2, h3, h4, b1, b2, b3, devB, List.size_toArray, Nat.reduceAdd, Nat.reduceSub, Nat.reduceMul, Nat.reduceLeDiff, Nat.reduceLT, Nat.reduceEqDiff, Int.reduceLT, Int.reduceLE, Int.reduceToNat, Int.reduceAdd, Int.reduceSub, Int.reduceMul, Int.reduceEq, Int.reduceNeg, reduceCtorEq, true_and, and_true, Int.toNat_natCast, List.getElem?_map, Option.map_some, List.length_map, List.length_take, List.length_drop, List.length_append, Nat.sub_zero, Int.toNat_zero, List.length_replicate, Bool.true_or, Bool.or_true, Bool.false_or, Bool.or_false, false_implies, implies_true]))
      refine iconEnd_v (.inl rfl) ?_
      simp (disch := omega) only [go_sem, h2, devB, List.size_toArray, Nat.reduceAdd, Nat.reduceSub, Nat.reduceMul, Nat.reduceLeDiff, Nat.reduceLT, Nat.reduceEqDiff, Int.reduceLT, Int.reduceLE, Int.reduceToNat, Int.reduceAdd, Int.reduceSub, Int.reduceMul, Int.reduceEq, Int.reduceNeg, reduceCtorEq, true_and, and_true, Int.toNat_natCast, List.getElem?_map, Option.map_some, List.length_map, List.length_take, List.length_drop, List.length_append, Nat.sub_zero, Int.toNat_zero, List.length_replicate, Bool.true_or, Bool.or_true, Bool.false_or, Bool.or_false, false_implies, implies_true]
      refine ⟨_, _, _, bC, bc, rfl, ⟨?_, ?_, ?_, fun i hi => ?_, o4, by omega, ?_, ?_, ?_, ?_, ?_, fun i hi => ?_⟩, fun b hb => ?_⟩
      · omega
      · omega
      · omega
      · have := o3 i hi
        omega
      · show bC < st.c + 1
        omega
      · exact (St.get_set _ _ _ _).trans ((if_neg (by omega)).trans bs)
      · exact (St.get_set _ _ _ _).trans ((if_neg (by omega)).trans bk)
      · exact (St.get_set _ _ _ _).trans ((if_neg (by omega)).trans bf)
      · exact (St.get_set _ _ _ _).trans ((if_neg (by omega)).trans bC1)
      · have := o3 i hi
        exact (St.get_set _ _ _ _).trans ((if_neg (by omega)).trans (bci i hi hi))
      · rw [if_neg (by omega)]
        exact hold b hb
end Go.Proofs.Ytllijcnbjbfabaa

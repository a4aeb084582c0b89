/- Plain words of layer 6, as values. -/
import Derived.Test.YtkjihmlighigjaaGreatRepairAliveM01
import Derived.Test.YtkjihmlighigjaaGreatRepairAliveM29
set_option linter.unusedSimpArgs false
set_option linter.unusedVariables false
namespace Go.Proofs.YtkjihmlighigjaaGreat
open Go.RowKit

def prV (x : Pr) : List V := [.int .i64 x.n, .str x.t]
def txV (s : ByteArray) : List V := [.str s]
def inV (n : Int) : List V := [.int .i64 n]
abbrev ccV (c : List Pr) : List V := [.sl (c.map prV) false]
abbrev devV (d : Dev) : V := .agg [.sl (d.s.map txV) false, .sl (d.cache.map ccV) false, .sl (d.keys.map inV) false, .int .i64 d.next, .sl (d.fen.map inV) false]
theorem plain_pr (l : List Pr) (b : Bool) : Plain (.sl (l.map prV) b) ↔ True := ⟨fun _ => trivial, fun _ => .sl _ _ fun r hr x hx => by
  obtain ⟨p, _, rfl⟩ := List.mem_map.1 hr
  rcases List.mem_cons.1 hx with rfl | hx
  · exact .int _ _
  · rcases List.mem_cons.1 hx with rfl | hx
    · exact .str _
    · cases hx⟩
theorem plain_tx (l : List ByteArray) (b : Bool) : Plain (.sl (l.map txV) b) ↔ True := ⟨fun _ => trivial, fun _ => .sl _ _ fun r hr x hx => by
  obtain ⟨p, _, rfl⟩ := List.mem_map.1 hr
  rcases List.mem_cons.1 hx with rfl | hx
  · exact .str _
  · cases hx⟩
theorem plain_in (l : List Int) (b : Bool) : Plain (.sl (l.map inV) b) ↔ True := ⟨fun _ => trivial, fun _ => .sl _ _ fun r hr x hx => by
  obtain ⟨p, _, rfl⟩ := List.mem_map.1 hr
  rcases List.mem_cons.1 hx with rfl | hx
  · exact .int _ _
  · cases hx⟩
theorem plain_cc (l : List (List Pr)) (b : Bool) : Plain (.sl (l.map ccV) b) ↔ True := ⟨fun _ => trivial, fun _ => .sl _ _ fun r hr x hx => by
  obtain ⟨p, _, rfl⟩ := List.mem_map.1 hr
  rcases List.mem_cons.1 hx with rfl | hx
  · exact (plain_pr _ _).2 trivial
  · cases hx⟩
theorem plain_dev (d : Dev) : Plain (devV d) ↔ True := ⟨fun _ => trivial, fun _ => by
  unfold devV
  rw [plain_agg]
  intro x hx
  simp only [List.mem_cons, List.not_mem_nil, or_false] at hx
  rcases hx with rfl | rfl | rfl | rfl | rfl
  · exact (plain_tx _ _).2 trivial
  · exact (plain_cc _ _).2 trivial
  · exact (plain_in _ _).2 trivial
  · exact .int _ _
  · exact (plain_in _ _).2 trivial⟩
structure DevOk (d : Dev) : Prop where
  s : d.s.length ≤ 1000000
  c : d.cache.length ≤ 1000000
  ci : ∀ i (h : i < d.cache.length), d.cache[i].length ≤ 1000000
  k : d.keys.length ≤ 1000000
  ki : ∀ i (h : i < d.keys.length), -4611686018427387904 ≤ d.keys[i] ∧ d.keys[i] ≤ 4611686018427387904
  n : -4611686018427387904 ≤ d.next ∧ d.next ≤ 4611686018427387904
  f : d.fen.length ≤ 1000000
  fi : ∀ i (h : i < d.fen.length), -4611686018427387904 ≤ d.fen[i] ∧ d.fen[i] ≤ 4611686018427387904
  si : ∀ i (h : i < d.s.length), d.s[i].size ≤ 9223372036854775807
attribute [go_sem] prV txV inV plain_pr plain_tx plain_in plain_cc plain_dev
end Go.Proofs.YtkjihmlighigjaaGreat

namespace Go.Proofs.YtkjihmlighigjaaGreat
open Go.RowKit

end Go.Proofs.YtkjihmlighigjaaGreat

namespace Go.Proofs.YtkjihmlighigjaaGreat
open Go.RowKit

end Go.Proofs.YtkjihmlighigjaaGreat

namespace Go.Proofs.YtkjihmlighigjaaGreat
open Go.RowKit

def fenP (d : Dev) (j : Nat) : Prop := ∀ t (h : t < d.fen.length), t < j → givenB d d.fen[t] = true ∧ ∀ s (hs : s < d.fen.length), s + 1 = t → d.fen[s] < d.fen[t]
structure MayD (d : Dev) : Prop where
  s0 : 1 ≤ d.s.length
  k0 : 1 ≤ d.keys.length
  k1 : d.keys.length ≤ 16
  c : d.cache.length = d.keys.length
  n0 : 1 ≤ d.next
  n1 : d.next ≤ 68719476736
  s : ∀ t (h : t < d.s.length), d.s[t].size ≤ 512
  ca : ∀ t (h : t < d.keys.length), cachedB d.s.length [] (d.cache.getD t []) = true
  ke : ∀ t (h : t < d.keys.length), d.keys[t] = 0 ∨ (givenB d d.keys[t] = true ∧ d.keys[t] % 16 = (t : Int))
  f : fenP d d.fen.length
end Go.Proofs.YtkjihmlighigjaaGreat

namespace Go.Proofs.YtkjihmlighigjaaGreat
open Go.RowKit

end Go.Proofs.YtkjihmlighigjaaGreat

namespace Go.Proofs.YtkjihmlighigjaaGreat
open Go.RowKit
attribute [go_sem] Option.isNone_some Option.isNone_none Option.isSome_some Option.isSome_none
@[go_sem] theorem nif_pos {α : Type} {a b : Nat} {x y : α} (h : a = b) : (if a = b then x else y) = x := if_pos h
@[go_sem] theorem nif_neg {α : Type} {a b : Nat} {x y : α} (h : ¬ a = b) : (if a = b then x else y) = y := if_neg h
@[go_sem] theorem St.del_c {s : St} {b : Nat} : (s.del b).c = s.c := rfl
@[go_sem] theorem St.set_c {s : St} {b : Nat} {k : Blk'} : (s.set b k).c = s.c := rfl
@[go_sem] theorem St.new_c {s : St} {k : Blk'} : (s.new k).c = s.c + 1 := rfl
@[go_sem] theorem take_map_ {α β : Type} (f : α → β) (l : List α) (k : Nat) : (l.map f).take k = (l.take k).map f := (List.map_take).symm
@[go_sem] theorem drop_map_ {α β : Type} (f : α → β) (l : List α) (k : Nat) : (l.map f).drop k = (l.drop k).map f := (List.map_drop).symm
@[go_sem] theorem app_map_ {α β : Type} (f : α → β) (l m : List α) : l.map f ++ m.map f = (l ++ m).map f := (List.map_append).symm
@[go_sem] theorem all_pr (l : List Pr) : ((l.map prV).all fun r => decide (r.length = 2)) = true := by simp [prV, txV, inV, ccV]
@[go_sem] theorem all_tx (l : List ByteArray) : ((l.map txV).all fun r => decide (r.length = 1)) = true := by simp [prV, txV, inV, ccV]
@[go_sem] theorem all_in (l : List Int) : ((l.map inV).all fun r => decide (r.length = 1)) = true := by simp [prV, txV, inV, ccV]
@[go_sem] theorem all_cc (l : List (List Pr)) : ((l.map ccV).all fun r => decide (r.length = 1)) = true := by simp [prV, txV, inV, ccV]
@[go_sem] theorem all_n {n : Nat} : (([] : List (List V)).all fun r => decide (r.length = n)) = true := rfl
@[go_sem] theorem all_c {n : Nat} {r : List V} {l : List (List V)} : ((r :: l).all fun r => decide (r.length = n)) = (decide (r.length = n) && l.all fun r => decide (r.length = n)) := rfl
theorem Fz.row {st : St} {f : Nat → Nat} {b i n cap : Nat} {k : Blk'} (hk : st.get b = some k) (hle : i + n ≤ k.es.length) (hf : i + n ≤ f b) (hp : ∀ r ∈ k.es, ∀ x ∈ r, Plain x) : Fz st f (.bs b i n cap) (.sl ((k.es.drop i).take n) false) :=
  .bs b i n cap k _ hk hle hf (by simp; omega) (fun a ha ha' => by simp) (fun a ha ha' c hc hc' => by
    have e : ((k.es.drop i).take n)[a][c] = k.es[i + a][c] := by simp
    rw [e]
    exact .plain _ (hp _ (List.getElem_mem ha) _ (List.getElem_mem hc)))
theorem Fz.rows {st : St} {f : Nat → Nat} {b cap : Nat} {es : List (List V)} {sz lk : Nat} (hk : st.get b = some ⟨es, sz, lk⟩) (hf : es.length ≤ f b) (hp : Plain (.sl es false)) : Fz st f (.bs b 0 es.length cap) (.sl es false) := by
  have := Fz.row (f := f) (i := 0) (n := es.length) (cap := cap) hk (by simp) (by simpa using hf) (by cases hp with | sl _ _ h => exact h)
  simpa using this
end Go.Proofs.YtkjihmlighigjaaGreat

namespace Go.Proofs.YtkjihmlighigjaaGreat
open Go.RowKit

end Go.Proofs.YtkjihmlighigjaaGreat

namespace Go.Proofs.YtkjihmlighigjaaGreat
open Go.RowKit

def cLen (d : Dev) (i : Nat) : Nat := (d.cache.getD i []).length
def cRows (d : Dev) (bc : Nat → Nat) (n : Nat) : List (List V) := (List.range n).map fun i => [.bs (bc i) 0 (cLen d i) (cLen d i)]
structure FreshDev (c0 : Nat) (st : St) (d : Dev) (bS bK bF bC : Nat) (bc : Nat → Nat) : Prop where
  o1 : c0 ≤ bS
  o2 : bS < bK
  o3 : bK < bF
  o4 : ∀ i, i < d.cache.length → bF < bc i ∧ bc i < bC
  o5 : ∀ i j, i < j → j < d.cache.length → bc i < bc j
  o6 : bF < bC
  o7 : bC < st.c
  s : st.get bS = some ⟨d.s.map txV, 1, 0⟩
  k : st.get bK = some ⟨d.keys.map inV, 1, 0⟩
  f : st.get bF = some ⟨d.fen.map inV, 1, 0⟩
  c : st.get bC = some ⟨cRows d bc d.cache.length, 1, 0⟩
  ci : ∀ i (h : i < d.cache.length), st.get (bc i) = some ⟨d.cache[i].map prV, 2, 0⟩
end Go.Proofs.YtkjihmlighigjaaGreat

namespace Go.Proofs.YtkjihmlighigjaaGreat
open Go.RowKit

def loopN (P : Program) (c : Code) (Q : AEx → Fr → St → Prop) : Nat → Fr → St → Prop
  | 0, _, _ => False
  | n + 1, fr, st => awp P c (AEx.then (loopN P c Q n) Q) fr st
@[go_sem] theorem loopN_s {P : Program} {c : Code} {Q : AEx → Fr → St → Prop} {n : Nat} {fr : Fr} {st : St} : loopN P c Q (n + 1) fr st = awp P c (AEx.then (loopN P c Q n) Q) fr st := nrfl rfl
theorem FzO.rows {st : St} {f : Nat → Nat} {b cap : Nat} {es : List (List V)} {sz lk : Nat} (hk : st.get b = some ⟨es, sz, lk⟩) (hf : es.length ≤ f b) (hp : ∀ r ∈ es, ∀ x ∈ r, Sc x) : FzO st f (.bs b 0 es.length cap) (.sl es false) :=
  .bs b 0 es.length cap _ es hk (by simp) (by simpa using hf) rfl (fun a ha ha' => by simp) (fun a ha ha' c hc hc' => by
    have e : es[0 + a]'(by simpa using ha) = es[a] := by congr 1; omega
    simp only [e]
    exact .sc _ (hp _ (List.getElem_mem ha') _ (List.getElem_mem _)))
section
variable {st : St} {f : Nat → Nat} {a b c d e a' b' c' d' e' : V}
end
section
variable {P : Program} {ops : Array Oper} {n0 k : Nat} {h : FuncId} {d : Option Tmp} {op : Oper} {l : List Oper} {rd wr : Acc} {fr : Fr} {st : St} {g : Gs} {r x y : V} {b n cap sz lk : Nat} {es : List (List V)}
end
end Go.Proofs.YtkjihmlighigjaaGreat

namespace Go.Proofs.YtkjihmlighigjaaGreat
open Go.RowKit

end Go.Proofs.YtkjihmlighigjaaGreat

namespace Go.Proofs.YtkjihmlighigjaaGreat
open Go.RowKit

structure AcOk (a : Ac) : Prop where
  k : -128 ≤ a.k ∧ a.k ≤ 127
  s : -9223372036854775808 ≤ a.s ∧ a.s ≤ 9223372036854775807
  b : a.b.size ≤ 1000000000
  key : -9223372036854775808 ≤ a.key ∧ a.key ≤ 9223372036854775807
end Go.Proofs.YtkjihmlighigjaaGreat

/- Plain facts on the model's bit operations over natural numbers: and, or, xor of i64 and u32, shifts; nothing of the program. -/
import Derived.WalkKit
import Derived.Below
import Derived.Laws.OwnMore
import Derived.Laws.Rows
import Derived.Laws.CopyOwn
import Derived.Laws.MakeOwn
import Derived.Laws.Entries
import Derived.Deep.AppendLies
import Derived.Deep.Draws
import Derived.Deep.OwnRows
import Derived.Deep.QuietTactic
import Derived.Maps.AppendAt
import Derived.RegionTactic
import Derived.OwnWalk
import Derived.ChangeSame
import Derived.Lib.Hide
import Derived.Laws.BytesArg
import Derived.Deep.AppendSrc
import Derived.Laws.IdiomStrings
import Derived.Lib.Strings
import Derived.Shelf.SlIterI.Nil
import Derived.Shelf.SortM.Plain
import Derived.Shelf.SortM.SortNone
import Derived.Ground.GgzProg
import Derived.Ground.SlgmProg
import Derived.Test.YtllijcnbjbfabaaProg
import Derived.Test.YtllijcnbjbfabaaChecked
import Derived.WalkSpells
import Derived.WalkLawsBesides
import Derived.BigQuiet
import Derived.Deep.LoopGhost
namespace Go.Proofs.Ytllijcnbjbfabaa
open Go.RowKit

theorem ofInt_i64 (a : Nat) (ha : a < 18446744073709551616) : (BitVec.ofInt 64 (a : Int)).toNat = a := by
  simp only [BitVec.toNat_ofInt]
  omega
theorem wrap_i64_nat (n : Nat) (h : n < 9223372036854775808) : IntKind.i64.wrap (n : Int) = n := by
  rw [IntKind.wrap_i64]; omega
theorem i64_and_nat (a b : Nat) (ha : a < 9223372036854775808) (hb : b < 9223372036854775808) : bits .and .i64 (a : Int) (b : Int) = ((a &&& b : Nat) : Int) := by
  show IntKind.i64.wrap ((BitVec.ofInt 64 (a : Int) &&& BitVec.ofInt 64 (b : Int)).toNat : Nat) = _
  rw [BitVec.toNat_and, ofInt_i64 a (by omega), ofInt_i64 b (by omega)]
  have : a &&& b < 2 ^ 63 := Nat.and_lt_two_pow _ (by omega)
  exact wrap_i64_nat _ (by omega)
end Go.Proofs.Ytllijcnbjbfabaa

namespace Go.Proofs.Ytllijcnbjbfabaa
open Go.RowKit

abbrev Bs := List UInt8
def le : Bs → Nat
  | [] => 0
  | c :: l => c.toNat + 256 * le l
def leBytes : Nat → Nat → Bs
  | 0, _ => []
  | w + 1, n => UInt8.ofNat (n % 256) :: leBytes w (n / 256)

theorem leBytes_length (w n : Nat) : (leBytes w n).length = w := by
  induction w generalizing n with
  | zero => rfl
  | succ w ih => simp [leBytes, ih]
theorem leBytes_snoc (w n : Nat) : leBytes (w + 1) n = leBytes w n ++ [UInt8.ofNat (n / 256 ^ w % 256)] := by
  induction w generalizing n with
  | zero => simp [leBytes]
  | succ w ih =>
    rw [leBytes, ih, leBytes]
    simp only [List.cons_append]
    rw [Nat.div_div_eq_div_mul, Nat.pow_succ, Nat.mul_comm (256 ^ w) 256]
/-- the greatest number of a width -/
def mostW (w : Nat) : Nat := min (256 ^ w - 1) 1099511627776
def fitsB (n w : Int) : Bool := decide (1 ≤ w ∧ w ≤ 6 ∧ 0 ≤ n ∧ n ≤ mostW w.toNat)
theorem fits_lt {n : Nat} {w : Nat} (h : fitsB n w = true) : n < 256 ^ w ∧ n ≤ 1099511627776 ∧ 1 ≤ w ∧ w ≤ 6 := by
  have h := of_decide_eq_true h
  have : 0 < 256 ^ w := Nat.pow_pos (by omega)
  simp only [Int.toNat_natCast, mostW] at h
  omega

end Go.Proofs.Ytllijcnbjbfabaa

namespace Go.Proofs.Ytllijcnbjbfabaa
open Go.RowKit Go.WideShapes Go.ChangeShapes

theorem block_of_add (a : Addr) (n : Nat) : (a.add n).block = a.block := by unfold Addr.add; split <;> rfl
theorem add_of_add (a : Addr) (i j : Nat) : (a.add i).add j = a.add (i + j) := by
  unfold Addr.add
  by_cases hi : i = 0 <;> by_cases hj : j = 0 <;> simp [hi, hj, Nat.add_assoc]

def Reads (w : World) (B size : Nat) (A : Option Addr) (n : Nat) (xs : List Value) : Prop :=
  xs.length = n * size ∧ (0 < n → ∃ ad, A = some ad ∧ ad.block < B ∧ ∀ j u, xs[j]? = some u → w.cell? (ad.add j) = some u)

section
variable {w w' : World} {B B' size n : Nat} {A : Option Addr} {xs : List Value}
theorem Reads.none_ : Reads w B size A 0 [] := ⟨by simp, fun h => absurd h (by omega)⟩
theorem Reads.at_ {k : Nat} (h : Reads w B 1 A n xs) (hk : k < n) : ∃ ad u, A = some ad ∧ ad.block < B ∧ xs[k]? = some u ∧ w.cell? (ad.add k) = some u := by
  obtain ⟨ad, e, hb, hc⟩ := h.2 (by omega)
  have hl : k < xs.length := by have := h.1; omega
  exact ⟨ad, xs[k], e, hb, List.getElem?_eq_getElem hl, hc k _ (List.getElem?_eq_getElem hl)⟩
theorem Reads.keep (h : Reads w B size A n xs) (hk : ∀ p : Addr, p.block < B → w'.cell? p = w.cell? p) : Reads w' B size A n xs :=
  ⟨h.1, fun hn => by
    obtain ⟨ad, e, hb, hc⟩ := h.2 hn
    exact ⟨ad, e, hb, fun j u hu => (hk _ (by rw [block_of_add]; exact hb)).trans (hc j u hu)⟩⟩
theorem Reads.more (h : Reads w B size A n xs) (hB : B ≤ B') : Reads w B' size A n xs :=
  ⟨h.1, fun hn => by
    obtain ⟨ad, e, hb, hc⟩ := h.2 hn
    exact ⟨ad, e, by omega, hc⟩⟩
theorem Reads.below (h : Reads w B size A n xs) (hb : Below B w w') : Reads w' B size A n xs := h.keep fun _ hp => hb.cell hp
theorem Reads.drew (h : Reads w B size A n xs) : Reads w.drew B size A n xs := h
theorem Reads.alloc (h : Reads w B size A n xs) (hB : B ≤ w.heap.size) (o : Obj) : Reads (w.alloc o) B size A n xs := h.keep fun p hp => World.cell?_alloc_lt w o p (by omega)
theorem Reads.setCell (h : Reads w B size A n xs) {p : Addr} (hB : B ≤ p.block) (u : Value) : Reads (w.setCell p u) B size A n xs :=
  h.keep fun q hq => World.cell?_setCell_other w p q u (fun e => by subst e; omega)
theorem Reads.grown (h : Reads w B size A n xs) {row : Option Nat} (hg : w.grownBy w' row) (hB : B ≤ w.heap.size) (hr : ∀ g, row = some g → B ≤ g) : Reads w' B size A n xs :=
  h.keep fun p hp => World.cell?_of_block (hg.block p.block (by omega) (fun e => by have := hr _ e.symm; omega))
theorem Reads.cut (h : Reads w B size A n xs) {k cap : Nat} (hk : k ≤ n) (hc : n ≤ cap) :
    Reads w B size (if cap = k then A else A.map (·.add (k * size))) (n - k) (xs.drop (k * size)) := by
  refine ⟨by rw [List.length_drop, h.1, Nat.sub_mul], fun hn => ?_⟩
  obtain ⟨ad, rfl, hb, hcell⟩ := h.2 (by omega)
  rw [if_neg (by omega)]
  refine ⟨ad.add (k * size), rfl, by rw [block_of_add]; exact hb, fun j u hu => ?_⟩
  rw [add_of_add]
  exact hcell _ u (by rw [← hu, List.getElem?_drop])
end

def Blk (w : World) (g : Nat) (t : TypeId) (cs : Array Value) : Prop := w.heap[g]? = some (.cells cs t (0, 0))

section
variable {w w' : World} {g : Nat} {t : TypeId} {cs : Array Value}
theorem Blk.lt (h : Blk w g t cs) : g < w.heap.size := by
  rcases Nat.lt_or_ge g w.heap.size with hlt | hge
  · exact hlt
  · unfold Blk at h; rw [Array.getElem?_eq_none hge] at h; cases h
theorem Blk.cell (h : Blk w g t cs) (i : Nat) : w.cell? ⟨g, i, none⟩ = cs[i]? := cell_of_row w g i cs t (0, 0) h
theorem Blk.frozen (h : Blk w g t cs) (i : Nat) : w.frozen? ⟨g, i, none⟩ = false := by
  unfold Blk at h
  simp [World.frozen?, h]
theorem Blk.new (w : World) (t : TypeId) (cs : Array Value) : Blk (w.alloc (.cells cs t)) w.heap.size t cs := heap_alloc_new w _
theorem Blk.drew (h : Blk w g t cs) : Blk w.drew g t cs := h
theorem Blk.alloc (h : Blk w g t cs) (o : Obj) : Blk (w.alloc o) g t cs := (Below.heap_alloc w o g h.lt).trans h
theorem Blk.far (h : Blk w g t cs) {p : Addr} (hp : g ≠ p.block) (u : Value) : Blk (w.setCell p u) g t cs := (Below.heap_setCell w p u g hp).trans h
theorem Blk.below {B : Nat} (h : Blk w g t cs) (hb : Below B w w') (hg : g < B) : Blk w' g t cs := (hb.block g hg).trans h
theorem Blk.grown {row : Option Nat} (h : Blk w g t cs) (hb : w.grownBy w' row) (hg : some g ≠ row) : Blk w' g t cs := (hb.block g h.lt hg).trans h
end

section
variable {P : Program} (w : World)

end

theorem run_make_rowN {P : Program} (t e : TypeId) (i : TypeInfo) (z : Value) (ht : P.underlying t = some (.slice e)) (hi : P.info? e = some i) (hz : i.zero = some z)
    (kl kc : IntKind) (n c : Nat) (hnc : n ≤ c) (hbytes : i.bytes * c ≤ 281474976710656) (h63 : c ≤ 9223372036854775807) (w : World) :
    (Instr.makeSlice t (.int kl (n : Int)) (.int kc (c : Int))).run P w = .ok (.slice (some ⟨w.heap.size, 0, none⟩) n c) (w.alloc (.cells (madeCells z.cells (c * i.size)) e)) := by
  have hb : (i.bytes : Int) * (c : Int) ≤ 281474976710656 := by
    have h : ((i.bytes * c : Nat) : Int) ≤ 281474976710656 := by omega
    rwa [Int.natCast_mul] at h
  have hr := run_make (P := P) w t e i z ht hi hz kl kc n c (by omega) (by omega) hb (by omega)
  simp only [Int.toNat_natCast] at hr
  exact hr
section
variable {H : Type} {enc : TypeId × Value → H} {P : Program}
end

def bcells (l : Bs) : List Value := l.map fun c => .int .u8 (c.toNat : Int)
def icells (l : List Int) : List Value := l.map (Value.int .i64)
theorem bcells_append (l m : Bs) : bcells (l ++ m) = bcells l ++ bcells m := by simp [bcells]
theorem bcells_one (l : Bs) : ∀ u ∈ bcells l, u.oneCell' = true := by
  intro u hu; simp [bcells] at hu; obtain ⟨c, _, rfl⟩ := hu; rfl
theorem icells_get (l : List Int) (k : Nat) (h : k < l.length) : (icells l)[k]? = some (.int .i64 l[k]) := by simp [icells, h]

theorem below_own {B : Nat} {a w w' : World} {e : TypeId} {s n : Nat} {v : Value} {xs : List Value} (h : Below B a w) (hown : w.ownsRow B e s v n xs) (hg : w.grownBy w' v.ownBlock) (hB : B ≤ w.heap.size) : Below B a w' :=
  h.grown hg hB fun k hk => (hown.lt k hk).1
theorem below_none {B : Nat} {a w w' : World} (h : Below B a w) (hg : w.grownBy w' none) (hB : B ≤ w.heap.size) : Below B a w' :=
  h.grown hg hB fun k hk => by cases hk
/-- 'make([]T, n, c)', elements of one cell. -/
theorem wpList_make_len {P : Program} (w : World) {ops : Array Oper} {rest : List Oper} {o : Oper} {a : Act} {Q : Exit → Act → World → Prop}
    (hg : o.guard = none) (l c : Operand) (t : TypeId) (hop : o.op = Op.makeSlice t l c)
    (base : Nat) (e : TypeId) (i : TypeInfo) (z : Value) (h1 : P.underlying t = some (.slice e)) (h2 : P.info? e = some i) (h3 : i.zero = some z) (h4 : i.size = 1) (hz : z.cells = #[z])
    (kl kc : IntKind) (L C : Int) (n m : Nat) (hl : a.eval l = .int kl L) (hc : a.eval c = .int kc C) (hL : L = (n : Int)) (hC : C = (m : Int)) (hnm : n ≤ m) (b2 : i.bytes * m ≤ 281474976710656) (b3 : m ≤ maxLen) (b4 : base ≤ w.heap.size)
    (hK : ∀ w', w'.ownsRow base e 1 (.slice (some ⟨w.heap.size, 0, none⟩) n m) n (List.replicate n z) → w.grownBy w' none → wpList P ops Q rest (a.put o.dst (.slice (some ⟨w.heap.size, 0, none⟩) n m)) w') :
    wpList P ops Q (o :: rest) a w := by
  refine wpList_plain hg fun K hK' => ?_
  have hrun := run_make_rowN (P := P) t e i z h1 h2 h3 kl kc n m hnm b2 (by unfold maxLen at b3; omega) w
  subst hL
  subst hC
  unfold Oper.wp
  simp [execOp, hop, hl, hc, hrun, Result.andThen]
  refine hK' _ _ (hK _ ⟨by simp, .inr ⟨w.heap.size, m, _, rfl, b4, heap_alloc_new w _, hnm, b3, ?_, ?_⟩⟩ (World.grownBy_alloc w _ none))
  · rw [size_madeCells, h4]
  · rw [h4, hz, Nat.mul_one, Nat.mul_one, toList_madeCells_one, List.take_replicate]
    congr 1
    omega

/-- 'copy(out, src)' of a whole row of the call's own. -/
theorem wpList_copy_all {P : Program} {w : World} {ops : Array Oper} {rest : List Oper} {o : Oper} {a : Act} {Q : Exit → Act → World → Prop} (hgd : o.guard = none) (d s : Operand) (dT sT : TypeId)
    (ho : o.op = .call { callee := .builtin .copy, args := #[d, s], argTypes := #[dT, sT] }) (elem : TypeId) (hu : P.underlying dT = some (.slice elem)) (hsz : (P.info? elem).map (·.size) = some 1)
    (base : Nat) (v : Value) (n : Nat) (xs : List Value) (hd : a.eval d = v) (hown : w.ownsRow base elem 1 v n xs)
    (B : Nat) (A : Option Addr) (c : Nat) (ys : List Value) (hs : a.eval s = .slice A n c) (hr : Reads w B 1 A n ys) (h1 : ∀ u ∈ ys, u.oneCell' = true)
    (h : ∀ w', w'.ownsRow base elem 1 v n ys → w.grownBy w' v.ownBlock → wpList P ops Q rest (a.put o.dst (goInt n)) w') :
    wpList P ops Q (o :: rest) a w := by
  have hly : ys.length = n := by have := hr.1; omega
  have hlx : xs.length = n := by have := hown.1; omega
  by_cases h0 : n = 0
  · subst h0
    have hy : ys = [] := List.eq_nil_of_length_eq_zero hly
    have hx : xs = [] := List.eq_nil_of_length_eq_zero hlx
    subst hy hx
    have hv : ∃ dp dc, v = .slice dp 0 dc := by
      rcases hown.2 with ⟨rfl, _⟩ | ⟨g, cap, cur, rfl, _⟩
      · exact ⟨_, _, rfl⟩
      · exact ⟨_, _, rfl⟩
    obtain ⟨dp, dc, rfl⟩ := hv
    exact wpList_copy_nothing hgd d s dT sT ho elem hu hsz dp A 0 dc 0 c hd hs rfl (h w hown (World.grownBy.refl w _))
  · rcases hown.2 with ⟨_, h0'⟩ | ⟨g, cap, cur, rfl, hb, hgg, hnc, hcm, hcs, htake⟩
    · exact absurd h0' h0
    · obtain ⟨ad, rfl, _, hc⟩ := hr.2 (by omega)
      refine wpList_copy_own hgd d s dT sT ho elem hu hsz g 0 n cap ad n c hd hs cur elem hgg ys (by rw [hly]; simp) hc (by omega) h1 ?_
      rw [hly]
      refine h _ ⟨by omega, .inr ⟨g, cap, _, rfl, hb, setRow_heap w g cur _ elem _ hgg, hnc, hcm, ?_, ?_⟩⟩ ⟨rfl, rfl, rfl, by simp, fun k _ hk => setRow_other w g k _ (fun e => hk (by simp [Value.ownBlock, e]))⟩
      · simp; omega
      · simp [← hly]

theorem Reads.cell_ {w : World} {B n k : Nat} {A : Option Addr} {xs : List Value} {u : Value} (h : Reads w B 1 A n xs) (hk : k < n) (hu : xs[k]? = some u) : ∃ ad, A = some ad ∧ ad.block < B ∧ w.cell? (ad.add k) = some u := by
  obtain ⟨ad, v, e, hb, hx, hc⟩ := h.at_ hk
  rw [hu] at hx; injection hx with hx; subst hx
  exact ⟨ad, e, hb, hc⟩
theorem Reads.len {w : World} {B n : Nat} {A : Option Addr} {xs : List Value} (h : Reads w B 1 A n xs) : xs.length = n := by have := h.1; omega
end Go.Proofs.Ytllijcnbjbfabaa

namespace Go.Proofs.Ytllijcnbjbfabaa
open Go.RowKit

theorem Blk.only {w w' : World} {g g' : Nat} {t : TypeId} {cs : Array Value} (h : Blk w g t cs) (hg : w.grownBy w' (some g')) (hne : g ≠ g') : Blk w' g t cs :=
  h.grown hg (fun e => hne (by injection e))
def mkS (l : Bs) : ByteArray := ⟨l.toArray⟩
section
variable {P : Program} (w : World)

end

/-- a row of bytes made of a string: its first n cells -/
def BRow (w : World) (g n : Nat) (e : TypeId) (xs : List Value) : Prop :=
  ∃ (C : Array Value) (m : Nat), w.heap[g]? = some (.cells C e (m, m + 1)) ∧ n ≤ m ∧ n ≤ C.size ∧ C.toList.take n = xs
theorem BRow.lt {w : World} {g n : Nat} {e : TypeId} {xs : List Value} (h : BRow w g n e xs) : g < w.heap.size := by
  obtain ⟨C, m, hg, _⟩ := h; exact (Array.getElem?_eq_some_iff.1 hg).1
theorem BRow.len {w : World} {g n : Nat} {e : TypeId} {xs : List Value} (h : BRow w g n e xs) : xs.length = n := by
  obtain ⟨C, m, hg, _, hn, rfl⟩ := h; simp; omega
theorem BRow.cell {w : World} {g n : Nat} {e : TypeId} {xs : List Value} (h : BRow w g n e xs) (j : Nat) (hj : j < n) : w.cell? ⟨g, j, none⟩ = xs[j]? := by
  obtain ⟨C, m, hg, _, _, rfl⟩ := h
  rw [cell_of_row w g j C e _ hg, List.getElem?_take, if_pos hj]; simp
theorem BRow.frozen {w : World} {g n : Nat} {e : TypeId} {xs : List Value} (h : BRow w g n e xs) (j : Nat) (hj : j < n) : w.frozen? ⟨g, j, none⟩ = false := by
  obtain ⟨C, m, hg, hm, _, rfl⟩ := h
  simp only [World.frozen?, hg]
  have : ¬ m ≤ j := by omega
  simp [this]
theorem BRow.below {w w' : World} {g n B : Nat} {e : TypeId} {xs : List Value} (h : BRow w g n e xs) (hb : Below B w w') (hg : g < B) : BRow w' g n e xs := by
  obtain ⟨C, m, h1, h2⟩ := h; exact ⟨C, m, (hb.block g hg).trans h1, h2⟩
theorem BRow.reads {w : World} {g n : Nat} {e : TypeId} {xs : List Value} (h : BRow w g n e xs) : Reads w w.heap.size 1 (some ⟨g, 0, none⟩) n xs := by
  refine ⟨by rw [h.len]; omega, fun _ => ⟨_, rfl, h.lt, fun j u hu => ?_⟩⟩
  have e1 : (⟨g, 0, none⟩ : Addr).add j = ⟨g, j, none⟩ := by unfold Addr.add; split <;> simp_all
  have hj : j < n := by
    rcases Nat.lt_or_ge j n with h1 | h1
    · exact h1
    · rw [List.getElem?_eq_none (by rw [h.len]; exact h1)] at hu; cases hu
  rw [e1, h.cell j hj]; exact hu

end Go.Proofs.Ytllijcnbjbfabaa

namespace Go.Proofs.Ytllijcnbjbfabaa

structure Geo where
  nodes : Int
  slots : Int
  blocks : Int
  per : Int
  journal : Int
  log : Int
  lease : Int
  wait : Int

abbrev Geo.v (g : Geo) : Value := .agg #[.int .i64 g.nodes, .int .i64 g.slots, .int .i64 g.blocks, .int .i64 g.per, .int .i64 g.journal, .int .i64 g.log, .int .i64 g.lease, .int .i64 g.wait]

structure Geo.OK (g : Geo) : Prop where
  n1 : 1 ≤ g.nodes
  n2 : g.nodes ≤ 16
  s1 : 1 ≤ g.slots
  s2 : g.slots ≤ g.nodes
  b1 : 1 ≤ g.blocks
  b2 : g.blocks ≤ 64
  p1 : 1 ≤ g.per
  p2 : g.per ≤ 8
  j1 : g.per + 2 ≤ g.journal
  j2 : g.journal ≤ 64
  l1 : 8 * g.slots ≤ g.log
  l2 : g.log ≤ 512
  e1 : 1 ≤ g.lease
  e2 : g.lease < g.wait
  e3 : g.wait ≤ 1048576

def Geo.may (g : Geo) : Bool := decide (1 ≤ g.nodes ∧ g.nodes ≤ 16 ∧ 1 ≤ g.slots ∧ g.slots ≤ g.nodes ∧ 1 ≤ g.blocks ∧ g.blocks ≤ 64 ∧ 1 ≤ g.per ∧ g.per ≤ 8 ∧ g.per + 2 ≤ g.journal ∧ g.journal ≤ 64 ∧ 8 * g.slots ≤ g.log ∧ g.log ≤ 512 ∧ 1 ≤ g.lease ∧ g.lease < g.wait ∧ g.wait ≤ 1048576)
theorem Geo.may_ok {g : Geo} (h : g.may = true) : g.OK := by
  obtain ⟨h1, h2, h3, h4, h5, h6, h7, h8, h9, h10, h11, h12, h13, h14, h15⟩ := of_decide_eq_true h
  exact ⟨h1, h2, h3, h4, h5, h6, h7, h8, h9, h10, h11, h12, h13, h14, h15⟩
/-- a stretch of sectors: first, many, kind, per -/
structure Rg where
  first : Int
  many : Int
  kind : Int
  per : Int

def Geo.dataS (g : Geo) (i k : Int) : Int := if g.may = true ∧ 0 ≤ i ∧ i < g.blocks ∧ 0 ≤ k ∧ k < g.per then 1 + 2 * g.nodes + g.log + g.slots * (1 + g.journal) + i * g.per + k else -1
end Go.Proofs.Ytllijcnbjbfabaa

namespace Go.Proofs.Ytllijcnbjbfabaa
open Go.RowKit

/-- a number and a text: a block, or a sector's cell -/
structure Pr where
  n : Int
  t : ByteArray
def prCell (x : Pr) : List Value := [.int .i64 x.n, .string x.t]
def prCells (l : List Pr) : List Value := l.flatMap prCell
/-- the k-th piece of a text -/
def pieceB (t : ByteArray) (k : Nat) : ByteArray := mkS ((t.data.toList.drop (256 * k)).take 256)
/-- where blocks stand -/
def cellsOf (g : Geo) (x : Pr) : List Pr := (List.range g.per.toNat).map fun (k : Nat) => ⟨g.dataS x.n (k : Int), pieceB x.t k⟩
/-- texts in a row -/
def txCells (l : List ByteArray) : List Value := l.map Value.string
end Go.Proofs.Ytllijcnbjbfabaa

namespace Go.Proofs.Ytllijcnbjbfabaa
open Go.RowKit

/-- an act -/
structure Ac where
  k : Int
  s : Int
  b : ByteArray
  key : Int
/-- how many acts there are -/
def many (n : Nat) : Nat := if n = 0 then 0 else 2 * n + 1
end Go.Proofs.Ytllijcnbjbfabaa

namespace Go.Proofs.Ytllijcnbjbfabaa
open Go.RowKit

/-- a device -/
structure Dev where
  s : List ByteArray
  cache : List (List Pr)
  keys : List Int
  next : Int
  fen : List Int

def givenB (d : Dev) (key : Int) : Bool := decide (16 ≤ key ∧ key / 16 < d.next ∧ key % 16 < d.keys.length)
/-- a cache that may be: from a place on, those ahead being given -/
def cachedB (n : Int) : List Pr → List Pr → Bool
  | _, [] => true
  | ahead, x :: l => decide (0 ≤ x.n ∧ x.n < n ∧ x.t.size ≤ 512) && (ahead.all fun y => decide (y.n ≠ x.n)) && cachedB n (ahead ++ [x]) l
def keysB (d : Dev) : Nat → List Int → Bool
  | _, [] => true
  | i, k :: l => cachedB d.s.length [] (d.cache.getD i []) && (decide (k = 0) || (givenB d k && decide (k % 16 = i))) && keysB d (i + 1) l
def fenB (d : Dev) : Option Int → List Int → Bool
  | _, [] => true
  | last, k :: l => givenB d k && (match last with | none => true | some x => decide (x < k)) && fenB d (some k) l
def checkB (d : Dev) : Bool :=
  decide (1 ≤ d.s.length ∧ 1 ≤ d.keys.length ∧ d.keys.length ≤ 16 ∧ d.cache.length = d.keys.length ∧ 1 ≤ d.next ∧ d.next ≤ 68719476736) &&
    (d.s.all fun x => decide (x.size ≤ 512)) && keysB d 0 d.keys && fenB d none d.fen
def fencedB (d : Dev) (keys : List Int) : Bool := keys.any fun k => decide (k < 1) || d.fen.any fun x => decide (x = k)
/-- where a sector stands in a cache -/
def placeN : List Pr → Int → Option Nat
  | [], _ => none
  | x :: l, s => if x.n = s then some 0 else (placeN l s).map (· + 1)
def placeR (l : List Pr) (s : Int) : Int := match placeN l s with | some k => k | none => -1
/-- a key among those that are fenced, as far as it has come -/
def fenceA (l : List Int) (k : Int) : Nat → List Int × Bool
  | 0 => ([], false)
  | j + 1 =>
    let p := fenceA l k j
    match l[j]? with
    | none => p
    | some x =>
      let done := p.2 || decide (x = k)
      (if k < x ∧ done = false then (p.1 ++ [k] ++ [x], true) else (p.1 ++ [x], done))
def fenceR (l : List Int) (k : Int) : List Int := let p := fenceA l k l.length; if p.2 then p.1 else p.1 ++ [k]
/-- a key's six bytes -/
def six (n : Int) : List Int := [n % 256, n / 256 % 256, n / 256 / 256 % 256, n / 256 / 256 / 256 % 256, n / 256 / 256 / 256 / 256 % 256, n / 256 / 256 / 256 / 256 / 256 % 256]
def key6 (n : Int) : ByteArray := ⟨((six n).map fun n => UInt8.ofNat n.toNat).toArray⟩
/-- an act that is done -/
def actD (d : Dev) (node : Nat) (a : Ac) : Dev × ByteArray :=
  let l := d.cache.getD node []
  if a.k = 1 then (d, match placeN l a.s with | some k => (l.getD k ⟨0, ⟨#[]⟩⟩).t | none => d.s.getD a.s.toNat ⟨#[]⟩)
  else if a.k = 2 then ({ d with s := d.s.set a.s.toNat a.b, cache := match placeN l a.s with | some k => d.cache.set node (l.eraseIdx k) | none => d.cache }, ⟨#[]⟩)
  else if a.k = 3 then ({ d with cache := d.cache.set node (match placeN l a.s with | some k => l.set k ⟨a.s, a.b⟩ | none => l ++ [⟨a.s, a.b⟩]) }, ⟨#[]⟩)
  else if a.k = 4 then (match l with | [] => d | x :: r => { d with s := d.s.set x.n.toNat x.t, cache := d.cache.set node r }, ⟨#[]⟩)
  else if a.k = 5 then ({ d with fen := fenceR d.fen a.key }, ⟨#[]⟩)
  else ({ d with keys := d.keys.set node (16 * d.next + node), next := d.next + 1, cache := d.cache.set node [] }, key6 (16 * d.next + node))
/-- why an act is not done -/
def refuseR (d : Dev) (node : Int) (a : Ac) : Int :=
  if checkB d = false ∨ node < 0 ∨ (d.keys.length : Int) ≤ node ∨ a.k < 1 ∨ 6 < a.k then 2
  else if ((a.k = 2 ∨ a.k = 3) ∧ 512 < a.b.size) ∨ (a.k = 5 ∧ givenB d a.key = false) ∨ (a.k = 6 ∧ 68719476736 ≤ d.next) then 2
  else if a.k ≠ 6 ∧ fencedB d [d.keys.getD node.toNat 0] = true then 61
  else if (a.k = 1 ∨ a.k = 2 ∨ a.k = 3) ∧ (a.s < 0 ∨ (d.s.length : Int) ≤ a.s) then 60
  else 0
def doR (d : Dev) (node : Int) (a : Ac) : Dev × ByteArray × Int :=
  if refuseR d node a = 0 then ((actD d node.toNat a).1, (actD d node.toNat a).2, 0) else (d, ⟨#[]⟩, refuseR d node a)
/-- a device in memory: its five values read as its lists -/
def DevIs (w : World) (V : Array Value) (d : Dev) : Prop :=
  ∃ (AS AC AK AF : Option Addr) (cS cC cK cF : Nat) (rows : List Value),
    V = #[.slice AS d.s.length cS, .slice AC d.cache.length cC, .slice AK d.keys.length cK, .int .i64 d.next, .slice AF d.fen.length cF] ∧
    Reads w w.heap.size 1 AS d.s.length (txCells d.s) ∧ Reads w w.heap.size 1 AC d.cache.length rows ∧ Reads w w.heap.size 1 AK d.keys.length (icells d.keys) ∧ Reads w w.heap.size 1 AF d.fen.length (icells d.fen) ∧
    (∀ i (h : i < d.cache.length), ∃ Ai ci, rows[i]? = some (.slice Ai d.cache[i].length ci) ∧ Reads w w.heap.size 2 Ai d.cache[i].length (prCells d.cache[i]))
theorem DevIs.below {w w' : World} {V : Array Value} {d : Dev} (h : DevIs w V d) (hB : Below w.heap.size w w') : DevIs w' V d := by
  obtain ⟨AS, AC, AK, AF, cS, cC, cK, cF, rows, hV, hs, hc, hk, hf, hi⟩ := h
  refine ⟨AS, AC, AK, AF, cS, cC, cK, cF, rows, hV, (hs.below hB).more hB.size, (hc.below hB).more hB.size, (hk.below hB).more hB.size, (hf.below hB).more hB.size, fun i h => ?_⟩
  obtain ⟨Ai, ci, h1, h2⟩ := hi i h
  exact ⟨Ai, ci, h1, (h2.below hB).more hB.size⟩
theorem DevIs.drew {w : World} {V : Array Value} {d : Dev} (h : DevIs w V d) : DevIs w.drew V d := h

theorem placeN_lt {l : List Pr} {s : Int} {k : Nat} (h : placeN l s = some k) : ∃ hk : k < l.length, l[k].n = s := by
  induction l generalizing k with
  | nil => simp [placeN] at h
  | cons x l ih =>
    simp only [placeN] at h
    by_cases hx : x.n = s
    · rw [if_pos hx] at h; injection h with h; subst h; exact ⟨by simp, by simpa using hx⟩
    · rw [if_neg hx] at h
      cases hp : placeN l s with
      | none => rw [hp] at h; simp at h
      | some j =>
        rw [hp] at h
        simp at h
        subst h
        obtain ⟨h1, h2⟩ := ih hp
        exact ⟨by simpa using h1, by simpa using h2⟩
theorem placeN_at {l : List Pr} {s : Int} {j : Nat} (hj : j < l.length) (h : l[j].n = s) (hn : ∀ t (ht : t < l.length), t < j → l[t].n ≠ s) : placeN l s = some j := by
  induction l generalizing j with
  | nil => simp at hj
  | cons x l ih =>
    simp only [placeN]
    cases j with
    | zero => rw [if_pos (by simpa using h)]
    | succ j =>
      have h0 := hn 0 (by simp) (by omega)
      rw [if_neg (by simpa using h0), ih (j := j) (by simpa using hj) (by simpa using h) (fun t ht htj => hn (t + 1) (by simpa using ht) (by omega))]
      rfl
theorem placeN_none {l : List Pr} {s : Int} (hn : ∀ t (ht : t < l.length), l[t].n ≠ s) : placeN l s = none := by
  induction l with
  | nil => rfl
  | cons x l ih =>
    simp only [placeN]
    have h0 := hn 0 (by simp)
    rw [if_neg (by simpa using h0), ih (fun t ht => hn (t + 1) (by simpa using ht))]
    rfl
/-- a cache that may be, by places -/
def cachedP (n : Int) (l : List Pr) (j : Nat) : Prop := ∀ t (h : t < l.length), t < j → (0 ≤ l[t].n ∧ l[t].n < n ∧ l[t].t.size ≤ 512) ∧ ∀ k (hk : k < l.length), k < t → l[k].n ≠ l[t].n
theorem cachedB_iff (n : Int) (a l : List Pr) : cachedB n a l = true ↔ ∀ t (h : t < l.length), (0 ≤ l[t].n ∧ l[t].n < n ∧ l[t].t.size ≤ 512) ∧ (∀ y ∈ a, y.n ≠ l[t].n) ∧ ∀ k (hk : k < l.length), k < t → l[k].n ≠ l[t].n := by
  induction l generalizing a with
  | nil => simp [cachedB]
  | cons x l ih =>
    simp only [cachedB, Bool.and_eq_true, decide_eq_true_eq, List.all_eq_true]
    rw [ih]
    constructor
    · rintro ⟨⟨h1, h2⟩, h3⟩ t ht
      cases t with
      | zero => exact ⟨h1, h2, fun k _ h => absurd h (by omega)⟩
      | succ t =>
        obtain ⟨g1, g2, g3⟩ := h3 t (by simpa using ht)
        refine ⟨g1, fun y hy => g2 y (List.mem_append_left _ hy), fun k hk hkt => ?_⟩
        cases k with
        | zero => exact g2 x (by simp)
        | succ k => exact g3 k (by simpa using hk) (by omega)
    · intro h
      refine ⟨⟨(h 0 (by simp)).1, (h 0 (by simp)).2.1⟩, fun t ht => ?_⟩
      obtain ⟨g1, g2, g3⟩ := h (t + 1) (by simpa using ht)
      refine ⟨g1, fun y hy => ?_, fun k hk hkt => g3 (k + 1) (by simpa using hk) (by omega)⟩
      rcases List.mem_append.1 hy with hy | hy
      · exact g2 y hy
      · have : y = x := by simpa using hy
        subst this
        exact g3 0 (by simp) (by omega)
theorem cachedB_P (n : Int) (l : List Pr) : cachedB n [] l = true ↔ cachedP n l l.length := by
  rw [cachedB_iff]
  constructor
  · intro h t ht _; exact ⟨(h t ht).1, (h t ht).2.2⟩
  · intro h t ht; exact ⟨(h t ht ht).1, by simp, (h t ht ht).2⟩
end Go.Proofs.Ytllijcnbjbfabaa

namespace Go.Proofs
open Go.Shelf
def Try.keysA_ren : Go.Shelf.Ren := ⟨fun | 7 => 61 | 10 => 90 | n => n, fun | 23 => 111 | 26 => 3 | 3 => 4 | 28 => 114 | 0 => 0 | 27 => 113 | 33 => 120 | 4 => 4 | n => n, fun | n => n⟩
theorem Try.keysA : Go.Proofs.SlLaysZI.n7 Try.prog Try.keysA_ren := {
  mixed := by kernel_rfl
  f7 := ⟨Try.f61.name, by decide, Try.func61.trans (congrArg some (by kernel_rfl))⟩
  f10 := ⟨Try.f90.name, by decide, Try.func90.trans (congrArg some (by kernel_rfl))⟩
  t0 := Try.underlying0
  a0 := Try.isAgg0
  z0 := Try.sizeOf0
  v0 := Try.zeroValue0
  t4 := Try.underlying4
  a4 := Try.isAgg4
  z4 := Try.sizeOf4
  v4 := Try.zeroValue4
  t23 := Try.underlying111
  a23 := Try.isAgg111
  z23 := Try.sizeOf111
  v23 := Try.zeroValue111
  t26 := Try.underlying3
  a26 := Try.isAgg3
  z26 := Try.sizeOf3
  v26 := Try.zeroValue3
  t27 := Try.underlying113
  a27 := Try.isAgg113
  z27 := Try.sizeOf113
  v27 := Try.zeroValue113
  t28 := Try.underlying114
  a28 := Try.isAgg114
  z28 := Try.sizeOf114
  v28 := Try.zeroValue114
  t33 := Try.underlying120
  a33 := Try.isAgg120
  z33 := Try.sizeOf120
  v33 := Try.zeroValue120 }
def Try.sortedA_ren : Go.Shelf.Ren := ⟨fun | 6 => 60 | 8 => 88 | 9 => 89 | 11 => 104 | 13 => 106 | 12 => 105 | 23 => 125 | 24 => 126 | 14 => 116 | 15 => 117 | 16 => 118 | 17 => 119 | 18 => 120 | 19 => 121 | 20 => 122 | 21 => 123 | 22 => 124 | 25 => 131 | 26 => 132 | 27 => 133 | 28 => 134 | 29 => 135 | 30 => 136 | 31 => 141 | n => n, fun | 26 => 3 | 28 => 114 | 24 => 34 | 0 => 0 | 3 => 3 | 37 => 96 | 48 => 175 | 50 => 25 | 4 => 4 | 40 => 168 | 39 => 167 | 45 => 172 | 5 => 5 | 9 => 9 | 51 => 182 | 55 => 186 | 57 => 189 | 58 => 190 | 33 => 120 | n => n, fun | n => n⟩
theorem Try.sortedA : Go.Proofs.SlLaysZI.n6 Try.prog Try.sortedA_ren := {
  mixed := by kernel_rfl
  f6 := ⟨Try.f60.name, by decide, Try.func60.trans (congrArg some (by kernel_rfl))⟩
  f8 := ⟨Try.f88.name, by decide, Try.func88.trans (congrArg some (by kernel_rfl))⟩
  f11 := ⟨Try.f104.name, by decide, Try.func104.trans (congrArg some (by kernel_rfl))⟩
  t0 := Try.underlying0
  a0 := Try.isAgg0
  z0 := Try.sizeOf0
  v0 := Try.zeroValue0
  t24 := Try.underlying34
  a24 := Try.isAgg34
  z24 := Try.sizeOf34
  v24 := Try.zeroValue34
  t26 := Try.underlying3
  a26 := Try.isAgg3
  z26 := Try.sizeOf3
  v26 := Try.zeroValue3
  t28 := Try.underlying114
  a28 := Try.isAgg114
  z28 := Try.sizeOf114
  v28 := Try.zeroValue114
  i26 := by kernel_rfl }
def Try.sortA_ren : Go.Shelf.Ren := ⟨fun | 5 => 89 | 8 => 106 | 7 => 105 | 19 => 125 | 20 => 126 | 10 => 116 | 11 => 117 | 12 => 118 | 13 => 119 | 14 => 120 | 15 => 121 | 16 => 122 | 17 => 123 | 18 => 124 | 30 => 131 | 31 => 132 | 32 => 133 | 33 => 134 | 34 => 135 | 35 => 136 | 40 => 141 | n => n, fun | 23 => 34 | 25 => 3 | 3 => 3 | 32 => 96 | 22 => 34 | 0 => 0 | 44 => 175 | 46 => 25 | 4 => 4 | 36 => 168 | 35 => 167 | 41 => 172 | 5 => 5 | 9 => 9 | 53 => 182 | 57 => 186 | 63 => 189 | 64 => 190 | n => n, fun | n => n⟩
theorem Try.sortA : Go.Proofs.SlLaysM.n5 Try.prog Try.sortA_ren := {
  mixed := by kernel_rfl
  f5 := ⟨Try.f89.name, by decide, Try.func89.trans (congrArg some (by kernel_rfl))⟩
  f7 := ⟨Try.f105.name, by decide, Try.func105.trans (congrArg some (by kernel_rfl))⟩
  f8 := Try.func106.trans (congrArg some (by kernel_rfl))
  f10 := ⟨Try.f116.name, by decide, Try.func116.trans (congrArg some (by kernel_rfl))⟩
  f11 := ⟨Try.f117.name, by decide, Try.func117.trans (congrArg some (by kernel_rfl))⟩
  f12 := ⟨Try.f118.name, by decide, Try.func118.trans (congrArg some (by kernel_rfl))⟩
  f13 := ⟨Try.f119.name, by decide, Try.func119.trans (congrArg some (by kernel_rfl))⟩
  f14 := ⟨Try.f120.name, by decide, Try.func120.trans (congrArg some (by kernel_rfl))⟩
  f15 := ⟨Try.f121.name, by decide, Try.func121.trans (congrArg some (by kernel_rfl))⟩
  f16 := ⟨Try.f122.name, by decide, Try.func122.trans (congrArg some (by kernel_rfl))⟩
  f17 := ⟨Try.f123.name, by decide, Try.func123.trans (congrArg some (by kernel_rfl))⟩
  f18 := ⟨Try.f124.name, by decide, Try.func124.trans (congrArg some (by kernel_rfl))⟩
  f19 := Try.func125.trans (congrArg some (by kernel_rfl))
  f20 := Try.func126.trans (congrArg some (by kernel_rfl))
  f30 := ⟨Try.f131.name, by decide, Try.func131.trans (congrArg some (by kernel_rfl))⟩
  f31 := Try.func132.trans (congrArg some (by kernel_rfl))
  f32 := Try.func133.trans (congrArg some (by kernel_rfl))
  f33 := ⟨Try.f134.name, by decide, Try.func134.trans (congrArg some (by kernel_rfl))⟩
  f34 := ⟨Try.f135.name, by decide, Try.func135.trans (congrArg some (by kernel_rfl))⟩
  f35 := ⟨Try.f136.name, by decide, Try.func136.trans (congrArg some (by kernel_rfl))⟩
  f40 := ⟨Try.f141.name, by decide, Try.func141.trans (congrArg some (by kernel_rfl))⟩
  t0 := Try.underlying0
  a0 := Try.isAgg0
  z0 := Try.sizeOf0
  v0 := Try.zeroValue0
  t3 := Try.underlying3
  a3 := Try.isAgg3
  z3 := Try.sizeOf3
  v3 := Try.zeroValue3
  t4 := Try.underlying4
  a4 := Try.isAgg4
  z4 := Try.sizeOf4
  v4 := Try.zeroValue4
  t5 := Try.underlying5
  a5 := Try.isAgg5
  z5 := Try.sizeOf5
  v5 := Try.zeroValue5
  t9 := Try.underlying9
  a9 := Try.isAgg9
  z9 := Try.sizeOf9
  v9 := Try.zeroValue9
  t22 := Try.underlying34
  a22 := Try.isAgg34
  z22 := Try.sizeOf34
  v22 := Try.zeroValue34
  t23 := Try.underlying34
  a23 := Try.isAgg34
  z23 := Try.sizeOf34
  v23 := Try.zeroValue34
  t25 := Try.underlying3
  a25 := Try.isAgg3
  z25 := Try.sizeOf3
  v25 := Try.zeroValue3
  t32 := Try.underlying96
  a32 := Try.isAgg96
  z32 := Try.sizeOf96
  v32 := Try.zeroValue96
  t35 := Try.underlying167
  a35 := Try.isAgg167
  z35 := Try.sizeOf167
  v35 := Try.zeroValue167
  t36 := Try.underlying168
  a36 := Try.isAgg168
  z36 := Try.sizeOf168
  v36 := Try.zeroValue168
  t41 := Try.underlying172
  a41 := Try.isAgg172
  z41 := Try.sizeOf172
  v41 := Try.zeroValue172
  t44 := Try.underlying175
  a44 := Try.isAgg175
  z44 := Try.sizeOf175
  v44 := Try.zeroValue175
  t46 := Try.underlying25
  a46 := Try.isAgg25
  z46 := Try.sizeOf25
  v46 := Try.zeroValue25
  t53 := Try.underlying182
  a53 := Try.isAgg182
  z53 := Try.sizeOf182
  v53 := Try.zeroValue182
  t57 := Try.underlying186
  a57 := Try.isAgg186
  z57 := Try.sizeOf186
  v57 := Try.zeroValue186
  t63 := Try.underlying189
  a63 := Try.isAgg189
  z63 := Try.sizeOf189
  v63 := Try.zeroValue189
  t64 := Try.underlying190
  a64 := Try.isAgg190
  z64 := Try.sizeOf190
  v64 := Try.zeroValue190 }
end Go.Proofs

namespace Go.Proofs.Ytllijcnbjbfabaa
open Go.RowKit

theorem may_any (n : Int) (w : World) :
    Calls Try.prog 92 #[.int .i64 n] w fun e w' => e = .returned (.bool (decide (1 ≤ n ∧ n ≤ 6))) ∧ w = w' := by
  by_cases h1 : 1 ≤ n
  · by_cases h2 : n ≤ 6
    · go_enter Try.func92, Try.ntmps92
      go_wp2
      go_ret
      exact ⟨by simp [h1, h2], rfl⟩
    · go_enter Try.func92, Try.ntmps92
      go_wp2
      go_ret
      exact ⟨by simp [h2], rfl⟩
  · go_enter Try.func92, Try.ntmps92
    go_wp2
    go_ret
    exact ⟨by simp; omega, rfl⟩
theorem may_yes (n : Int) (w : World) (h1 : 1 ≤ n) (h2 : n ≤ 6) :
    Calls Try.prog 92 #[.int .i64 n] w fun e w' => e = .returned (.bool true) ∧ w = w' :=
  (may_any n w).mono fun _ _ h => by rw [decide_eq_true (show 1 ≤ n ∧ n ≤ 6 from ⟨h1, h2⟩)] at h; exact h
theorem may_no (n : Int) (w : World) (h : ¬ (1 ≤ n ∧ n ≤ 6)) :
    Calls Try.prog 92 #[.int .i64 n] w fun e w' => e = .returned (.bool false) ∧ w = w' :=
  (may_any n w).mono fun _ _ h' => by rw [decide_eq_false h] at h'; exact h'

end Go.Proofs.Ytllijcnbjbfabaa

namespace Go.Proofs.Ytllijcnbjbfabaa
open Go.RowKit

theorem most_any (n : Int) (w : World) (h1 : 1 ≤ n) (h2 : n ≤ 6) :
    Calls Try.prog 107 #[.int .i64 n] w fun e w' => e = .returned (.int .i64 (mostW n.toNat)) ∧ w = w' := by
  rcases (show n = 1 ∨ n = 2 ∨ n = 3 ∨ n = 4 ∨ n = 5 ∨ n = 6 by omega) with rfl | rfl | rfl | rfl | rfl | rfl
  all_goals
    clear h1 h2
    go_enter Try.func107, Try.ntmps107
    go_wp2
    all_goals first
      | exact absurd ‹(1099511627776 : Int) < _› (by decide +kernel)
      | exact absurd ‹_ ≤ (1099511627776 : Int)› (by decide +kernel)
      | (go_ret; exact ⟨congrArg (fun x => Ending.returned (.int .i64 x)) (by decide +kernel), rfl⟩)

theorem Fits_any (n wd : Int) (w : World) :
    Calls Try.prog 93 #[.int .i64 n, .int .i64 wd] w fun e w' => e = .returned (.bool (fitsB n wd)) ∧ w = w' := by
  by_cases h : 1 ≤ wd ∧ wd ≤ 6
  · by_cases h0 : 0 ≤ n
    · have hf : fitsB n wd = decide (n ≤ (mostW wd.toNat : Int)) := by simp [fitsB, h.1, h.2, h0]
      rw [hf]
      clear hf
      have hm := most_any wd w h.1 h.2
      generalize mostW wd.toNat = q at *
      have HM := Lib.hid hm; clear hm
      go_enter Try.func93, Try.ntmps93
      go_wp2_with (first
        | (go_at_call 92; refine (may_yes _ _ h.1 h.2).mono ?_; rintro e w' ⟨rfl, rfl⟩)
        | (go_at_call 107; refine (HM.out).mono ?_; rintro e w' ⟨rfl, rfl⟩))
      all_goals go_ret
      all_goals exact ⟨rfl, rfl⟩
    · have hf : fitsB n wd = false := by simp [fitsB, h0]
      rw [hf]
      clear hf
      go_enter Try.func93, Try.ntmps93
      go_wp2_with (first
        | (go_at_call 92; refine (may_yes _ _ h.1 h.2).mono ?_; rintro e w' ⟨rfl, rfl⟩))
      go_ret
      exact ⟨rfl, rfl⟩
  · have hf : fitsB n wd = false := decide_eq_false (by omega)
    rw [hf]
    clear hf
    go_enter Try.func93, Try.ntmps93
    go_wp2_with (first
        | (go_at_call 92; refine (may_no _ _ h).mono ?_; rintro e w' ⟨rfl, rfl⟩))
    go_ret
    exact ⟨rfl, rfl⟩
end Go.Proofs.Ytllijcnbjbfabaa

namespace Go.Proofs.Ytllijcnbjbfabaa
open Go.RowKit

def putAll (n : Nat) (l : List Int) : Bs := l.flatMap fun x => leBytes n x.toNat
def putS (b : Bs) (wd : Int) (l : List Int) : Option Bs := if (1 ≤ wd ∧ wd ≤ 6) ∧ l.all (fitsB · wd) = true then some (b ++ putAll wd.toNat l) else none
def PutPost (w : World) : Option Bs → Ending → World → Prop
  | some x, e, w' => ∃ v, e = .returned (.tuple #[v, .int .i64 0]) ∧ w'.ownsRow w.heap.size 5 1 v x.length (bcells x) ∧ Below w.heap.size w w'
  | none, e, w' => e = .returned (.tuple #[.slice none 0 0, .int .i64 2]) ∧ Below w.heap.size w w'
theorem putAll_length (n : Nat) (l : List Int) : (putAll n l).length = n * l.length := by
  induction l with
  | nil => rfl
  | cons x l ih => simp only [putAll, List.flatMap_cons, List.length_append, leBytes_length] at ih ⊢; rw [ih, List.length_cons, Nat.mul_succ, Nat.add_comm]
theorem putAll_snoc (n : Nat) (l : List Int) (x : Int) : putAll n (l ++ [x]) = putAll n l ++ leBytes n x.toNat := by simp [putAll]
theorem u8_info : (Try.prog.info? 5).map (fun i => (i.zero, i.size, i.bytes)) = some (some (.int .u8 0), 1, 1) := by kernel_rfl
theorem putS_bad {b : Bs} {wd : Int} {l : List Int} {i : Nat} (hi : i < l.length) (hf : fitsB l[i] wd = false) : putS b wd l = none := by
  rw [putS, if_neg]
  rintro ⟨_, h⟩
  rw [List.all_eq_true] at h
  have := h l[i] (List.getElem_mem hi)
  rw [hf] at this
  cases this
theorem putS_ok {b : Bs} {wd : Nat} {l : List Int} (h1 : 1 ≤ wd) (h2 : wd ≤ 6) (hf : ∀ j (h : j < l.length), fitsB l[j] wd = true) : putS b wd l = some (b ++ putAll wd l) := by
  rw [putS, if_pos, Int.toNat_natCast]
  refine ⟨by omega, ?_⟩
  rw [List.all_eq_true]
  intro x hx
  obtain ⟨j, hj, rfl⟩ := List.getElem_of_mem hx
  exact hf j hj

theorem byte_of (x t : Nat) (hx : x ≤ 1099511627776) : bits .and .i64 ((x : Int) / 2 ^ (8 * t)) 255 % 256 = ((x / 256 ^ t % 256 : Nat) : Int) := by
  have e : (2 : Nat) ^ (8 * t) = 256 ^ t := by rw [Nat.pow_mul]
  have e1 : ((x : Int) / 2 ^ (8 * t)) = ((x / 256 ^ t : Nat) : Int) := by rw [← e]; simp
  have h1 : x / 256 ^ t ≤ x := Nat.div_le_self _ _
  rw [e1, show (255 : Int) = ((255 : Nat) : Int) from rfl, i64_and_nat _ _ (by omega) (by omega), nat_mask8]
  omega
set_option maxHeartbeats 1000000 in
set_option maxRecDepth 100000 in
theorem Put_in (Ab Al : Option Addr) (cb cl n : Nat) (b : Bs) (l : List Int) (w : World) (hn1 : 1 ≤ n) (hn6 : n ≤ 6) (hbd : b.length + 6 * l.length ≤ 1000000000)
    (hb : Reads w w.heap.size 1 Ab b.length (bcells b)) (hl : Reads w w.heap.size 1 Al l.length (icells l)) :
    Calls Try.prog 63 #[.slice Ab b.length cb, .int .i64 n, .slice Al l.length cl] w fun e w' => PutPost w (putS b n l) e w' := by
  obtain ⟨i0, hi0, hz0, hz1, hz2⟩ := info_parts u8_info
  have hmul : n * l.length ≤ 6 * l.length := Nat.mul_le_mul_right _ hn6
  obtain ⟨q, hq⟩ : ∃ q, q = n * l.length := ⟨_, rfl⟩
  have HQ := Lib.hid hq
  have hq2 : q ≤ 6 * l.length := by omega
  have hm : (n : Int) * (l.length : Int) = (q : Int) := by rw [hq]; simp
  clear hmul hq
  go_enter Try.func63, Try.ntmps63
  go_wp2_with (first
    | (go_at_call 92; refine (may_yes _ _ (by omega) (by omega)).mono ?_; rintro e w' ⟨rfl, rfl⟩)
    | (at_make; refine wpList_make_len _ rfl _ _ _ rfl w.heap.size 5 i0 (.int .u8 0) Try.underlying58 hi0 hz0 hz1 rfl _ _ _ _ b.length (b.length + q) rfl rfl rfl (by omega) (by omega) (by rw [hz2]; omega) (by unfold maxLen; omega) (Nat.le_refl _) ?_; intro w1 hown1 hg1)
    | ((with_reducible show wpList _ _ _ _ _ _); refine wpList_copy_all (o := ⟨some 27, _, _, _, _, _⟩) rfl (.tmp 25) (.tmp 26) _ _ rfl _ Try.underlying58 (by rw [hi0]; simp [hz1]) w.heap.size (.slice (some ⟨w.heap.size, 0, none⟩) b.length (b.length + q)) b.length _ (by rfl) hown1 w.heap.size Ab cb (bcells b) (by rfl) (hb.below (below_none (Below.refl _ _) hg1 (Nat.le_refl _))) (bcells_one b) ?_; intro w2 hown2 hg2))
  have hB1 : Below w.heap.size w w1 := below_none (Below.refl _ _) hg1 (Nat.le_refl _)
  have hB2 : Below w.heap.size w w2 := below_own hB1 hown1 hg2 hB1.size
  clear hown1 hg1 hg2 hB1
  generalize Value.slice (some ⟨w.heap.size, 0, none⟩) b.length (b.length + q) = v0 at *
  go_loopg [8, 30] l.length (fun k v i wr => ∃ j : Nat, j ≤ l.length ∧ k = l.length - j ∧ i = .int .i64 j ∧ wr.ownsRow w.heap.size 5 1 v (b ++ putAll n (l.take j)).length (bcells (b ++ putAll n (l.take j))) ∧ Below w.heap.size w wr ∧ ∀ t (h : t < l.length), t < j → fitsB l[t] n = true)
  case atStart => exact ⟨0, Nat.zero_le _, by simp, rfl, by simpa [putAll] using hown2, hB2, fun t _ h => absurd h (by omega)⟩
  case round =>
    obtain ⟨j, hj, rfl, rfl, hown, hB, hfit⟩ := hrel
    have HF := Lib.hid hfit; clear hfit
    by_cases hlt : j < l.length
    · obtain ⟨ad, rfl, had, hc⟩ := (hl.below hB).cell_ hlt (icells_get l j hlt)
      by_cases hf : fitsB l[j] n = true
      · obtain ⟨x, hx⟩ : ∃ x : Nat, l[j] = (x : Int) := ⟨l[j].toNat, by have := of_decide_eq_true hf; omega⟩
        rw [hx] at hc hf
        have hx2 := fits_lt hf
        have HFx := Lib.hid hf
        have HX := Lib.hid hx; clear hx
        generalize hpre : b ++ putAll n (l.take j) = pre at *
        have HP := Lib.hid hpre; clear hpre
        go_wp2_with (first
          | (go_at_call 93; refine (Fits_any _ _ _).mono ?_; rintro e w' ⟨rfl, rfl⟩))
        have hpl : pre.length + 6 ≤ 2000000000 := by
          have h1 := HP.out; have h2 := congrArg List.length h1
          rw [List.length_append, putAll_length, List.length_take] at h2
          have h3 : n * min j l.length ≤ 6 * l.length := Nat.mul_le_mul hn6 (by omega)
          omega
        go_loopg [8, 39] n (fun k v i wr => ∃ t : Nat, t ≤ n ∧ k = n - t ∧ i = .int .i64 t ∧ wr.ownsRow w.heap.size 5 1 v (pre ++ leBytes t x).length (bcells (pre ++ leBytes t x)) ∧ Below w.heap.size w wr)
        case atStart => exact ⟨0, Nat.zero_le _, by simp, rfl, by simpa [leBytes] using hown, hB⟩
        case round =>
          clear hown hc hB hf hl hb hown2 hB2
          rename_i wo
          obtain ⟨t, ht, rfl, rfl, hown, hB⟩ := hrel
          by_cases htn : t < n
          · have hlen : (pre ++ leBytes t x).length = pre.length + t := by simp [leBytes_length]
            have HL := Lib.hid hlen; clear hlen
            go_wp2_with (first
              | (at_builtin; refine wpList_append_own _ rfl (.tmp 42) (.tmp 49) 58 rfl w.heap.size 5 i0 (.int .u8 0) 1 1 Try.underlying58 hi0 hz0 hz1 hz2 rfl (by decide) u8 _ _ (by rfl) (hown.alloc _) ⟨wr.heap.size, 0, none⟩ 1 1 _ rfl rfl (cell_one_new _ _ _) (by intro u hu; simp at hu; subst hu; rfl) (by rw [HL.out]; unfold maxLen; omega) (by rw [HL.out]; omega) (by have := hB.size; simp; omega) ?_; intro v1 w1 hown1 hg1 _))
            have hown2 : w1.ownsRow w.heap.size 5 1 v1 (pre ++ leBytes (t + 1) x).length (bcells (pre ++ leBytes (t + 1) x)) := by
              rw [leBytes_snoc, ← List.append_assoc, bcells_append, List.length_append]
              rw [byte_of x t hx2.2.1] at hown1; simpa [bcells] using hown1
            have hB2 : Below w.heap.size w w1 := below_own (hB.alloc hB.size _) (hown.alloc _) hg1 (by have := hB.size; simp; omega)
            clear hown1 hg1 hown
            go_roundg (n - (t + 1))
            case rel => exact ⟨t + 1, by omega, rfl, by go_num, hown2, hB2⟩
            case measure => omega
          · obtain rfl : t = n := by omega
            go_wp2
            go_roundg (l.length - (j + 1))
            case rel =>
              refine ⟨j + 1, by omega, rfl, by go_num, ?_, hB, fun i hi hij => ?_⟩
              · have e : b ++ putAll t (l.take (j + 1)) = pre ++ leBytes t x := by
                  rw [List.take_succ_eq_append_getElem hlt, putAll_snoc, HX.out, Int.toNat_natCast, ← List.append_assoc, HP.out]
                rw [e]; exact hown
              · rcases Nat.lt_or_ge i j with h | h
                · exact HF.out i hi h
                · obtain rfl : i = j := by omega
                  rw [HX.out]; exact HFx.out
            case measure => omega
      · have hf' : fitsB l[j] n = false := by simpa using hf
        have hps := putS_bad (b := b) hlt hf'
        have HPS := Lib.hid hps; clear hps
        go_wp2_with (first
          | (go_at_call 93; refine (Fits_any _ _ _).mono ?_; rintro e w' ⟨rfl, rfl⟩))
        go_ret2
        show PutPost w (putS b n l) _ _
        rw [HPS.out]
        exact ⟨rfl, hB⟩
    · obtain rfl : j = l.length := by omega
      have hps := putS_ok (b := b) hn1 hn6 (fun t ht => HF.out t ht ht)
      rw [List.take_length] at hown
      have HPS := Lib.hid hps; clear hps
      go_wp2
      go_ret2
      show PutPost w (putS b n l) _ _
      rw [HPS.out]
      exact ⟨_, rfl, hown, hB⟩

theorem Put_any (Ab Al : Option Addr) (cb cl : Nat) (n : Int) (b : Bs) (l : List Int) (w : World) (hbd : b.length + 6 * l.length ≤ 1000000000)
    (hb : Reads w w.heap.size 1 Ab b.length (bcells b)) (hl : Reads w w.heap.size 1 Al l.length (icells l)) :
    Calls Try.prog 63 #[.slice Ab b.length cb, .int .i64 n, .slice Al l.length cl] w fun e w' => PutPost w (putS b n l) e w' := by
  by_cases hn : 1 ≤ n ∧ n ≤ 6
  · obtain ⟨n', rfl⟩ := Int.eq_ofNat_of_zero_le (show 0 ≤ n by omega)
    exact Put_in Ab Al cb cl n' b l w (by omega) (by omega) hbd hb hl
  · have hps : putS b n l = none := by rw [putS, if_neg (fun h => hn h.1)]
    rw [hps]
    clear hb hl
    go_enter Try.func63, Try.ntmps63
    go_wp2_with (go_at_call 92; refine (may_no _ _ hn).mono ?_; rintro e w' ⟨rfl, rfl⟩)
    go_ret2
    exact ⟨rfl, Below.refl _ _⟩
end Go.Proofs.Ytllijcnbjbfabaa

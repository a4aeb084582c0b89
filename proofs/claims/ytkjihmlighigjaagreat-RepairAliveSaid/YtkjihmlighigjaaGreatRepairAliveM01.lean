/- Plain facts on the model's bit operations over natural numbers: and, or, xor of i64 and u32, shifts; nothing of the program. -/
import Derived.WalkKit
import Derived.Below
import Derived.Laws.OwnMore
import Derived.Laws.Rows
import Derived.Laws.CopyOwn
import Derived.Laws.MakeOwn
import Derived.Laws.Entries
import Derived.Deep.AppendLies
import Derived.Deep.Draws
import Derived.Deep.OwnRows
import Derived.Deep.QuietTactic
import Derived.Maps.AppendAt
import Derived.RegionTactic
import Derived.OwnWalk
import Derived.ChangeSame
import Derived.Lib.Hide
import Derived.Laws.BytesArg
import Derived.Deep.AppendSrc
import Derived.Laws.IdiomStrings
import Derived.Lib.Strings
import Derived.Test.YtkjihmlighigjaaGreatChecked
import Derived.WalkSpells
import Derived.WalkLawsBesides
import Derived.BigQuiet
import Derived.Deep.LoopGhost
import Derived.StillTailTactics
set_option linter.unusedSimpArgs false
set_option linter.unusedVariables false
namespace Go.Proofs.YtkjihmlighigjaaGreat
open Go.RowKit

theorem ofInt_i64 (a : Nat) (ha : a < 18446744073709551616) : (BitVec.ofInt 64 (a : Int)).toNat = a := by
  simp only [BitVec.toNat_ofInt]
  omega
theorem wrap_i64_nat (n : Nat) (h : n < 9223372036854775808) : IntKind.i64.wrap (n : Int) = n := by
  rw [IntKind.wrap_i64]; omega
theorem i64_or_nat (a b : Nat) (ha : a < 9223372036854775808) (hb : b < 9223372036854775808) : bits .or .i64 (a : Int) (b : Int) = ((a ||| b : Nat) : Int) := by
  show IntKind.i64.wrap ((BitVec.ofInt 64 (a : Int) ||| BitVec.ofInt 64 (b : Int)).toNat : Nat) = _
  rw [BitVec.toNat_or, ofInt_i64 a (by omega), ofInt_i64 b (by omega)]
  have : a ||| b < 2 ^ 63 := Nat.or_lt_two_pow (by omega) (by omega)
  exact wrap_i64_nat _ (by omega)
theorem i64_and_nat (a b : Nat) (ha : a < 9223372036854775808) (hb : b < 9223372036854775808) : bits .and .i64 (a : Int) (b : Int) = ((a &&& b : Nat) : Int) := by
  show IntKind.i64.wrap ((BitVec.ofInt 64 (a : Int) &&& BitVec.ofInt 64 (b : Int)).toNat : Nat) = _
  rw [BitVec.toNat_and, ofInt_i64 a (by omega), ofInt_i64 b (by omega)]
  have : a &&& b < 2 ^ 63 := Nat.and_lt_two_pow _ (by omega)
  exact wrap_i64_nat _ (by omega)
theorem i64_xor_nat (a b : Nat) (ha : a < 9223372036854775808) (hb : b < 9223372036854775808) : bits .xor .i64 (a : Int) (b : Int) = ((a ^^^ b : Nat) : Int) := by
  show IntKind.i64.wrap ((BitVec.ofInt 64 (a : Int) ^^^ BitVec.ofInt 64 (b : Int)).toNat : Nat) = _
  rw [BitVec.toNat_xor, ofInt_i64 a (by omega), ofInt_i64 b (by omega)]
  have : a ^^^ b < 2 ^ 63 := Nat.xor_lt_two_pow (by omega) (by omega)
  exact wrap_i64_nat _ (by omega)

theorem or_byte (z c k : Nat) (hz : z < 256 ^ k) (hc : c < 256) (hk : k ≤ 5) :
    bits .or .i64 (z : Int) (wrap64 ((c : Int) * 2 ^ (8 * k))) = ((z + c * 256 ^ k : Nat) : Int) := by
  have e : (2 : Nat) ^ (8 * k) = 256 ^ k := by rw [Nat.pow_mul]
  have h5 : 256 ^ k ≤ 256 ^ 5 := Nat.pow_le_pow_right (by omega) hk
  have hm : c * 256 ^ k ≤ 255 * 256 ^ 5 := Nat.mul_le_mul (by omega) h5
  have e2 : ((c : Int) * 2 ^ (8 * k)) = ((c * 256 ^ k : Nat) : Int) := by
    rw [← e]; simp
  rw [e2]
  have hw : wrap64 ((c * 256 ^ k : Nat) : Int) = ((c * 256 ^ k : Nat) : Int) := by
    unfold wrap64
    generalize c * 256 ^ k = q at *
    omega
  rw [hw, i64_or_nat _ _ (by omega) (by omega)]
  congr 1
  rw [Nat.or_comm, nat_join (8 * k) _ _ (by rw [e]; exact Nat.mul_mod_left _ _) (by rw [e]; exact hz), Nat.add_comm]
end Go.Proofs.YtkjihmlighigjaaGreat

namespace Go.Proofs.YtkjihmlighigjaaGreat
open Go.RowKit

abbrev Bs := List UInt8
def le : Bs → Nat
  | [] => 0
  | c :: l => c.toNat + 256 * le l
def leBytes : Nat → Nat → Bs
  | 0, _ => []
  | w + 1, n => UInt8.ofNat (n % 256) :: leBytes w (n / 256)

theorem le_lt (l : Bs) : le l < 256 ^ l.length := by
  induction l with
  | nil => simp [le]
  | cons c l ih =>
    have := c.toNat_lt
    simp only [le, List.length_cons, Nat.pow_succ]
    omega
theorem le_append (l m : Bs) : le (l ++ m) = le l + 256 ^ l.length * le m := by
  induction l with
  | nil => simp [le]
  | cons c l ih =>
    simp only [List.cons_append, le, ih, List.length_cons, Nat.pow_succ, Nat.mul_add]
    have : 256 * (256 ^ l.length * le m) = 256 ^ l.length * 256 * le m := by
      rw [← Nat.mul_assoc, Nat.mul_comm 256]
    omega
theorem le_snoc (l : Bs) (c : UInt8) : le (l ++ [c]) = le l + c.toNat * 256 ^ l.length := by
  rw [le_append]; simp [le, Nat.mul_comm]
theorem leBytes_length (w n : Nat) : (leBytes w n).length = w := by
  induction w generalizing n with
  | zero => rfl
  | succ w ih => simp [leBytes, ih]
theorem le_leBytes (w n : Nat) : le (leBytes w n) = n % 256 ^ w := by
  induction w generalizing n with
  | zero => simp [leBytes, le, Nat.mod_one]
  | succ w ih =>
    simp only [leBytes, le, ih]
    have e : (UInt8.ofNat (n % 256)).toNat = n % 256 := by simp
    rw [e, Nat.pow_succ, Nat.mul_comm (256 ^ w) 256, Nat.mod_mul]
theorem leBytes_le (l : Bs) : leBytes l.length (le l) = l := by
  induction l with
  | nil => rfl
  | cons c l ih =>
    have h := c.toNat_lt
    have e1 : (c.toNat + 256 * le l) % 256 = c.toNat := by omega
    have e2 : (c.toNat + 256 * le l) / 256 = le l := by omega
    simp only [List.length_cons, leBytes, le, e1, e2, ih]
    simp
theorem leBytes_snoc (w n : Nat) : leBytes (w + 1) n = leBytes w n ++ [UInt8.ofNat (n / 256 ^ w % 256)] := by
  induction w generalizing n with
  | zero => simp [leBytes]
  | succ w ih =>
    rw [leBytes, ih, leBytes]
    simp only [List.cons_append]
    rw [Nat.div_div_eq_div_mul, Nat.pow_succ, Nat.mul_comm (256 ^ w) 256]
def mostW (w : Nat) : Nat := min (256 ^ w - 1) 1099511627776
def fitsB (n w : Int) : Bool := decide (1 ≤ w ∧ w ≤ 6 ∧ 0 ≤ n ∧ n ≤ mostW w.toNat)
theorem fits_lt {n : Nat} {w : Nat} (h : fitsB n w = true) : n < 256 ^ w ∧ n ≤ 1099511627776 ∧ 1 ≤ w ∧ w ≤ 6 := by
  have h := of_decide_eq_true h
  have : 0 < 256 ^ w := Nat.pow_pos (by omega)
  simp only [Int.toNat_natCast, mostW] at h
  omega

def getS (l : Bs) (a w : Int) : Int × Int :=
  if 1 ≤ w ∧ w ≤ 6 then
    if 0 ≤ a ∧ a + w ≤ l.length then
      if le ((l.drop a.toNat).take w.toNat) ≤ 1099511627776 then (le ((l.drop a.toNat).take w.toNat), 0) else (0, 10)
    else (0, 10)
  else (0, 2)

theorem getS_bad {l : Bs} {a w : Int} (h : ¬ (1 ≤ w ∧ w ≤ 6)) : getS l a w = (0, 2) := by rw [getS, if_neg h]
theorem getS_out {l : Bs} {a w : Int} (h : 1 ≤ w ∧ w ≤ 6) (h' : ¬ (0 ≤ a ∧ a + w ≤ l.length)) : getS l a w = (0, 10) := by rw [getS, if_pos h, if_neg h']
theorem getS_big {l : Bs} {a w : Nat} (h : 1 ≤ w ∧ w ≤ 6) (h' : a + w ≤ l.length) (hn : ¬ le ((l.drop a).take w) ≤ 1099511627776) : getS l a w = (0, 10) := by
  rw [getS, if_pos (by omega), if_pos (by omega)]; simp only [Int.toNat_natCast]; rw [if_neg hn]
theorem getS_ok {l : Bs} {a w : Nat} (h : 1 ≤ w ∧ w ≤ 6) (h' : a + w ≤ l.length) (hn : le ((l.drop a).take w) ≤ 1099511627776) : getS l a w = (((le ((l.drop a).take w) : Nat) : Int), 0) := by
  rw [getS, if_pos (by omega), if_pos (by omega)]; simp only [Int.toNat_natCast]; rw [if_pos hn]

theorem take_drop_snoc (l : Bs) (a k : Nat) (h : a + k < l.length) : (l.drop a).take (k + 1) = (l.drop a).take k ++ [l[a + k]] := by
  rw [List.take_succ_eq_append_getElem (by simp; omega)]; simp
theorem le_take_snoc (l : Bs) (a k : Nat) (h : a + k < l.length) : le ((l.drop a).take (k + 1)) = le ((l.drop a).take k) + l[a + k].toNat * 256 ^ k := by
  rw [take_drop_snoc l a k h, le_snoc]
  congr 3
  simp; omega
theorem le_take_lt (l : Bs) (a k : Nat) : le ((l.drop a).take k) < 256 ^ k := by
  have h1 := le_lt ((l.drop a).take k)
  have h2 : ((l.drop a).take k).length ≤ k := by simp; omega
  exact Nat.lt_of_lt_of_le h1 (Nat.pow_le_pow_right (by omega) h2)
theorem pow256_le (k : Nat) (h : k ≤ 6) : 256 ^ k ≤ 281474976710656 := by
  have := Nat.pow_le_pow_right (n := 256) (by omega) h
  omega

theorem bytes_getElem (s : ByteArray) (i : Nat) (h : i < s.size) : s.data.toList[i]'(by simpa using h) = s[i] := by
  simp [ByteArray.getElem_eq_getElem_data]
theorem bytes_length (s : ByteArray) : s.data.toList.length = s.size := by simp

theorem or_byte2 (s : ByteArray) (a k : Nat) (h : a + k < s.size) (hk : k ≤ 5) :
    bits .or .i64 ((le ((s.data.toList.drop a).take k) : Nat) : Int) (wrap64 (wrap64 ((s[a + k].toNat : Nat) : Int) * 2 ^ (8 * k))) = ((le ((s.data.toList.drop a).take (k + 1)) : Nat) : Int) := by
  have h1 := s[a + k].toNat_lt
  have hw : wrap64 ((s[a + k].toNat : Nat) : Int) = ((s[a + k].toNat : Nat) : Int) := by unfold wrap64; omega
  rw [hw, or_byte _ _ _ (le_take_lt _ _ _) (by omega) hk, le_take_snoc _ _ _ (by simpa using h), bytes_getElem s _ h]
end Go.Proofs.YtkjihmlighigjaaGreat

namespace Go.Proofs.YtkjihmlighigjaaGreat
open Go.RowKit Go.WideShapes Go.ChangeShapes

theorem block_of_add (a : Addr) (n : Nat) : (a.add n).block = a.block := by unfold Addr.add; split <;> rfl
def Reads (w : World) (B size : Nat) (A : Option Addr) (n : Nat) (xs : List Value) : Prop :=
  xs.length = n * size ∧ (0 < n → ∃ ad, A = some ad ∧ ad.block < B ∧ ∀ j u, xs[j]? = some u → w.cell? (ad.add j) = some u)

section
variable {w w' : World} {B B' size n : Nat} {A : Option Addr} {xs : List Value}
theorem Reads.none_ : Reads w B size A 0 [] := ⟨by simp, fun h => absurd h (by omega)⟩
theorem Reads.at_ {k : Nat} (h : Reads w B 1 A n xs) (hk : k < n) : ∃ ad u, A = some ad ∧ ad.block < B ∧ xs[k]? = some u ∧ w.cell? (ad.add k) = some u := by
  obtain ⟨ad, e, hb, hc⟩ := h.2 (by omega)
  have hl : k < xs.length := by have := h.1; omega
  exact ⟨ad, xs[k], e, hb, List.getElem?_eq_getElem hl, hc k _ (List.getElem?_eq_getElem hl)⟩
theorem Reads.keep (h : Reads w B size A n xs) (hk : ∀ p : Addr, p.block < B → w'.cell? p = w.cell? p) : Reads w' B size A n xs :=
  ⟨h.1, fun hn => by
    obtain ⟨ad, e, hb, hc⟩ := h.2 hn
    exact ⟨ad, e, hb, fun j u hu => (hk _ (by rw [block_of_add]; exact hb)).trans (hc j u hu)⟩⟩
theorem Reads.more (h : Reads w B size A n xs) (hB : B ≤ B') : Reads w B' size A n xs :=
  ⟨h.1, fun hn => by
    obtain ⟨ad, e, hb, hc⟩ := h.2 hn
    exact ⟨ad, e, by omega, hc⟩⟩
theorem Reads.below (h : Reads w B size A n xs) (hb : Below B w w') : Reads w' B size A n xs := h.keep fun _ hp => hb.cell hp
theorem Reads.drew (h : Reads w B size A n xs) : Reads w.drew B size A n xs := h
theorem Reads.drewN (h : Reads w B size A n xs) (k : Nat) : Reads (w.drewN k) B size A n xs := h
theorem Reads.alloc (h : Reads w B size A n xs) (hB : B ≤ w.heap.size) (o : Obj) : Reads (w.alloc o) B size A n xs := h.keep fun p hp => World.cell?_alloc_lt w o p (by omega)
theorem Reads.setCell (h : Reads w B size A n xs) {p : Addr} (hB : B ≤ p.block) (u : Value) : Reads (w.setCell p u) B size A n xs :=
  h.keep fun q hq => World.cell?_setCell_other w p q u (fun e => by subst e; omega)
theorem Reads.grown (h : Reads w B size A n xs) {row : Option Nat} (hg : w.grownBy w' row) (hB : B ≤ w.heap.size) (hr : ∀ g, row = some g → B ≤ g) : Reads w' B size A n xs :=
  h.keep fun p hp => World.cell?_of_block (hg.block p.block (by omega) (fun e => by have := hr _ e.symm; omega))
theorem Reads.of_own {base : Nat} {e : TypeId} {c : Nat} (h : w.ownsRow base e size (.slice A n c) n xs) : Reads w w.heap.size size A n xs := by
  refine ⟨h.1, fun hn => ?_⟩
  obtain ⟨g, cap, hv, _, hlt⟩ := h.form hn
  have hA : A = some ⟨g, 0, none⟩ := by injection hv
  subst hA
  exact ⟨_, rfl, hlt, h.cells (g := g) rfl⟩
end

def Blk (w : World) (g : Nat) (t : TypeId) (cs : Array Value) : Prop := w.heap[g]? = some (.cells cs t (0, 0))

section
variable {w w' : World} {g : Nat} {t : TypeId} {cs : Array Value}
theorem Blk.lt (h : Blk w g t cs) : g < w.heap.size := by
  rcases Nat.lt_or_ge g w.heap.size with hlt | hge
  · exact hlt
  · unfold Blk at h; rw [Array.getElem?_eq_none hge] at h; cases h
theorem Blk.cell (h : Blk w g t cs) (i : Nat) : w.cell? ⟨g, i, none⟩ = cs[i]? := cell_of_row w g i cs t (0, 0) h
theorem Blk.frozen (h : Blk w g t cs) (i : Nat) : w.frozen? ⟨g, i, none⟩ = false := by
  unfold Blk at h
  simp [World.frozen?, h]
theorem Blk.new (w : World) (t : TypeId) (cs : Array Value) : Blk (w.alloc (.cells cs t)) w.heap.size t cs := heap_alloc_new w _
theorem Blk.drew (h : Blk w g t cs) : Blk w.drew g t cs := h
theorem Blk.drewN (h : Blk w g t cs) (n : Nat) : Blk (w.drewN n) g t cs := h
theorem Blk.alloc (h : Blk w g t cs) (o : Obj) : Blk (w.alloc o) g t cs := (Below.heap_alloc w o g h.lt).trans h
theorem Blk.set_ (h : Blk w g t cs) (i : Nat) (u : Value) : Blk (w.setCell ⟨g, i, none⟩ u) g t (cs.setIfInBounds i u) := by
  unfold Blk at h ⊢
  simp [World.setCell, Array.getElem?_modify, h]
theorem Blk.far (h : Blk w g t cs) {p : Addr} (hp : g ≠ p.block) (u : Value) : Blk (w.setCell p u) g t cs := (Below.heap_setCell w p u g hp).trans h
theorem Blk.below {B : Nat} (h : Blk w g t cs) (hb : Below B w w') (hg : g < B) : Blk w' g t cs := (hb.block g hg).trans h
theorem Blk.grown {row : Option Nat} (h : Blk w g t cs) (hb : w.grownBy w' row) (hg : some g ≠ row) : Blk w' g t cs := (hb.block g h.lt hg).trans h
theorem Blk.ne_ {g' : Nat} {t' : TypeId} {cs' : Array Value} (h : Blk w g t cs) (h' : Blk w g' t' cs') (hne : t ≠ t') : g ≠ g' := by
  rintro rfl
  unfold Blk at h h'
  rw [h] at h'
  injection h' with h'
  injection h' with _ ht
  exact hne ht
theorem own_blk_ne {base : Nat} {e : TypeId} {size n : Nat} {v : Value} {xs : List Value} (h : w.ownsRow base e size v n xs) (hg : Blk w g t cs) (hne : e ≠ t) : v.ownBlock ≠ some g := by
  rcases h.2 with ⟨rfl, _⟩ | ⟨g', cap, cur, rfl, _, hh, _⟩
  · simp [Value.ownBlock]
  · intro he
    have : g' = g := by simpa [Value.ownBlock] using he
    subst this
    exact Blk.ne_ (t := e) hh hg hne rfl
end

section
variable {P : Program} (w : World)

theorem run_append_of_nil (base : Nat) (t ty e : TypeId) (i : TypeInfo) (size : Nat) (ht : P.underlying t = some (.slice e)) (hi : P.info? e = some i)
    (v : Value) (n : Nat) (xs : List Value) (hown : w.ownsRow base e size v n xs) (c : Nat) : (Builtin.append_ #[t, t] ty #[v, .slice none 0 c]).run P w = .ok v w := by
  rcases hown.2 with ⟨rfl, rfl⟩ | ⟨g, cap, cur, rfl, _, _, hnc, _⟩
  · simp [Builtin.append_, run_underlying ht, sizeOf, typeInfo, hi, Builtin.lenOf, Builtin.firstCells]
  · simp [Builtin.append_, run_underlying ht, sizeOf, typeInfo, hi, Builtin.lenOf, Builtin.firstCells, hnc, storeCells]

theorem run_append_any (base : Nat) (t ty e : TypeId) (i : TypeInfo) (z : Value) (size bytes : Nat) (ht : P.underlying t = some (.slice e)) (hi : P.info? e = some i) (hz : i.zero = some z)
    (hsize : i.size = size) (hby : i.bytes = bytes) (hzs : z.cells.size = size) (hsz : 0 < size)
    (v : Value) (n : Nat) (xs : List Value) (hown : w.ownsRow base e size v n xs)
    (B : Nat) (A : Option Addr) (m c : Nat) (news : List Value) (hr : Reads w B size A m news) (h1 : ∀ u ∈ news, u.oneCell' = true)
    (h63 : n + m ≤ maxLen) (hbytes : (n + m) * bytes ≤ 140737488355328) (hbase : base ≤ w.heap.size) :
    ∃ v' w', (Builtin.append_ #[t, t] ty #[v, .slice A m c]).run P w = .ok v' w' ∧ w'.ownsRow base e size v' (n + m) (xs ++ news) ∧ w.grownBy w' v.ownBlock ∧
      (v'.ownBlock = v.ownBlock ∨ v'.ownBlock = some w.heap.size) := by
  rcases A with _ | ad
  · have hm : m = 0 := by
      rcases Nat.eq_zero_or_pos m with h0 | h0
      · exact h0
      · obtain ⟨ad, h, _⟩ := hr.2 h0
        cases h
    subst hm
    have hn : news = [] := List.eq_nil_of_length_eq_zero (by simpa using hr.1)
    subst hn
    exact ⟨v, w, run_append_of_nil w base t ty e i size ht hi v n xs hown c, by simpa using hown, World.grownBy.refl w _, .inl rfl⟩
  · have hcells : ∀ j u, news[j]? = some u → w.cell? (ad.add j) = some u := by
      intro j u hu
      rcases Nat.eq_zero_or_pos m with h0 | h0
      · subst h0
        have hn : news = [] := List.eq_nil_of_length_eq_zero (by simpa using hr.1)
        subst hn
        simp at hu
      · obtain ⟨ad', h, _, hc⟩ := hr.2 h0
        injection h with h
        subst h
        exact hc j u hu
    obtain ⟨v', w', hrun, h2, h3, _, h5⟩ := run_append_own_at (P := P) w base t ty e i z size bytes ht hi hz hsize hby hzs hsz v n xs hown ad m c news hr.1 hcells h1 h63 hbytes hbase
    exact ⟨v', w', hrun, h2, h3, h5⟩

theorem wp_append_any {o : Oper} {a : Act} {K : Act → World → Prop} {Q : Exit → Act → World → Prop} (s x : Operand) (t : TypeId)
    (ho : o.op = .call { callee := .builtin .append, args := #[s, x], argTypes := #[t, t] })
    (base : Nat) (e : TypeId) (i : TypeInfo) (z : Value) (size bytes : Nat) (ht : P.underlying t = some (.slice e)) (hi : P.info? e = some i) (hz : i.zero = some z)
    (hsize : i.size = size) (hby : i.bytes = bytes) (hzs : z.cells.size = size) (hsz : 0 < size)
    (v : Value) (n : Nat) (xs : List Value) (hs : a.eval s = v) (hown : w.ownsRow base e size v n xs)
    (B : Nat) (A : Option Addr) (m c : Nat) (news : List Value) (hx : a.eval x = .slice A m c) (hr : Reads w B size A m news) (h1 : ∀ u ∈ news, u.oneCell' = true)
    (h63 : n + m ≤ maxLen) (hbytes : (n + m) * bytes ≤ 140737488355328) (hbase : base ≤ w.heap.size)
    (h : ∀ v' w', w'.ownsRow base e size v' (n + m) (xs ++ news) → w.grownBy w' v.ownBlock → (v'.ownBlock = v.ownBlock ∨ v'.ownBlock = some w.heap.size) → K (a.put o.dst v') w') : o.wp P a w K Q := by
  obtain ⟨v', w', hrun, h2, h3, h4⟩ := run_append_any (P := P) w base t o.type e i z size bytes ht hi hz hsize hby hzs hsz v n xs hown B A m c news hr h1 h63 hbytes hbase
  unfold Oper.wp execOp
  simp only [ho, resolve, invoke, builtin, Sem.run_bind, Sem.run_pure, Result.andThen_ok, List.map_toArray, List.map_cons, List.map_nil, hs, hx, hrun]
  exact h v' w' h2 h3 h4

theorem wpList_append_any {ops : Array Oper} {rest : List Oper} {o : Oper} {a : Act} {Q : Exit → Act → World → Prop} (hgd : o.guard = none) (s x : Operand) (t : TypeId)
    (ho : o.op = .call { callee := .builtin .append, args := #[s, x], argTypes := #[t, t] })
    (base : Nat) (e : TypeId) (i : TypeInfo) (z : Value) (size bytes : Nat) (ht : P.underlying t = some (.slice e)) (hi : P.info? e = some i) (hz : i.zero = some z)
    (hsize : i.size = size) (hby : i.bytes = bytes) (hzs : z.cells.size = size) (hsz : 0 < size)
    (v : Value) (n : Nat) (xs : List Value) (hs : a.eval s = v) (hown : w.ownsRow base e size v n xs)
    (B : Nat) (A : Option Addr) (m c : Nat) (news : List Value) (hx : a.eval x = .slice A m c) (hr : Reads w B size A m news) (h1 : ∀ u ∈ news, u.oneCell' = true)
    (h63 : n + m ≤ maxLen) (hbytes : (n + m) * bytes ≤ 140737488355328) (hbase : base ≤ w.heap.size)
    (h : ∀ v' w', w'.ownsRow base e size v' (n + m) (xs ++ news) → w.grownBy w' v.ownBlock → (v'.ownBlock = v.ownBlock ∨ v'.ownBlock = some w.heap.size) → wpList P ops Q rest (a.put o.dst v') w') : wpList P ops Q (o :: rest) a w :=
  wpList_plain hgd fun _ hK => wp_append_any w s x t ho base e i z size bytes ht hi hz hsize hby hzs hsz v n xs hs hown B A m c news hx hr h1 h63 hbytes hbase fun v' w' h2 h3 h4 => hK _ _ (h v' w' h2 h3 h4)

theorem step_append_any {ops : Array Oper} {o : Oper} {a : Act} {K : Act → World → Prop} {Q : Exit → Act → World → Prop} {E : Prop} (hgd : o.guard = none) (s x : Operand) (t : TypeId)
    (ho : o.op = .call { callee := .builtin .append, args := #[s, x], argTypes := #[t, t] })
    (base : Nat) (e : TypeId) (i : TypeInfo) (z : Value) (size bytes : Nat) (ht : P.underlying t = some (.slice e)) (hi : P.info? e = some i) (hz : i.zero = some z)
    (hsize : i.size = size) (hby : i.bytes = bytes) (hzs : z.cells.size = size) (hsz : 0 < size)
    (v : Value) (n : Nat) (xs : List Value) (hs : a.eval s = v) (hown : w.ownsRow base e size v n xs)
    (B : Nat) (A : Option Addr) (m c : Nat) (news : List Value) (hx : a.eval x = .slice A m c) (hr : Reads w B size A m news) (h1 : ∀ u ∈ news, u.oneCell' = true)
    (h63 : n + m ≤ maxLen) (hbytes : (n + m) * bytes ≤ 140737488355328) (hbase : base ≤ w.heap.size)
    (h : ∀ v' w', w'.ownsRow base e size v' (n + m) (xs ++ news) → w.grownBy w' v.ownBlock → (v'.ownBlock = v.ownBlock ∨ v'.ownBlock = some w.heap.size) → K (a.put o.dst v') w') :
    if Region.wanted o (yielded ops a.tmps) = true then Oper.wp P o a w K Q else E := by
  have hw : Region.wanted o (yielded ops a.tmps) = true := by simp [Region.wanted, hgd]
  rw [if_pos hw]
  exact wp_append_any w s x t ho base e i z size bytes ht hi hz hsize hby hzs hsz v n xs hs hown B A m c news hx hr h1 h63 hbytes hbase h
end

theorem quiet_left {P : Program} {f : FuncId} {args : Array Value} {w : World} {n : Nat} {v : Value}
    (h : Calls P f args (w.drewN n) fun e w' => e = .returned v ∧ w.drewN n = w') : Calls P f args (w.drewN n) fun e w'' => e = .returned v ∧ ∃ m, w'' = w.drewN m :=
  h.mono fun _ _ ⟨he, hm⟩ => ⟨he, n, hm.symm⟩

theorem below_drewN {B : Nat} {a w : World} (h : Below B a w) (n : Nat) : Below B a (w.drewN n) := ⟨h.os, h.tape, h.output, h.size, h.block⟩
theorem only_drewN {a w : World} {row : Option Nat} (h : a.grownBy w row) (n : Nat) : a.grownBy (w.drewN n) row := ⟨h.os, h.tape, h.output, h.size, h.block⟩
theorem only_drew {a w : World} {row : Option Nat} (h : a.grownBy w row) : a.grownBy w.drew row := ⟨h.os, h.tape, h.output, h.size, h.block⟩
theorem only_alloc {a w : World} {row : Option Nat} (h : a.grownBy w row) (o : Obj) : a.grownBy (w.alloc o) row :=
  ⟨h.os, h.tape, h.output, Nat.le_trans h.size (by simp), fun i hi hne => (Below.heap_alloc w o i (Nat.lt_of_lt_of_le hi h.size)).trans (h.block i hi hne)⟩
theorem only_setCell {a w : World} {g : Nat} (h : a.grownBy w (some g)) {p : Addr} (hp : p.block = g ∨ a.heap.size ≤ p.block) (u : Value) : a.grownBy (w.setCell p u) (some g) :=
  ⟨h.os, h.tape, h.output, by simpa [World.setCell] using h.size, fun i hi hne => (Below.heap_setCell w p u i (by
    rintro rfl
    rcases hp with hp | hp
    · exact hne (by rw [hp])
    · omega)).trans (h.block i hi hne)⟩
theorem only_of_below {a w : World} (h : Below a.heap.size a w) (row : Option Nat) : a.grownBy w row := ⟨h.os, h.tape, h.output, h.size, fun i hi _ => h.block i hi⟩

theorem run_make_rowN {P : Program} (t e : TypeId) (i : TypeInfo) (z : Value) (ht : P.underlying t = some (.slice e)) (hi : P.info? e = some i) (hz : i.zero = some z)
    (kl kc : IntKind) (n c : Nat) (hnc : n ≤ c) (hbytes : i.bytes * c ≤ 281474976710656) (h63 : c ≤ 9223372036854775807) (w : World) :
    (Instr.makeSlice t (.int kl (n : Int)) (.int kc (c : Int))).run P w = .ok (.slice (some ⟨w.heap.size, 0, none⟩) n c) (w.alloc (.cells (madeCells z.cells (c * i.size)) e)) := by
  have hb : (i.bytes : Int) * (c : Int) ≤ 281474976710656 := by
    have h : ((i.bytes * c : Nat) : Int) ≤ 281474976710656 := by omega
    rwa [Int.natCast_mul] at h
  have hr := run_make (P := P) w t e i z ht hi hz kl kc n c (by omega) (by omega) hb (by omega)
  simp only [Int.toNat_natCast] at hr
  exact hr
section
variable {H : Type} {enc : TypeId × Value → H} {P : Program}
end

def bcells (l : Bs) : List Value := l.map fun c => .int .u8 (c.toNat : Int)
def icells (l : List Int) : List Value := l.map (Value.int .i64)
theorem bcells_length (l : Bs) : (bcells l).length = l.length := by simp [bcells]
theorem bcells_append (l m : Bs) : bcells (l ++ m) = bcells l ++ bcells m := by simp [bcells]
theorem icells_append (l m : List Int) : icells (l ++ m) = icells l ++ icells m := by simp [icells]
theorem bcells_one (l : Bs) : ∀ u ∈ bcells l, u.oneCell' = true := by
  intro u hu; simp [bcells] at hu; obtain ⟨c, _, rfl⟩ := hu; rfl
theorem icells_one (l : List Int) : ∀ u ∈ icells l, u.oneCell' = true := by
  intro u hu; simp [icells] at hu; obtain ⟨c, _, rfl⟩ := hu; rfl
theorem bcells_get (l : Bs) (k : Nat) (h : k < l.length) : (bcells l)[k]? = some (.int .u8 (l[k].toNat : Int)) := by simp [bcells, h]
theorem icells_get (l : List Int) (k : Nat) (h : k < l.length) : (icells l)[k]? = some (.int .i64 l[k]) := by simp [icells, h]

theorem below_own {B : Nat} {a w w' : World} {e : TypeId} {s n : Nat} {v : Value} {xs : List Value} (h : Below B a w) (hown : w.ownsRow B e s v n xs) (hg : w.grownBy w' v.ownBlock) (hB : B ≤ w.heap.size) : Below B a w' :=
  h.grown hg hB fun k hk => (hown.lt k hk).1
theorem below_none {B : Nat} {a w w' : World} (h : Below B a w) (hg : w.grownBy w' none) (hB : B ≤ w.heap.size) : Below B a w' :=
  h.grown hg hB fun k hk => by cases hk
theorem below_step {B : Nat} {a w w' : World} (h : Below B a w) (hb : Below w.heap.size w w') (hB : B ≤ w.heap.size) : Below B a w' := h.trans (hb.mono hB)

theorem wpList_make_len {P : Program} (w : World) {ops : Array Oper} {rest : List Oper} {o : Oper} {a : Act} {Q : Exit → Act → World → Prop}
    (hg : o.guard = none) (l c : Operand) (t : TypeId) (hop : o.op = Op.makeSlice t l c)
    (base : Nat) (e : TypeId) (i : TypeInfo) (z : Value) (h1 : P.underlying t = some (.slice e)) (h2 : P.info? e = some i) (h3 : i.zero = some z) (h4 : i.size = 1) (hz : z.cells = #[z])
    (kl kc : IntKind) (L C : Int) (n m : Nat) (hl : a.eval l = .int kl L) (hc : a.eval c = .int kc C) (hL : L = (n : Int)) (hC : C = (m : Int)) (hnm : n ≤ m) (b2 : i.bytes * m ≤ 281474976710656) (b3 : m ≤ maxLen) (b4 : base ≤ w.heap.size)
    (hK : ∀ w', w'.ownsRow base e 1 (.slice (some ⟨w.heap.size, 0, none⟩) n m) n (List.replicate n z) → w.grownBy w' none → wpList P ops Q rest (a.put o.dst (.slice (some ⟨w.heap.size, 0, none⟩) n m)) w') :
    wpList P ops Q (o :: rest) a w := by
  refine wpList_plain hg fun K hK' => ?_
  have hrun := run_make_rowN (P := P) t e i z h1 h2 h3 kl kc n m hnm b2 (by unfold maxLen at b3; omega) w
  subst hL
  subst hC
  unfold Oper.wp
  simp [execOp, hop, hl, hc, hrun, Result.andThen]
  refine hK' _ _ (hK _ ⟨by simp, .inr ⟨w.heap.size, m, _, rfl, b4, heap_alloc_new w _, hnm, b3, ?_, ?_⟩⟩ (World.grownBy_alloc w _ none))
  · rw [size_madeCells, h4]
  · rw [h4, hz, Nat.mul_one, Nat.mul_one, toList_madeCells_one, List.take_replicate]
    congr 1
    omega

theorem wpList_copy_all {P : Program} {w : World} {ops : Array Oper} {rest : List Oper} {o : Oper} {a : Act} {Q : Exit → Act → World → Prop} (hgd : o.guard = none) (d s : Operand) (dT sT : TypeId)
    (ho : o.op = .call { callee := .builtin .copy, args := #[d, s], argTypes := #[dT, sT] }) (elem : TypeId) (hu : P.underlying dT = some (.slice elem)) (hsz : (P.info? elem).map (·.size) = some 1)
    (base : Nat) (v : Value) (n : Nat) (xs : List Value) (hd : a.eval d = v) (hown : w.ownsRow base elem 1 v n xs)
    (B : Nat) (A : Option Addr) (c : Nat) (ys : List Value) (hs : a.eval s = .slice A n c) (hr : Reads w B 1 A n ys) (h1 : ∀ u ∈ ys, u.oneCell' = true)
    (h : ∀ w', w'.ownsRow base elem 1 v n ys → w.grownBy w' v.ownBlock → wpList P ops Q rest (a.put o.dst (goInt n)) w') :
    wpList P ops Q (o :: rest) a w := by
  have hly : ys.length = n := by have := hr.1; omega
  have hlx : xs.length = n := by have := hown.1; omega
  by_cases h0 : n = 0
  · subst h0
    have hy : ys = [] := List.eq_nil_of_length_eq_zero hly
    have hx : xs = [] := List.eq_nil_of_length_eq_zero hlx
    subst hy hx
    have hv : ∃ dp dc, v = .slice dp 0 dc := by
      rcases hown.2 with ⟨rfl, _⟩ | ⟨g, cap, cur, rfl, _⟩
      · exact ⟨_, _, rfl⟩
      · exact ⟨_, _, rfl⟩
    obtain ⟨dp, dc, rfl⟩ := hv
    exact wpList_copy_nothing hgd d s dT sT ho elem hu hsz dp A 0 dc 0 c hd hs rfl (h w hown (World.grownBy.refl w _))
  · rcases hown.2 with ⟨_, h0'⟩ | ⟨g, cap, cur, rfl, hb, hgg, hnc, hcm, hcs, htake⟩
    · exact absurd h0' h0
    · obtain ⟨ad, rfl, _, hc⟩ := hr.2 (by omega)
      refine wpList_copy_own hgd d s dT sT ho elem hu hsz g 0 n cap ad n c hd hs cur elem hgg ys (by rw [hly]; simp) hc (by omega) h1 ?_
      rw [hly]
      refine h _ ⟨by omega, .inr ⟨g, cap, _, rfl, hb, setRow_heap w g cur _ elem _ hgg, hnc, hcm, ?_, ?_⟩⟩ ⟨rfl, rfl, rfl, by simp, fun k _ hk => setRow_other w g k _ (fun e => hk (by simp [Value.ownBlock, e]))⟩
      · simp; omega
      · simp [← hly]

theorem Reads.lt_addr {w : World} {B size n : Nat} {A : Option Addr} {xs : List Value} (h : Reads w B size A n xs) : ∀ ad, 0 < n → A = some ad → ad.block < B := by
  intro ad hn e; obtain ⟨ad', e', hb, _⟩ := h.2 hn; rw [e] at e'; injection e' with e'; subst e'; exact hb
theorem Reads.cell_ {w : World} {B n k : Nat} {A : Option Addr} {xs : List Value} {u : Value} (h : Reads w B 1 A n xs) (hk : k < n) (hu : xs[k]? = some u) : ∃ ad, A = some ad ∧ ad.block < B ∧ w.cell? (ad.add k) = some u := by
  obtain ⟨ad, v, e, hb, hx, hc⟩ := h.at_ hk
  rw [hu] at hx; injection hx with hx; subst hx
  exact ⟨ad, e, hb, hc⟩
theorem own_reads {w : World} {base : Nat} {e : TypeId} {size n : Nat} {v : Value} {xs : List Value} (h : w.ownsRow base e size v n xs) : ∃ A c, v = .slice A n c ∧ n ≤ c ∧ c ≤ maxLen ∧ Reads w w.heap.size size A n xs := by
  rcases h.2 with ⟨rfl, rfl⟩ | ⟨g, cap, cur, rfl, _, _, h1, h2, _⟩
  · have : xs = [] := List.eq_nil_of_length_eq_zero (by simpa using h.1)
    subst this
    exact ⟨_, _, rfl, Nat.le_refl _, by unfold maxLen; omega, Reads.none_⟩
  · exact ⟨_, _, rfl, h1, h2, Reads.of_own h⟩
theorem Reads.len {w : World} {B n : Nat} {A : Option Addr} {xs : List Value} (h : Reads w B 1 A n xs) : xs.length = n := by have := h.1; omega
theorem own_len {w : World} {base n : Nat} {e : TypeId} {v : Value} {xs : List Value} (h : w.ownsRow base e 1 v n xs) : xs.length = n := by have := h.1; omega
theorem own_below {w w' : World} {base : Nat} {e : TypeId} {size n : Nat} {v : Value} {xs : List Value} (h : w.ownsRow base e size v n xs) (hb : Below w.heap.size w w') : w'.ownsRow base e size v n xs := by
  refine ⟨h.1, ?_⟩
  rcases h.2 with hn | ⟨g, cap, cur, rfl, hbg, hgg, rest⟩
  · exact .inl hn
  · exact .inr ⟨g, cap, cur, rfl, hbg, (hb.block g (Array.getElem?_eq_some_iff.1 hgg).1).trans hgg, rest⟩
theorem own_base {w : World} {base base' : Nat} {e : TypeId} {size n : Nat} {v : Value} {xs : List Value} (h : w.ownsRow base e size v n xs) (hb : base' ≤ base) : w.ownsRow base' e size v n xs := by
  refine ⟨h.1, ?_⟩
  rcases h.2 with hn | ⟨g, cap, cur, rfl, hbg, rest⟩
  · exact .inl hn
  · exact .inr ⟨g, cap, cur, rfl, by omega, rest⟩
end Go.Proofs.YtkjihmlighigjaaGreat

namespace Go.Proofs.YtkjihmlighigjaaGreat
open Go.RowKit

theorem only_trans {a b c : World} {row : Option Nat} (h : a.grownBy b row) (k : b.grownBy c row) : a.grownBy c row :=
  ⟨k.os.trans h.os, k.tape.trans h.tape, k.output.trans h.output, Nat.le_trans h.size k.size, fun i hi hne => (k.block i (Nat.lt_of_lt_of_le hi h.size) hne).trans (h.block i hi hne)⟩
theorem only_own {a w w' : World} {row : Option Nat} {base : Nat} {e : TypeId} {s n : Nat} {v : Value} {xs : List Value} (h : a.grownBy w row) (hown : w.ownsRow base e s v n xs) (hb : a.heap.size ≤ base) (hg : w.grownBy w' v.ownBlock) : a.grownBy w' row :=
  ⟨hg.os.trans h.os, hg.tape.trans h.tape, hg.output.trans h.output, Nat.le_trans h.size hg.size, fun i hi hne => (hg.block i (Nat.lt_of_lt_of_le hi h.size) (fun e => by have := (hown.lt i e.symm).1; omega)).trans (h.block i hi hne)⟩
theorem only_below {a w w' : World} {row : Option Nat} (h : a.grownBy w row) (hb : Below w.heap.size w w') : a.grownBy w' row :=
  only_trans h (only_of_below hb row)
theorem below_only {a w w' : World} {g : Nat} (h : Below a.heap.size a w) (hg : w.grownBy w' (some g)) (hlt : a.heap.size ≤ g) : Below a.heap.size a w' :=
  h.grown hg h.size (fun k hk => by injection hk with hk; omega)
theorem Blk.only {w w' : World} {g g' : Nat} {t : TypeId} {cs : Array Value} (h : Blk w g t cs) (hg : w.grownBy w' (some g')) (hne : g ≠ g') : Blk w' g t cs :=
  h.grown hg (fun e => hne (by injection e))
theorem reads_blk {w : World} {g : Nat} {t : TypeId} {cs : Array Value} (h : Blk w g t cs) {n : Nat} (hn : cs.size = n) {xs : List Value} (hx : cs.toList = xs) : Reads w w.heap.size 1 (some ⟨g, 0, none⟩) n xs := by
  subst hx hn
  refine ⟨by simp, fun _ => ⟨_, rfl, h.lt, fun j u hu => ?_⟩⟩
  have : (⟨g, 0, none⟩ : Addr).add j = ⟨g, j, none⟩ := by unfold Addr.add; split <;> simp_all
  rw [this, h.cell j]
  simpa using hu
theorem Blk.cells4 {w : World} {g : Nat} {t : TypeId} {a b c d : Value} (h : Blk w g t #[a, b, c, d]) : w.cell? ⟨g, 0, none⟩ = some a ∧ w.cell? ⟨g, 1, none⟩ = some b ∧ w.cell? ⟨g, 2, none⟩ = some c ∧ w.cell? ⟨g, 3, none⟩ = some d :=
  ⟨h.cell 0, h.cell 1, h.cell 2, h.cell 3⟩
theorem Blk.frozen4 {w : World} {g : Nat} {t : TypeId} {cs : Array Value} (h : Blk w g t cs) : w.frozen? ⟨g, 0, none⟩ = false ∧ w.frozen? ⟨g, 1, none⟩ = false ∧ w.frozen? ⟨g, 2, none⟩ = false ∧ w.frozen? ⟨g, 3, none⟩ = false :=
  ⟨h.frozen 0, h.frozen 1, h.frozen 2, h.frozen 3⟩

def mkS (l : Bs) : ByteArray := ⟨l.toArray⟩
theorem mkS_toList (l : Bs) : (mkS l).data.toList = l := rfl
theorem mkS_size (l : Bs) : (mkS l).size = l.length := by simp [mkS, ByteArray.size]
theorem mkS_self (s : ByteArray) : mkS s.data.toList = s := by cases s; rfl

section
variable {P : Program} (w : World)

theorem run_append_src (base : Nat) (t tx ty e : TypeId) (i : TypeInfo) (z : Value) (bytes : Nat) (ht : P.underlying t = some (.slice e)) (hi : P.info? e = some i) (hz : i.zero = some z)
    (hsize : i.size = 1) (hby : i.bytes = bytes) (hzs : z.cells.size = 1)
    (v : Value) (n : Nat) (xs : List Value) (hown : w.ownsRow base e 1 v n xs) (hn : 0 < n)
    (x : Value) (m : Nat) (news : List Value) (hs : Src P 1 tx x m news w)
    (h63 : n + m ≤ maxLen) (hbytes : (n + m) * bytes ≤ 140737488355328) (hbase : base ≤ w.heap.size) :
    ∃ v' w', (Builtin.append_ #[t, tx] ty #[v, x]).run P w = .ok v' w' ∧ w'.ownsRow base e 1 v' (n + m) (xs ++ news) ∧ w.grownBy w' v.ownBlock ∧
      (v'.ownBlock = v.ownBlock ∨ v'.ownBlock = some w.heap.size) := by
  have hl : news.length = m := by have := hs.newsLen; omega
  have hlx : xs.length = n := own_len hown
  have hlen : (xs ++ news).length = (n + m) * 1 := by rw [List.length_append]; omega
  have h63' : n + m ≤ 9223372036854775807 := by unfold maxLen at h63; omega
  rcases hown.2 with ⟨_, h0⟩ | ⟨g, cap, cur, rfl, hbg, hg, hnc, hcm, hcs, htake⟩
  · omega
  · by_cases hroom : n + m ≤ cap
    · have hfit : n * i.size + news.length ≤ cur.size := by rw [hsize]; omega
      have hst := run_storeCells_at P g (n * i.size) e news 0 cur w hg (by simpa using hfit) hs.one
      simp only [Nat.add_zero] at hst
      have hcells := hs.cells
      rw [← hsize] at hcells
      have hr : (Builtin.append_ #[t, tx] ty #[.slice (some ⟨g, 0, none⟩) n cap, x]).run P w = .ok (.slice (some ⟨g, 0, none⟩) (n + m) cap) (w.setRow g (cur.toList.take (n * i.size) ++ news ++ cur.toList.drop (n * i.size + news.length)).toArray) := by
        rcases hs.kind with ⟨e', hk⟩ | hk <;> simp [Builtin.append_, run_underlying ht, run_underlying hk, sizeOf, typeInfo, hi, hs.len, hroom, hcells, Addr.add_lit, hst]
      refine ⟨_, _, hr, ⟨hlen, .inr ⟨g, cap, _, rfl, hbg, setRow_heap w g cur _ e _ hg, hroom, hcm, ?_, ?_⟩⟩, ⟨rfl, rfl, rfl, by simp, fun k _ hk => setRow_other w g k _ (fun e => hk (by simp [Value.ownBlock, e]))⟩, .inl rfl⟩
      · simp only [List.size_toArray, List.length_append, List.length_take, List.length_drop, Array.length_toList, hsize]
        omega
      · rw [hsize, htake, ← hlen]
        exact List.take_left
    · have holds : ∀ j u, xs[j]? = some u → w.cell? ((⟨g, 0, none⟩ : Addr).add j) = some u := hown.cells (g := g) rfl
      have hs' := hs
      rw [← hsize] at hs'
      have hold : (Builtin.firstCells i.size n (.slice (some ⟨g, 0, none⟩) n cap)).run P w.drew = .ok xs.toArray w.drew :=
        run_firstCells_some w.drew i.size n ⟨g, 0, none⟩ n cap xs (by rw [hsize]; omega) (by simpa using holds)
      have hr := run_append_grow_src (P := P) w t tx ty e i z ht hi hz (some ⟨g, 0, none⟩) n cap xs hold x m news hs' (by omega) (by omega) (by rw [hby]; exact growslice_fits (by omega) hbytes)
      have hge := grownCap_ge w (n + m) cap e
      have hcm' : grownCap w (n + m) cap e ≤ maxLen := grownCap_le_maxLen w (n + m) cap e h63
      refine ⟨_, _, hr, ⟨hlen, .inr ⟨w.heap.size, _, _, rfl, hbase, heap_alloc_new w.drew _, hge, hcm', ?_, ?_⟩⟩, ⟨rfl, rfl, rfl, by simp, fun k hk hne => (World.grownBy_alloc w.drew _ _).block k hk hne⟩, .inr rfl⟩
      · simp only [Array.size_append, List.size_toArray, size_zeroCells, hzs, List.length_append]
        omega
      · simp only [Array.toList_append]
        rw [← hlen]
        exact List.take_left

theorem wp_append_src {o : Oper} {a : Act} {K : Act → World → Prop} {Q : Exit → Act → World → Prop} (s x : Operand) (t tx : TypeId)
    (ho : o.op = .call { callee := .builtin .append, args := #[s, x], argTypes := #[t, tx] })
    (base : Nat) (e : TypeId) (i : TypeInfo) (z : Value) (bytes : Nat) (ht : P.underlying t = some (.slice e)) (hi : P.info? e = some i) (hz : i.zero = some z)
    (hsize : i.size = 1) (hby : i.bytes = bytes) (hzs : z.cells.size = 1)
    (v : Value) (n : Nat) (xs : List Value) (hv : a.eval s = v) (hown : w.ownsRow base e 1 v n xs) (hn : 0 < n)
    (y : Value) (m : Nat) (news : List Value) (hx : a.eval x = y) (hs : Src P 1 tx y m news w)
    (h63 : n + m ≤ maxLen) (hbytes : (n + m) * bytes ≤ 140737488355328) (hbase : base ≤ w.heap.size)
    (h : ∀ v' w', w'.ownsRow base e 1 v' (n + m) (xs ++ news) → w.grownBy w' v.ownBlock → (v'.ownBlock = v.ownBlock ∨ v'.ownBlock = some w.heap.size) → K (a.put o.dst v') w') : o.wp P a w K Q := by
  obtain ⟨v', w', hrun, h2, h3, h4⟩ := run_append_src (P := P) w base t tx o.type e i z bytes ht hi hz hsize hby hzs v n xs hown hn y m news hs h63 hbytes hbase
  unfold Oper.wp execOp
  simp only [ho, resolve, invoke, builtin, Sem.run_bind, Sem.run_pure, Result.andThen_ok, List.map_toArray, List.map_cons, List.map_nil, hv, hx, hrun]
  exact h v' w' h2 h3 h4

theorem wpList_append_src {ops : Array Oper} {rest : List Oper} {o : Oper} {a : Act} {Q : Exit → Act → World → Prop} (hgd : o.guard = none) (s x : Operand) (t tx : TypeId)
    (ho : o.op = .call { callee := .builtin .append, args := #[s, x], argTypes := #[t, tx] })
    (base : Nat) (e : TypeId) (i : TypeInfo) (z : Value) (bytes : Nat) (ht : P.underlying t = some (.slice e)) (hi : P.info? e = some i) (hz : i.zero = some z)
    (hsize : i.size = 1) (hby : i.bytes = bytes) (hzs : z.cells.size = 1)
    (v : Value) (n : Nat) (xs : List Value) (hv : a.eval s = v) (hown : w.ownsRow base e 1 v n xs) (hn : 0 < n)
    (y : Value) (m : Nat) (news : List Value) (hx : a.eval x = y) (hs : Src P 1 tx y m news w)
    (h63 : n + m ≤ maxLen) (hbytes : (n + m) * bytes ≤ 140737488355328) (hbase : base ≤ w.heap.size)
    (h : ∀ v' w', w'.ownsRow base e 1 v' (n + m) (xs ++ news) → w.grownBy w' v.ownBlock → (v'.ownBlock = v.ownBlock ∨ v'.ownBlock = some w.heap.size) → wpList P ops Q rest (a.put o.dst v') w') : wpList P ops Q (o :: rest) a w :=
  wpList_plain hgd fun _ hK => wp_append_src w s x t tx ho base e i z bytes ht hi hz hsize hby hzs v n xs hv hown hn y m news hx hs h63 hbytes hbase fun v' w' h2 h3 h4 => hK _ _ (h v' w' h2 h3 h4)

theorem run_string_of (src dst e : TypeId) (hs : P.underlying src = some (.slice e)) (he : P.underlying e = some (.int .u8)) (hd : P.underlying dst = some .string)
    (B : Nat) (A : Option Addr) (c : Nat) (l : Bs) (hr : Reads w B 1 A l.length (bcells l)) :
    (convert src dst (.slice A l.length c)).run P w = .ok (.string (mkS l)) w := by
  rw [run_convert_bytes_string w src dst e _ l.length c hs he hd]
  have key : ∀ ad : Addr, (∀ j v, (bcells l)[j]? = some v → w.cell? (ad.add j) = some v) → (Conv.bytesToString (.slice (some ad) l.length c)).run P w = .ok (.string (mkS l)) w := by
    intro ad hc
    have hl := run_loadCells_list (P := P) w ad (bcells l) hc
    rw [bcells_length] at hl
    have he : bcells l = (l.map fun c => (c.toNat : Int)).map (Value.int .u8) := by simp [bcells]
    rw [he] at hl
    rw [run_bytesToString w ad l.length c _ hl, foldl_push_bytes]
    congr 2
    have hid : ((fun n : Int => UInt8.ofNat n.toNat) ∘ fun c : UInt8 => (c.toNat : Int)) = id := by funext c; simp
    simp [mkS, ByteArray.empty, ByteArray.emptyWithCapacity, hid]
    rfl
  by_cases h0 : l.length = 0
  · have : l = [] := List.eq_nil_of_length_eq_zero h0
    subst this
    cases A with
    | none => simp [Conv.bytesToString]; rfl
    | some ad => exact key ad (fun j v h => by simp [bcells] at h)
  · obtain ⟨ad, rfl, _, hc⟩ := hr.2 (by omega)
    exact key ad hc

end

def BRow (w : World) (g n : Nat) (e : TypeId) (xs : List Value) : Prop :=
  ∃ (C : Array Value) (m : Nat), w.heap[g]? = some (.cells C e (m, m + 1)) ∧ n ≤ m ∧ n ≤ C.size ∧ C.toList.take n = xs
theorem BRow.lt {w : World} {g n : Nat} {e : TypeId} {xs : List Value} (h : BRow w g n e xs) : g < w.heap.size := by
  obtain ⟨C, m, hg, _⟩ := h; exact (Array.getElem?_eq_some_iff.1 hg).1
theorem BRow.len {w : World} {g n : Nat} {e : TypeId} {xs : List Value} (h : BRow w g n e xs) : xs.length = n := by
  obtain ⟨C, m, hg, _, hn, rfl⟩ := h; simp; omega
theorem BRow.cell {w : World} {g n : Nat} {e : TypeId} {xs : List Value} (h : BRow w g n e xs) (j : Nat) (hj : j < n) : w.cell? ⟨g, j, none⟩ = xs[j]? := by
  obtain ⟨C, m, hg, _, _, rfl⟩ := h
  rw [cell_of_row w g j C e _ hg, List.getElem?_take, if_pos hj]; simp
theorem BRow.frozen {w : World} {g n : Nat} {e : TypeId} {xs : List Value} (h : BRow w g n e xs) (j : Nat) (hj : j < n) : w.frozen? ⟨g, j, none⟩ = false := by
  obtain ⟨C, m, hg, hm, _, rfl⟩ := h
  simp only [World.frozen?, hg]
  have : ¬ m ≤ j := by omega
  simp [this]
theorem BRow.set_ {w : World} {g n : Nat} {e : TypeId} {xs : List Value} (h : BRow w g n e xs) (j : Nat) (u : Value) : BRow (w.setCell ⟨g, j, none⟩ u) g n e (xs.set j u) := by
  obtain ⟨C, m, hg, hm, hn, rfl⟩ := h
  refine ⟨C.setIfInBounds j u, m, ?_, hm, by simpa using hn, ?_⟩
  · simp [World.setCell, Array.getElem?_modify, hg]
  · simp [List.take_set]
theorem BRow.below {w w' : World} {g n B : Nat} {e : TypeId} {xs : List Value} (h : BRow w g n e xs) (hb : Below B w w') (hg : g < B) : BRow w' g n e xs := by
  obtain ⟨C, m, h1, h2⟩ := h; exact ⟨C, m, (hb.block g hg).trans h1, h2⟩
theorem BRow.reads {w : World} {g n : Nat} {e : TypeId} {xs : List Value} (h : BRow w g n e xs) : Reads w w.heap.size 1 (some ⟨g, 0, none⟩) n xs := by
  refine ⟨by rw [h.len]; omega, fun _ => ⟨_, rfl, h.lt, fun j u hu => ?_⟩⟩
  have e1 : (⟨g, 0, none⟩ : Addr).add j = ⟨g, j, none⟩ := by unfold Addr.add; split <;> simp_all
  have hj : j < n := by
    rcases Nat.lt_or_ge j n with h1 | h1
    · exact h1
    · rw [List.getElem?_eq_none (by rw [h.len]; exact h1)] at hu; cases hu
  rw [e1, h.cell j hj]; exact hu

theorem run_bytes_new {P : Program} (w : World) (src dst e : TypeId) (s : ByteArray) (hs : P.underlying src = some .string) (hd : P.underlying dst = some (.slice e)) (he : P.underlying e = some (.int .u8)) (hm : s.size ≤ maxLen) :
    ∃ c w', (convert src dst (.string s)).run P w = .ok (.slice (some ⟨w.heap.size, 0, none⟩) s.size c) w' ∧ s.size ≤ c ∧ c ≤ maxLen ∧ BRow w' w.heap.size s.size e (bcells s.data.toList) ∧ Below w.heap.size w w' ∧ w'.heap.size = w.heap.size + 1 := by
  have hr := run_bytes_of_string (P := P) w src dst e s hs hd he
  have hge : s.size ≤ grownCap w s.size 0 e := grownCap_ge w s.size 0 e
  refine ⟨_, _, hr, hge, grownCap_le_maxLen w _ _ _ hm, ⟨bytesRow s (grownCap w s.size 0 e), (bytesRow s (grownCap w s.size 0 e)).size, ?_, ?_, ?_, ?_⟩, (Below.refl _ _).drew.alloc (by exact Nat.le_refl _) _, by simp⟩
  · show (w.heap.push _)[w.heap.size]? = _
    simp
  · simp [bytesRow]
  · simp [bytesRow]
  · unfold bytesRow bcells
    simp
end Go.Proofs.YtkjihmlighigjaaGreat

namespace Go.Proofs.YtkjihmlighigjaaGreat

structure Geo where
  nodes : Int
  slots : Int
  blocks : Int
  per : Int
  journal : Int
  log : Int
  lease : Int
  wait : Int

abbrev Geo.v (g : Geo) : Value := .agg #[.int .i64 g.nodes, .int .i64 g.slots, .int .i64 g.blocks, .int .i64 g.per, .int .i64 g.journal, .int .i64 g.log, .int .i64 g.lease, .int .i64 g.wait]

structure Geo.OK (g : Geo) : Prop where
  n1 : 1 ≤ g.nodes
  n2 : g.nodes ≤ 16
  s1 : 1 ≤ g.slots
  s2 : g.slots ≤ g.nodes
  b1 : 1 ≤ g.blocks
  b2 : g.blocks ≤ 64
  p1 : 1 ≤ g.per
  p2 : g.per ≤ 8
  j1 : g.per + 2 ≤ g.journal
  j2 : g.journal ≤ 64
  l1 : 8 * g.slots ≤ g.log
  l2 : g.log ≤ 512
  e1 : 1 ≤ g.lease
  e2 : g.lease < g.wait
  e3 : g.wait ≤ 1048576

def Geo.may (g : Geo) : Bool := decide (1 ≤ g.nodes ∧ g.nodes ≤ 16 ∧ 1 ≤ g.slots ∧ g.slots ≤ g.nodes ∧ 1 ≤ g.blocks ∧ g.blocks ≤ 64 ∧ 1 ≤ g.per ∧ g.per ≤ 8 ∧ g.per + 2 ≤ g.journal ∧ g.journal ≤ 64 ∧ 8 * g.slots ≤ g.log ∧ g.log ≤ 512 ∧ 1 ≤ g.lease ∧ g.lease < g.wait ∧ g.wait ≤ 1048576)
structure Rg where
  first : Int
  many : Int
  kind : Int
  per : Int

def Geo.dataS (g : Geo) (i k : Int) : Int := if g.may = true ∧ 0 ≤ i ∧ i < g.blocks ∧ 0 ≤ k ∧ k < g.per then 1 + 2 * g.nodes + g.log + g.slots * (1 + g.journal) + i * g.per + k else -1
end Go.Proofs.YtkjihmlighigjaaGreat

namespace Go.Proofs.YtkjihmlighigjaaGreat
open Go.RowKit

structure Pr where
  n : Int
  t : ByteArray
def prCell (x : Pr) : List Value := [.int .i64 x.n, .string x.t]
def prCells (l : List Pr) : List Value := l.flatMap prCell
def pieceB (t : ByteArray) (k : Nat) : ByteArray := mkS ((t.data.toList.drop (256 * k)).take 256)
def cellsOf (g : Geo) (x : Pr) : List Pr := (List.range g.per.toNat).map fun (k : Nat) => ⟨g.dataS x.n (k : Int), pieceB x.t k⟩
def txCells (l : List ByteArray) : List Value := l.map Value.string
end Go.Proofs.YtkjihmlighigjaaGreat

namespace Go.Proofs.YtkjihmlighigjaaGreat
open Go.RowKit

structure Ac where
  k : Int
  s : Int
  b : ByteArray
  key : Int
def many (n : Nat) : Nat := if n = 0 then 0 else 2 * n + 1
end Go.Proofs.YtkjihmlighigjaaGreat

namespace Go.Proofs.YtkjihmlighigjaaGreat
open Go.RowKit

structure Dev where
  s : List ByteArray
  cache : List (List Pr)
  keys : List Int
  next : Int
  fen : List Int

def givenB (d : Dev) (key : Int) : Bool := decide (16 ≤ key ∧ key / 16 < d.next ∧ key % 16 < d.keys.length)
def cachedB (n : Int) : List Pr → List Pr → Bool
  | _, [] => true
  | ahead, x :: l => decide (0 ≤ x.n ∧ x.n < n ∧ x.t.size ≤ 512) && (ahead.all fun y => decide (y.n ≠ x.n)) && cachedB n (ahead ++ [x]) l
def keysB (d : Dev) : Nat → List Int → Bool
  | _, [] => true
  | i, k :: l => cachedB d.s.length [] (d.cache.getD i []) && (decide (k = 0) || (givenB d k && decide (k % 16 = i))) && keysB d (i + 1) l
def fenB (d : Dev) : Option Int → List Int → Bool
  | _, [] => true
  | last, k :: l => givenB d k && (match last with | none => true | some x => decide (x < k)) && fenB d (some k) l
def checkB (d : Dev) : Bool :=
  decide (1 ≤ d.s.length ∧ 1 ≤ d.keys.length ∧ d.keys.length ≤ 16 ∧ d.cache.length = d.keys.length ∧ 1 ≤ d.next ∧ d.next ≤ 68719476736) &&
    (d.s.all fun x => decide (x.size ≤ 512)) && keysB d 0 d.keys && fenB d none d.fen
def DevIs (w : World) (V : Array Value) (d : Dev) : Prop :=
  ∃ (AS AC AK AF : Option Addr) (cS cC cK cF : Nat) (rows : List Value),
    V = #[.slice AS d.s.length cS, .slice AC d.cache.length cC, .slice AK d.keys.length cK, .int .i64 d.next, .slice AF d.fen.length cF] ∧
    Reads w w.heap.size 1 AS d.s.length (txCells d.s) ∧ Reads w w.heap.size 1 AC d.cache.length rows ∧ Reads w w.heap.size 1 AK d.keys.length (icells d.keys) ∧ Reads w w.heap.size 1 AF d.fen.length (icells d.fen) ∧
    (∀ i (h : i < d.cache.length), ∃ Ai ci, rows[i]? = some (.slice Ai d.cache[i].length ci) ∧ Reads w w.heap.size 2 Ai d.cache[i].length (prCells d.cache[i]))
theorem DevIs.below {w w' : World} {V : Array Value} {d : Dev} (h : DevIs w V d) (hB : Below w.heap.size w w') : DevIs w' V d := by
  obtain ⟨AS, AC, AK, AF, cS, cC, cK, cF, rows, hV, hs, hc, hk, hf, hi⟩ := h
  refine ⟨AS, AC, AK, AF, cS, cC, cK, cF, rows, hV, (hs.below hB).more hB.size, (hc.below hB).more hB.size, (hk.below hB).more hB.size, (hf.below hB).more hB.size, fun i h => ?_⟩
  obtain ⟨Ai, ci, h1, h2⟩ := hi i h
  exact ⟨Ai, ci, h1, (h2.below hB).more hB.size⟩
theorem DevIs.drew {w : World} {V : Array Value} {d : Dev} (h : DevIs w V d) : DevIs w.drew V d := h

end Go.Proofs.YtkjihmlighigjaaGreat

namespace Go.Proofs.YtkjihmlighigjaaGreat
open Go.RowKit

theorem may_any (n : Int) (w : World) :
    Calls Tryz.prog 248 #[.int .i64 n] w fun e w' => e = .returned (.bool (decide (1 ≤ n ∧ n ≤ 6))) ∧ w = w' := by
  by_cases h1 : 1 ≤ n
  · by_cases h2 : n ≤ 6
    · go_enter Tryz.func248, Tryz.ntmps248
      go_wp2
      go_ret
      exact ⟨by simp [h1, h2], rfl⟩
    · go_enter Tryz.func248, Tryz.ntmps248
      go_wp2
      go_ret
      exact ⟨by simp [h2], rfl⟩
  · go_enter Tryz.func248, Tryz.ntmps248
    go_wp2
    go_ret
    exact ⟨by simp; omega, rfl⟩
theorem may_yes (n : Int) (w : World) (h1 : 1 ≤ n) (h2 : n ≤ 6) :
    Calls Tryz.prog 248 #[.int .i64 n] w fun e w' => e = .returned (.bool true) ∧ w = w' :=
  (may_any n w).mono fun _ _ h => by rw [decide_eq_true (show 1 ≤ n ∧ n ≤ 6 from ⟨h1, h2⟩)] at h; exact h
theorem may_no (n : Int) (w : World) (h : ¬ (1 ≤ n ∧ n ≤ 6)) :
    Calls Tryz.prog 248 #[.int .i64 n] w fun e w' => e = .returned (.bool false) ∧ w = w' :=
  (may_any n w).mono fun _ _ h' => by rw [decide_eq_false h] at h'; exact h'

set_option maxHeartbeats 400000 in
theorem get_in (s : ByteArray) (a n : Nat) (w : World) (hs : s.size ≤ maxLen) (h1 : 1 ≤ n) (h2 : n ≤ 6) (h3 : a + n ≤ s.size) :
    Calls Tryz.prog 199 #[.string s, .int .i64 a, .int .i64 n] w fun e w' => e = .returned (.tuple #[.int .i64 (getS s.data.toList a n).1, .int .i64 (getS s.data.toList a n).2]) ∧ w = w' := by
  unfold maxLen at hs
  have b1 : decide ((a : Int) < 0) = false := by simp
  have b2 : decide ((s.size : Int) < (a : Int)) = false := by simp; omega
  have b2' : decide (s.size < a) = false := by simp; omega
  have b3 : decide ((s.size : Int) - (a : Int) < (n : Int)) = false := by simp; omega
  go_enter Tryz.func199, Tryz.ntmps199
  go_wp2_with (go_at_call 248; refine (may_yes _ _ (by omega) (by omega)).mono ?_; rintro e w' ⟨rfl, rfl⟩)
  go_loop [6, 8, 31] (fun x _ i => ∃ k : Nat, k ≤ n ∧ i = .int .i64 k ∧ x = .int .i64 ((le ((s.data.toList.drop a).take k) : Nat) : Int)) (fun _ _ i => n - (intOf i).toNat)
  case atStart => exact ⟨0, Nat.zero_le _, rfl, by simp [le]⟩
  case round =>
    obtain ⟨k, hk, rfl, rfl⟩ := hrel
    by_cases hlt : k < n
    · have hb : a + k < s.size := by omega
      go_wp2
      go_round
      case rel => exact ⟨k + 1, by omega, by go_num, by rw [or_byte2 s a k hb (by omega)]⟩
      case measure => simp [intOf]; omega
    · obtain rfl : k = n := by omega
      by_cases hbig : le ((s.data.toList.drop a).take k) ≤ 1099511627776
      · have hx := getS_ok ⟨h1, h2⟩ (by simpa using h3) hbig
        have HX := Lib.hid hx; clear hx
        go_wp2
        go_ret2
        exact ⟨by rw [HX.out]; rfl, rfl⟩
      · have hx := getS_big ⟨h1, h2⟩ (by simpa using h3) hbig
        have HX := Lib.hid hx; clear hx
        go_wp2
        go_ret2
        exact ⟨by rw [HX.out]; rfl, rfl⟩

theorem get_any (s : ByteArray) (a n : Int) (w : World) (hs : s.size ≤ maxLen) :
    Calls Tryz.prog 199 #[.string s, .int .i64 a, .int .i64 n] w fun e w' => e = .returned (.tuple #[.int .i64 (getS s.data.toList a n).1, .int .i64 (getS s.data.toList a n).2]) ∧ w = w' := by
  by_cases hn : 1 ≤ n ∧ n ≤ 6
  · by_cases ha : 0 ≤ a ∧ a + n ≤ s.size
    · obtain ⟨n', rfl⟩ := Int.eq_ofNat_of_zero_le (show 0 ≤ n by omega)
      obtain ⟨a', rfl⟩ := Int.eq_ofNat_of_zero_le ha.1
      exact get_in s a' n' w hs (by omega) (by omega) (by omega)
    · rw [getS_out hn (by simpa using ha)]
      unfold maxLen at hs
      by_cases h0 : a < 0
      · go_enter Tryz.func199, Tryz.ntmps199
        go_wp2_with (go_at_call 248; refine (may_yes _ _ (by omega) (by omega)).mono ?_; rintro e w' ⟨rfl, rfl⟩)
        go_ret2
        exact ⟨rfl, rfl⟩
      · by_cases h1 : s.size < a
        · go_enter Tryz.func199, Tryz.ntmps199
          go_wp2_with (go_at_call 248; refine (may_yes _ _ (by omega) (by omega)).mono ?_; rintro e w' ⟨rfl, rfl⟩)
          go_ret2
          exact ⟨rfl, rfl⟩
        · have h2 : (s.size : Int) - a < n := by omega
          go_enter Tryz.func199, Tryz.ntmps199
          go_wp2_with (go_at_call 248; refine (may_yes _ _ (by omega) (by omega)).mono ?_; rintro e w' ⟨rfl, rfl⟩)
          go_ret2
          exact ⟨rfl, rfl⟩
  · rw [getS_bad hn]
    go_enter Tryz.func199, Tryz.ntmps199
    go_wp2_with (go_at_call 248; refine (may_no _ _ hn).mono ?_; rintro e w' ⟨rfl, rfl⟩)
    go_ret2
    exact ⟨rfl, rfl⟩
end Go.Proofs.YtkjihmlighigjaaGreat

namespace Go.Proofs.YtkjihmlighigjaaGreat
open Go.RowKit

theorem most_any (n : Int) (w : World) (h1 : 1 ≤ n) (h2 : n ≤ 6) :
    Calls Tryz.prog 280 #[.int .i64 n] w fun e w' => e = .returned (.int .i64 (mostW n.toNat)) ∧ w = w' := by
  rcases (show n = 1 ∨ n = 2 ∨ n = 3 ∨ n = 4 ∨ n = 5 ∨ n = 6 by omega) with rfl | rfl | rfl | rfl | rfl | rfl
  all_goals
    clear h1 h2
    go_enter Tryz.func280, Tryz.ntmps280
    go_wp2
    all_goals first
      | exact absurd ‹(1099511627776 : Int) < _› (by decide +kernel)
      | exact absurd ‹_ ≤ (1099511627776 : Int)› (by decide +kernel)
      | (go_ret; exact ⟨congrArg (fun x => Ending.returned (.int .i64 x)) (by decide +kernel), rfl⟩)

theorem Fits_any (n wd : Int) (w : World) :
    Calls Tryz.prog 250 #[.int .i64 n, .int .i64 wd] w fun e w' => e = .returned (.bool (fitsB n wd)) ∧ w = w' := by
  by_cases h : 1 ≤ wd ∧ wd ≤ 6
  · by_cases h0 : 0 ≤ n
    · have hf : fitsB n wd = decide (n ≤ (mostW wd.toNat : Int)) := by simp [fitsB, h.1, h.2, h0]
      rw [hf]
      clear hf
      have hm := most_any wd w h.1 h.2
      generalize mostW wd.toNat = q at *
      have HM := Lib.hid hm; clear hm
      go_enter Tryz.func250, Tryz.ntmps250
      go_wp2_with (first
        | (go_at_call 248; refine (may_yes _ _ h.1 h.2).mono ?_; rintro e w' ⟨rfl, rfl⟩)
        | (go_at_call 280; refine (HM.out).mono ?_; rintro e w' ⟨rfl, rfl⟩))
      all_goals go_ret
      all_goals exact ⟨rfl, rfl⟩
    · have hf : fitsB n wd = false := by simp [fitsB, h0]
      rw [hf]
      clear hf
      go_enter Tryz.func250, Tryz.ntmps250
      go_wp2_with (first
        | (go_at_call 248; refine (may_yes _ _ h.1 h.2).mono ?_; rintro e w' ⟨rfl, rfl⟩))
      go_ret
      exact ⟨rfl, rfl⟩
  · have hf : fitsB n wd = false := decide_eq_false (by omega)
    rw [hf]
    clear hf
    go_enter Tryz.func250, Tryz.ntmps250
    go_wp2_with (first
        | (go_at_call 248; refine (may_no _ _ h).mono ?_; rintro e w' ⟨rfl, rfl⟩))
    go_ret
    exact ⟨rfl, rfl⟩
end Go.Proofs.YtkjihmlighigjaaGreat

namespace Go.Proofs.YtkjihmlighigjaaGreat
open Go.RowKit

def putAll (n : Nat) (l : List Int) : Bs := l.flatMap fun x => leBytes n x.toNat
def putS (b : Bs) (wd : Int) (l : List Int) : Option Bs := if (1 ≤ wd ∧ wd ≤ 6) ∧ l.all (fitsB · wd) = true then some (b ++ putAll wd.toNat l) else none
def PutPost (w : World) : Option Bs → Ending → World → Prop
  | some x, e, w' => ∃ v, e = .returned (.tuple #[v, .int .i64 0]) ∧ w'.ownsRow w.heap.size 5 1 v x.length (bcells x) ∧ Below w.heap.size w w'
  | none, e, w' => e = .returned (.tuple #[.slice none 0 0, .int .i64 2]) ∧ Below w.heap.size w w'
theorem putAll_length (n : Nat) (l : List Int) : (putAll n l).length = n * l.length := by
  induction l with
  | nil => rfl
  | cons x l ih => simp only [putAll, List.flatMap_cons, List.length_append, leBytes_length] at ih ⊢; rw [ih, List.length_cons, Nat.mul_succ, Nat.add_comm]
theorem putAll_snoc (n : Nat) (l : List Int) (x : Int) : putAll n (l ++ [x]) = putAll n l ++ leBytes n x.toNat := by simp [putAll]
theorem u8_info : (Tryz.prog.info? 5).map (fun i => (i.zero, i.size, i.bytes)) = some (some (.int .u8 0), 1, 1) := by kernel_rfl
theorem i64_info : (Tryz.prog.info? 3).map (fun i => (i.zero, i.size, i.bytes)) = some (some (.int .i64 0), 1, 8) := by kernel_rfl
theorem putS_bad {b : Bs} {wd : Int} {l : List Int} {i : Nat} (hi : i < l.length) (hf : fitsB l[i] wd = false) : putS b wd l = none := by
  rw [putS, if_neg]
  rintro ⟨_, h⟩
  rw [List.all_eq_true] at h
  have := h l[i] (List.getElem_mem hi)
  rw [hf] at this
  cases this
theorem putS_ok {b : Bs} {wd : Nat} {l : List Int} (h1 : 1 ≤ wd) (h2 : wd ≤ 6) (hf : ∀ j (h : j < l.length), fitsB l[j] wd = true) : putS b wd l = some (b ++ putAll wd l) := by
  rw [putS, if_pos, Int.toNat_natCast]
  refine ⟨by omega, ?_⟩
  rw [List.all_eq_true]
  intro x hx
  obtain ⟨j, hj, rfl⟩ := List.getElem_of_mem hx
  exact hf j hj

theorem byte_of (x t : Nat) (hx : x ≤ 1099511627776) : bits .and .i64 ((x : Int) / 2 ^ (8 * t)) 255 % 256 = ((x / 256 ^ t % 256 : Nat) : Int) := by
  have e : (2 : Nat) ^ (8 * t) = 256 ^ t := by rw [Nat.pow_mul]
  have e1 : ((x : Int) / 2 ^ (8 * t)) = ((x / 256 ^ t : Nat) : Int) := by rw [← e]; simp
  have h1 : x / 256 ^ t ≤ x := Nat.div_le_self _ _
  rw [e1, show (255 : Int) = ((255 : Nat) : Int) from rfl, i64_and_nat _ _ (by omega) (by omega), nat_mask8]
  omega
set_option maxHeartbeats 1000000 in
set_option maxRecDepth 100000 in
theorem Put_in (Ab Al : Option Addr) (cb cl n : Nat) (b : Bs) (l : List Int) (w : World) (hn1 : 1 ≤ n) (hn6 : n ≤ 6) (hbd : b.length + 6 * l.length ≤ 1000000000)
    (hb : Reads w w.heap.size 1 Ab b.length (bcells b)) (hl : Reads w w.heap.size 1 Al l.length (icells l)) :
    Calls Tryz.prog 201 #[.slice Ab b.length cb, .int .i64 n, .slice Al l.length cl] w fun e w' => PutPost w (putS b n l) e w' := by
  obtain ⟨i0, hi0, hz0, hz1, hz2⟩ := info_parts u8_info
  have hmul : n * l.length ≤ 6 * l.length := Nat.mul_le_mul_right _ hn6
  obtain ⟨q, hq⟩ : ∃ q, q = n * l.length := ⟨_, rfl⟩
  have HQ := Lib.hid hq
  have hq2 : q ≤ 6 * l.length := by omega
  have hm : (n : Int) * (l.length : Int) = (q : Int) := by rw [hq]; simp
  clear hmul hq
  go_enter Tryz.func201, Tryz.ntmps201
  go_wp2_with (first
    | (go_at_call 248; refine (may_yes _ _ (by omega) (by omega)).mono ?_; rintro e w' ⟨rfl, rfl⟩)
    | (at_make; refine wpList_make_len _ rfl _ _ _ rfl w.heap.size 5 i0 (.int .u8 0) Tryz.underlying175 hi0 hz0 hz1 rfl _ _ _ _ b.length (b.length + q) rfl rfl rfl (by omega) (by omega) (by rw [hz2]; omega) (by unfold maxLen; omega) (Nat.le_refl _) ?_; intro w1 hown1 hg1)
    | ((with_reducible show wpList _ _ _ _ _ _); refine wpList_copy_all (o := ⟨some 27, _, _, _, _, _⟩) rfl (.tmp 25) (.tmp 26) _ _ rfl _ Tryz.underlying175 (by rw [hi0]; simp [hz1]) w.heap.size (.slice (some ⟨w.heap.size, 0, none⟩) b.length (b.length + q)) b.length _ (by rfl) hown1 w.heap.size Ab cb (bcells b) (by rfl) (hb.below (below_none (Below.refl _ _) hg1 (Nat.le_refl _))) (bcells_one b) ?_; intro w2 hown2 hg2))
  have hB1 : Below w.heap.size w w1 := below_none (Below.refl _ _) hg1 (Nat.le_refl _)
  have hB2 : Below w.heap.size w w2 := below_own hB1 hown1 hg2 hB1.size
  clear hown1 hg1 hg2 hB1
  generalize Value.slice (some ⟨w.heap.size, 0, none⟩) b.length (b.length + q) = v0 at *
  go_loopg [8, 30] l.length (fun k v i wr => ∃ j : Nat, j ≤ l.length ∧ k = l.length - j ∧ i = .int .i64 j ∧ wr.ownsRow w.heap.size 5 1 v (b ++ putAll n (l.take j)).length (bcells (b ++ putAll n (l.take j))) ∧ Below w.heap.size w wr ∧ ∀ t (h : t < l.length), t < j → fitsB l[t] n = true)
  case atStart => exact ⟨0, Nat.zero_le _, by simp, rfl, by simpa [putAll] using hown2, hB2, fun t _ h => absurd h (by omega)⟩
  case round =>
    obtain ⟨j, hj, rfl, rfl, hown, hB, hfit⟩ := hrel
    have HF := Lib.hid hfit; clear hfit
    by_cases hlt : j < l.length
    · obtain ⟨ad, rfl, had, hc⟩ := (hl.below hB).cell_ hlt (icells_get l j hlt)
      by_cases hf : fitsB l[j] n = true
      · obtain ⟨x, hx⟩ : ∃ x : Nat, l[j] = (x : Int) := ⟨l[j].toNat, by have := of_decide_eq_true hf; omega⟩
        rw [hx] at hc hf
        have hx2 := fits_lt hf
        have HFx := Lib.hid hf
        have HX := Lib.hid hx; clear hx
        generalize hpre : b ++ putAll n (l.take j) = pre at *
        have HP := Lib.hid hpre; clear hpre
        go_wp2_with (first
          | (go_at_call 250; refine (Fits_any _ _ _).mono ?_; rintro e w' ⟨rfl, rfl⟩))
        have hpl : pre.length + 6 ≤ 2000000000 := by
          have h1 := HP.out; have h2 := congrArg List.length h1
          rw [List.length_append, putAll_length, List.length_take] at h2
          have h3 : n * min j l.length ≤ 6 * l.length := Nat.mul_le_mul hn6 (by omega)
          omega
        go_loopg [8, 39] n (fun k v i wr => ∃ t : Nat, t ≤ n ∧ k = n - t ∧ i = .int .i64 t ∧ wr.ownsRow w.heap.size 5 1 v (pre ++ leBytes t x).length (bcells (pre ++ leBytes t x)) ∧ Below w.heap.size w wr)
        case atStart => exact ⟨0, Nat.zero_le _, by simp, rfl, by simpa [leBytes] using hown, hB⟩
        case round =>
          clear hown hc hB hf hl hb hown2 hB2
          rename_i wo
          obtain ⟨t, ht, rfl, rfl, hown, hB⟩ := hrel
          by_cases htn : t < n
          · have hlen : (pre ++ leBytes t x).length = pre.length + t := by simp [leBytes_length]
            have HL := Lib.hid hlen; clear hlen
            go_wp2_with (first
              | (at_builtin; refine wpList_append_own _ rfl (.tmp 42) (.tmp 49) 175 rfl w.heap.size 5 i0 (.int .u8 0) 1 1 Tryz.underlying175 hi0 hz0 hz1 hz2 rfl (by decide) u8 _ _ (by rfl) (hown.alloc _) ⟨wr.heap.size, 0, none⟩ 1 1 _ rfl rfl (cell_one_new _ _ _) (by intro u hu; simp at hu; subst hu; rfl) (by rw [HL.out]; unfold maxLen; omega) (by rw [HL.out]; omega) (by have := hB.size; simp; omega) ?_; intro v1 w1 hown1 hg1 _))
            have hown2 : w1.ownsRow w.heap.size 5 1 v1 (pre ++ leBytes (t + 1) x).length (bcells (pre ++ leBytes (t + 1) x)) := by
              rw [leBytes_snoc, ← List.append_assoc, bcells_append, List.length_append]
              rw [byte_of x t hx2.2.1] at hown1; simpa [bcells] using hown1
            have hB2 : Below w.heap.size w w1 := below_own (hB.alloc hB.size _) (hown.alloc _) hg1 (by have := hB.size; simp; omega)
            clear hown1 hg1 hown
            go_roundg (n - (t + 1))
            case rel => exact ⟨t + 1, by omega, rfl, by go_num, hown2, hB2⟩
            case measure => omega
          · obtain rfl : t = n := by omega
            go_wp2
            go_roundg (l.length - (j + 1))
            case rel =>
              refine ⟨j + 1, by omega, rfl, by go_num, ?_, hB, fun i hi hij => ?_⟩
              · have e : b ++ putAll t (l.take (j + 1)) = pre ++ leBytes t x := by
                  rw [List.take_succ_eq_append_getElem hlt, putAll_snoc, HX.out, Int.toNat_natCast, ← List.append_assoc, HP.out]
                rw [e]; exact hown
              · rcases Nat.lt_or_ge i j with h | h
                · exact HF.out i hi h
                · obtain rfl : i = j := by omega
                  rw [HX.out]; exact HFx.out
            case measure => omega
      · have hf' : fitsB l[j] n = false := by simpa using hf
        have hps := putS_bad (b := b) hlt hf'
        have HPS := Lib.hid hps; clear hps
        go_wp2_with (first
          | (go_at_call 250; refine (Fits_any _ _ _).mono ?_; rintro e w' ⟨rfl, rfl⟩))
        go_ret2
        show PutPost w (putS b n l) _ _
        rw [HPS.out]
        exact ⟨rfl, hB⟩
    · obtain rfl : j = l.length := by omega
      have hps := putS_ok (b := b) hn1 hn6 (fun t ht => HF.out t ht ht)
      rw [List.take_length] at hown
      have HPS := Lib.hid hps; clear hps
      go_wp2
      go_ret2
      show PutPost w (putS b n l) _ _
      rw [HPS.out]
      exact ⟨_, rfl, hown, hB⟩

theorem Put_any (Ab Al : Option Addr) (cb cl : Nat) (n : Int) (b : Bs) (l : List Int) (w : World) (hbd : b.length + 6 * l.length ≤ 1000000000)
    (hb : Reads w w.heap.size 1 Ab b.length (bcells b)) (hl : Reads w w.heap.size 1 Al l.length (icells l)) :
    Calls Tryz.prog 201 #[.slice Ab b.length cb, .int .i64 n, .slice Al l.length cl] w fun e w' => PutPost w (putS b n l) e w' := by
  by_cases hn : 1 ≤ n ∧ n ≤ 6
  · obtain ⟨n', rfl⟩ := Int.eq_ofNat_of_zero_le (show 0 ≤ n by omega)
    exact Put_in Ab Al cb cl n' b l w (by omega) (by omega) hbd hb hl
  · have hps : putS b n l = none := by rw [putS, if_neg (fun h => hn h.1)]
    rw [hps]
    clear hb hl
    go_enter Tryz.func201, Tryz.ntmps201
    go_wp2_with (go_at_call 248; refine (may_no _ _ hn).mono ?_; rintro e w' ⟨rfl, rfl⟩)
    go_ret2
    exact ⟨rfl, Below.refl _ _⟩
end Go.Proofs.YtkjihmlighigjaaGreat

namespace Go.Proofs.YtkjihmlighigjaaGreat
open Go.RowKit

theorem pow256_5 (k : Nat) (h : k ≤ 5) : 256 ^ k ≤ 1099511627776 := by
  have := Nat.pow_le_pow_right (n := 256) (by omega) h
  omega

set_option maxHeartbeats 400000 in
theorem rmost_in (n : Nat) (w : World) (h1 : 1 ≤ n) (h2 : n ≤ 6) :
    Calls Tryz.prog 124 #[.int .i64 n] w fun e w' => e = .returned (.int .i64 (mostW n)) ∧ w = w' := by
  go_enter Tryz.func124, Tryz.ntmps124
  go_wp2
  go_loop [3, 4] (fun x i => ∃ k : Nat, k ≤ n ∧ i = .int .i64 k ∧ x = .int .i64 ((256 ^ k : Nat) : Int)) (fun _ i => n - (intOf i).toNat)
  case atStart => exact ⟨0, Nat.zero_le _, rfl, rfl⟩
  case round =>
    obtain ⟨k, hk, rfl, rfl⟩ := hrel
    have hsn : 256 ^ (k + 1) = 256 ^ k * 256 := Nat.pow_succ _ _
    have HS := Lib.hid hsn; clear hsn
    have h6 := pow256_le k (by omega)
    by_cases hlt : k < n
    · have hq := pow256_5 k (by omega)
      generalize 256 ^ k = q at *
      go_wp2
      go_round
      case rel => exact ⟨k + 1, by omega, by go_num, congrArg (Value.int .i64) (by rw [HS.out]; go_num)⟩
      case measure => simp [intOf]; omega
    · obtain rfl : k = n := by omega
      have hp : 0 < 256 ^ k := Nat.pow_pos (by omega)
      have hm : mostW k = min (256 ^ k - 1) 1099511627776 := rfl
      have HM := Lib.hid hm; clear hm
      generalize 256 ^ k = q at *
      by_cases hb : q - 1 ≤ 1099511627776
      · have hb' : (q : Int) - 1 ≤ 1099511627776 := by omega
        go_wp2
        go_ret
        exact ⟨congrArg (fun x => Ending.returned (.int .i64 x)) (by rw [HM.out]; omega), rfl⟩
      · have hb' : (1099511627776 : Int) < (q : Int) - 1 := by omega
        go_wp2
        go_ret
        exact ⟨congrArg (fun x => Ending.returned (.int .i64 x)) (by rw [HM.out]; omega), rfl⟩

def mostI (n : Int) : Int := if 1 ≤ n ∧ n ≤ 6 then (mostW n.toNat : Int) else -1
theorem rmost_any (n : Int) (w : World) :
    Calls Tryz.prog 124 #[.int .i64 n] w fun e w' => e = .returned (.int .i64 (mostI n)) ∧ w = w' := by
  by_cases h : 1 ≤ n ∧ n ≤ 6
  · rw [mostI, if_pos h]
    obtain ⟨m, rfl⟩ := Int.eq_ofNat_of_zero_le (show 0 ≤ n by omega)
    exact rmost_in m w (by omega) (by omega)
  · rw [mostI, if_neg h]
    by_cases h1 : n < 1
    · go_enter Tryz.func124, Tryz.ntmps124
      go_wp2
      go_ret
      exact ⟨rfl, rfl⟩
    · have h6 : 6 < n := by omega
      go_enter Tryz.func124, Tryz.ntmps124
      go_wp2
      go_ret
      exact ⟨rfl, rfl⟩
theorem fits_mostI (n wd : Int) (h0 : 0 ≤ n) : fitsB n wd = decide (n ≤ mostI wd) := by
  unfold fitsB mostI
  by_cases h : 1 ≤ wd ∧ wd ≤ 6
  · rw [if_pos h]; simp [h.1, h.2, h0]
  · rw [if_neg h]
    have : ¬ n ≤ -1 := by omega
    simp only [this, decide_false]
    exact decide_eq_false (by omega)
theorem rFits_any (n wd : Int) (w : World) :
    Calls Tryz.prog 125 #[.int .i64 n, .int .i64 wd] w fun e w' => e = .returned (.bool (fitsB n wd)) ∧ w = w' := by
  by_cases h0 : 0 ≤ n
  · rw [fits_mostI n wd h0]
    have hm := rmost_any wd w
    generalize mostI wd = q at *
    have HM := Lib.hid hm; clear hm
    go_enter Tryz.func125, Tryz.ntmps125
    go_wp2_with fail
    refine HM.out.mono ?_
    rintro e w' ⟨rfl, rfl⟩
    go_wp2_with fail
    all_goals go_ret
    all_goals exact ⟨rfl, rfl⟩
  · have hf : fitsB n wd = false := by simp [fitsB, h0]
    rw [hf]
    clear hf
    go_enter Tryz.func125, Tryz.ntmps125
    go_wp2_with fail
    go_ret
    exact ⟨rfl, rfl⟩

theorem le_front (s : ByteArray) (a n p : Nat) (hp : p < n) (hb : a + p < s.size) :
    le ((s.data.toList.drop (a + p)).take (n - p)) = s[a + p].toNat + 256 * le ((s.data.toList.drop (a + (p + 1))).take (n - (p + 1))) := by
  rw [List.drop_eq_getElem_cons (by simpa using hb), show n - p = n - (p + 1) + 1 by omega, List.take_succ_cons, le, bytes_getElem s _ hb, Nat.add_assoc]

set_option maxHeartbeats 400000 in
theorem rGet_in (s : ByteArray) (a n : Nat) (w : World) (hs : s.size ≤ maxLen) (h1 : 1 ≤ n) (h2 : n ≤ 6) (h3 : a + n ≤ s.size) :
    Calls Tryz.prog 126 #[.string s, .int .i64 a, .int .i64 n] w fun e w' => e = .returned (.tuple #[.int .i64 (getS s.data.toList a n).1, .int .i64 (getS s.data.toList a n).2]) ∧ w = w' := by
  unfold maxLen at hs
  have hm := rmost_in n w h1 h2
  have hmb : (mostW n : Int) ≤ 1099511627776 := by unfold mostW; omega
  generalize mostW n = q at *
  have HM := Lib.hid hm; clear hm
  have b0 : decide ((q : Int) < 0) = false := by simp
  have b1 : decide ((a : Int) < 0) = false := by simp
  have b2 : decide ((s.size : Int) < (a : Int)) = false := by simp; omega
  have b2' : decide (s.size < a) = false := by simp; omega
  have b3 : decide ((s.size : Int) - (a : Int) < (n : Int)) = false := by simp; omega
  go_enter Tryz.func126, Tryz.ntmps126
  go_wp2_with fail
  refine HM.out.mono ?_
  rintro e w' ⟨rfl, rfl⟩
  go_wp2_with fail
  go_loop [8, 9] (fun x i => ∃ v : Int, -1 ≤ v ∧ v ≤ (n : Int) - 1 ∧ i = .int .i64 v ∧ x = .int .i64 ((le ((s.data.toList.drop (a + (v + 1).toNat)).take (n - (v + 1).toNat)) : Nat) : Int)) (fun _ i => (intOf i + 1).toNat)
  case atStart => exact ⟨(n : Int) - 1, by omega, by omega, rfl, by simp [le]⟩
  case round =>
    obtain ⟨v, hv1, hv2, rfl, rfl⟩ := hrel
    by_cases hv : 0 ≤ v
    · obtain ⟨p, rfl⟩ := Int.eq_ofNat_of_zero_le hv
      have hp : p < n := by omega
      have hb : a + p < s.size := by omega
      have hfr := le_front s a n p hp hb
      have hlt := le_take_lt s.data.toList (a + (p + 1)) (n - (p + 1))
      have h5 := pow256_5 (n - (p + 1)) (by omega)
      have hc := s[a + p].toNat_lt
      rw [show ((p : Int) + 1).toNat = p + 1 by omega]
      generalize le ((s.data.toList.drop (a + (p + 1))).take (n - (p + 1))) = x at *
      have hx : x < 1099511627776 := by omega
      have HF := Lib.hid hfr; clear hfr hlt h5
      go_wp2_with fail
      go_round
      case rel =>
        refine ⟨(p : Int) - 1, by omega, by omega, rfl, congrArg (Value.int .i64) ?_⟩
        rw [show ((p : Int) - 1 + 1).toNat = p by omega, HF.out]
        try unfold wrap64
        omega
      case measure => simp [intOf] <;> omega
    · obtain rfl : v = -1 := by omega
      rw [show (((-1 : Int)) + 1).toNat = 0 from rfl, Nat.add_zero, Nat.sub_zero]
      by_cases hbig : le ((s.data.toList.drop a).take n) ≤ 1099511627776
      · have hx := getS_ok ⟨h1, h2⟩ (by simpa using h3) hbig
        have HX := Lib.hid hx; clear hx
        go_wp2_with fail
        go_ret2
        exact ⟨by rw [HX.out]; rfl, rfl⟩
      · have hx := getS_big ⟨h1, h2⟩ (by simpa using h3) hbig
        have HX := Lib.hid hx; clear hx
        go_wp2_with fail
        go_ret2
        exact ⟨by rw [HX.out]; rfl, rfl⟩

theorem rGet_any (s : ByteArray) (a n : Int) (w : World) (hs : s.size ≤ maxLen) :
    Calls Tryz.prog 126 #[.string s, .int .i64 a, .int .i64 n] w fun e w' => e = .returned (.tuple #[.int .i64 (getS s.data.toList a n).1, .int .i64 (getS s.data.toList a n).2]) ∧ w = w' := by
  by_cases hn : 1 ≤ n ∧ n ≤ 6
  · by_cases ha : 0 ≤ a ∧ a + n ≤ s.size
    · obtain ⟨n', rfl⟩ := Int.eq_ofNat_of_zero_le (show 0 ≤ n by omega)
      obtain ⟨a', rfl⟩ := Int.eq_ofNat_of_zero_le ha.1
      exact rGet_in s a' n' w hs (by omega) (by omega) (by omega)
    · rw [getS_out hn (by simpa using ha)]
      unfold maxLen at hs
      have hm := rmost_any n w
      have hmb : 0 ≤ mostI n := by rw [mostI, if_pos hn]; omega
      generalize mostI n = q at *
      have HM := Lib.hid hm; clear hm
      have b0 : ¬ q < 0 := by omega
      by_cases h0 : a < 0
      · go_enter Tryz.func126, Tryz.ntmps126
        go_wp2_with fail
        refine HM.out.mono ?_
        rintro e w' ⟨rfl, rfl⟩
        go_wp2_with fail
        go_ret2
        exact ⟨rfl, rfl⟩
      · by_cases h1 : s.size < a
        · go_enter Tryz.func126, Tryz.ntmps126
          go_wp2_with fail
          refine HM.out.mono ?_
          rintro e w' ⟨rfl, rfl⟩
          go_wp2_with fail
          go_ret2
          exact ⟨rfl, rfl⟩
        · have h2 : (s.size : Int) - a < n := by omega
          go_enter Tryz.func126, Tryz.ntmps126
          go_wp2_with fail
          refine HM.out.mono ?_
          rintro e w' ⟨rfl, rfl⟩
          go_wp2_with fail
          go_ret2
          exact ⟨rfl, rfl⟩
  · rw [getS_bad hn]
    have hm := rmost_any n w
    rw [mostI, if_neg hn] at hm
    have HM := Lib.hid hm; clear hm
    go_enter Tryz.func126, Tryz.ntmps126
    go_wp2_with fail
    refine HM.out.mono ?_
    rintro e w' ⟨rfl, rfl⟩
    go_wp2_with fail
    go_ret2
    exact ⟨rfl, rfl⟩

set_option maxHeartbeats 1000000 in
set_option maxRecDepth 100000 in
theorem rPut_in (Ab Al : Option Addr) (cb cl n : Nat) (b : Bs) (l : List Int) (w : World) (hn1 : 1 ≤ n) (hn6 : n ≤ 6) (hbd : b.length + 6 * l.length ≤ 1000000000)
    (hb : Reads w w.heap.size 1 Ab b.length (bcells b)) (hl : Reads w w.heap.size 1 Al l.length (icells l)) :
    Calls Tryz.prog 87 #[.slice Ab b.length cb, .int .i64 n, .slice Al l.length cl] w fun e w' => PutPost w (putS b n l) e w' := by
  obtain ⟨i0, hi0, hz0, hz1, hz2⟩ := info_parts u8_info
  have hm := rmost_in n w hn1 hn6
  have hmb : (mostW n : Int) ≤ 1099511627776 := by unfold mostW; omega
  generalize mostW n = q at *
  have HM := Lib.hid hm; clear hm
  have b0 : decide ((q : Int) < 0) = false := by simp
  have HB := Lib.hid hb; clear hb
  have HL := Lib.hid hl; clear hl
  go_enter Tryz.func87, Tryz.ntmps87
  go_wp2_with fail
  refine HM.out.mono ?_
  rintro e w' ⟨rfl, rfl⟩
  go_wp2_with (at_builtin; refine wpList_append_any _ rfl (.tmp 15) (.tmp 16) 175 rfl w.heap.size 5 i0 (.int .u8 0) 1 1 Tryz.underlying175 hi0 hz0 hz1 hz2 rfl (by decide) (.slice none 0 0) 0 [] (by rfl) (World.ownsRow_nil _ _ _ _) w.heap.size Ab b.length cb (bcells b) (by rfl) HB.out (bcells_one b) (by unfold maxLen; omega) (by omega) (Nat.le_refl _) ?_; intro v0 w0 hown0 hg0 hat0)
  have hB0 : Below w.heap.size w w0 := below_none (Below.refl _ _) hg0 (Nat.le_refl _)
  rw [Nat.zero_add, List.nil_append] at hown0
  clear hg0 hat0
  go_loopg [8, 9] l.length (fun k v i wr => ∃ j : Nat, j ≤ l.length ∧ k = l.length - j ∧ i = .int .i64 j ∧ wr.ownsRow w.heap.size 5 1 v (b ++ putAll n (l.take j)).length (bcells (b ++ putAll n (l.take j))) ∧ Below w.heap.size w wr ∧ ∀ t (h : t < l.length), t < j → fitsB l[t] n = true)
  case atStart => exact ⟨0, Nat.zero_le _, by simp, rfl, by simpa [putAll] using hown0, hB0, fun t _ h => absurd h (by omega)⟩
  case round =>
    clear hown0 hB0
    obtain ⟨j, hj, rfl, rfl, hown, hB, hfit⟩ := hrel
    have HF := Lib.hid hfit; clear hfit
    by_cases hlt : j < l.length
    · obtain ⟨ad, rfl, had, hc⟩ := (HL.out.below hB).cell_ hlt (icells_get l j hlt)
      by_cases hf : fitsB l[j] n = true
      · obtain ⟨x, hx⟩ : ∃ x : Nat, l[j] = (x : Int) := ⟨l[j].toNat, by have := of_decide_eq_true hf; omega⟩
        rw [hx] at hc hf
        have hx2 := fits_lt hf
        have HFx := Lib.hid hf
        have HX := Lib.hid hx; clear hx
        generalize hpre : b ++ putAll n (l.take j) = pre at *
        have HP := Lib.hid hpre; clear hpre
        go_wp2_with (first
          | (go_at_call 125; refine (rFits_any _ _ _).mono ?_; rintro e w' ⟨rfl, rfl⟩))
        have hpl : pre.length + 6 ≤ 2000000000 := by
          have h1 := HP.out; have h2 := congrArg List.length h1
          rw [List.length_append, putAll_length, List.length_take] at h2
          have h3 : n * min j l.length ≤ 6 * l.length := Nat.mul_le_mul hn6 (by omega)
          omega
        go_loopg [8, 10, 11] n (fun k v y i wr => ∃ t : Nat, t ≤ n ∧ k = n - t ∧ i = .int .i64 t ∧ y = .int .i64 ((x / 256 ^ t : Nat) : Int) ∧ wr.ownsRow w.heap.size 5 1 v (pre ++ leBytes t x).length (bcells (pre ++ leBytes t x)) ∧ Below w.heap.size w wr)
        case atStart => exact ⟨0, Nat.zero_le _, by simp, rfl, by simp, by simpa [leBytes] using hown, hB⟩
        case round =>
          clear hown hc hB hf
          rename_i wo
          obtain ⟨t, ht, rfl, rfl, rfl, hown, hB⟩ := hrel
          by_cases htn : t < n
          · have hlen : (pre ++ leBytes t x).length = pre.length + t := by simp [leBytes_length]
            have HLN := Lib.hid hlen; clear hlen
            have hyb : x / 256 ^ t ≤ 1099511627776 := Nat.le_trans (Nat.div_le_self _ _) hx2.2.1
            have hsn := leBytes_snoc t x
            have hdv : x / 256 ^ (t + 1) = x / 256 ^ t / 256 := by rw [Nat.pow_succ, Nat.div_div_eq_div_mul]
            have HSN := Lib.hid hsn; clear hsn
            have HDV := Lib.hid hdv; clear hdv
            generalize x / 256 ^ t = y at *
            go_wp2_with (first
              | (at_builtin; refine wpList_append_own _ rfl (.tmp 40) (.tmp 44) 175 rfl w.heap.size 5 i0 (.int .u8 0) 1 1 Tryz.underlying175 hi0 hz0 hz1 hz2 rfl (by decide) u8 _ _ (by rfl) (hown.alloc _) ⟨wr.heap.size, 0, none⟩ 1 1 _ rfl rfl (cell_one_new _ _ _) (by intro u hu; simp at hu; subst hu; rfl) (by rw [HLN.out]; unfold maxLen; omega) (by rw [HLN.out]; omega) (by have := hB.size; simp; omega) ?_; intro v1 w1 hown1 hg1 _))
            have hown2 : w1.ownsRow w.heap.size 5 1 v1 (pre ++ leBytes (t + 1) x).length (bcells (pre ++ leBytes (t + 1) x)) := by
              rw [HSN.out, ← List.append_assoc, bcells_append, List.length_append]
              simpa [bcells] using hown1
            have hB2 : Below w.heap.size w w1 := below_own (hB.alloc hB.size _) (hown.alloc _) hg1 (by have := hB.size; simp; omega)
            clear hown1 hg1 hown
            go_wp2
            go_roundg (n - (t + 1))
            case rel => exact ⟨t + 1, by omega, rfl, by go_num, congrArg (Value.int .i64) (by rw [HDV.out]; omega), hown2, hB2⟩
            case measure => omega
          · obtain rfl : t = n := by omega
            go_wp2
            go_roundg (l.length - (j + 1))
            case rel =>
              refine ⟨j + 1, by omega, rfl, by go_num, ?_, hB, fun i hi hij => ?_⟩
              · have e : b ++ putAll t (l.take (j + 1)) = pre ++ leBytes t x := by
                  rw [List.take_succ_eq_append_getElem hlt, putAll_snoc, HX.out, Int.toNat_natCast, ← List.append_assoc, HP.out]
                rw [e]; exact hown
              · rcases Nat.lt_or_ge i j with h | h
                · exact HF.out i hi h
                · obtain rfl : i = j := by omega
                  rw [HX.out]; exact HFx.out
            case measure => omega
      · have hf' : fitsB l[j] n = false := by simpa using hf
        have hps := putS_bad (b := b) hlt hf'
        have HPS := Lib.hid hps; clear hps
        go_wp2_with (first
          | (go_at_call 125; refine (rFits_any _ _ _).mono ?_; rintro e w' ⟨rfl, rfl⟩))
        go_ret2
        show PutPost w (putS b n l) _ _
        rw [HPS.out]
        exact ⟨rfl, hB⟩
    · obtain rfl : j = l.length := by omega
      have hps := putS_ok (b := b) hn1 hn6 (fun t ht => HF.out t ht ht)
      rw [List.take_length] at hown
      have HPS := Lib.hid hps; clear hps
      go_wp2
      go_ret2
      show PutPost w (putS b n l) _ _
      rw [HPS.out]
      exact ⟨_, rfl, hown, hB⟩

theorem rPut_any (Ab Al : Option Addr) (cb cl : Nat) (n : Int) (b : Bs) (l : List Int) (w : World) (hbd : b.length + 6 * l.length ≤ 1000000000)
    (hb : Reads w w.heap.size 1 Ab b.length (bcells b)) (hl : Reads w w.heap.size 1 Al l.length (icells l)) :
    Calls Tryz.prog 87 #[.slice Ab b.length cb, .int .i64 n, .slice Al l.length cl] w fun e w' => PutPost w (putS b n l) e w' := by
  by_cases hn : 1 ≤ n ∧ n ≤ 6
  · obtain ⟨n', rfl⟩ := Int.eq_ofNat_of_zero_le (show 0 ≤ n by omega)
    exact rPut_in Ab Al cb cl n' b l w (by omega) (by omega) hbd hb hl
  · have hps : putS b n l = none := by rw [putS, if_neg (fun h => hn h.1)]
    rw [hps]
    clear hb hl
    have hm := rmost_any n w
    rw [mostI, if_neg hn] at hm
    have HM := Lib.hid hm; clear hm
    go_enter Tryz.func87, Tryz.ntmps87
    go_wp2_with fail
    refine HM.out.mono ?_
    rintro e w' ⟨rfl, rfl⟩
    go_wp2_with fail
    go_ret2
    exact ⟨rfl, Below.refl _ _⟩
end Go.Proofs.YtkjihmlighigjaaGreat

namespace Go.Proofs.YtkjihmlighigjaaGreat
open Go.RowKit

def step (x : Nat) : Nat := if x % 2 = 1 then x / 2 ^^^ 2197175160 else x / 2
def steps : Nat → Nat → Nat
  | 0, x => x
  | n + 1, x => step (steps n x)
def crcByte (x : Nat) (c : UInt8) : Nat := steps 8 (x ^^^ c.toNat)
def crcReg (x : Nat) (l : Bs) : Nat := l.foldl crcByte x
def crcSum (l : Bs) : Nat := crcReg 4294967295 l ^^^ 4294967295

theorem xor_div2 (a b : Nat) : (a ^^^ b) / 2 = a / 2 ^^^ b / 2 := by
  have := Nat.shiftRight_xor_distrib (a := a) (b := b) (i := 1)
  simpa [Nat.shiftRight_eq_div_pow] using this
theorem xor_mod2 (a b : Nat) : (a ^^^ b) % 2 = (a % 2 + b % 2) % 2 := by
  have h := Nat.xor_mod_two_pow (a := a) (b := b) (n := 1)
  rw [Nat.pow_one] at h
  rw [h]
  rcases Nat.mod_two_eq_zero_or_one a with h1 | h1 <;> rcases Nat.mod_two_eq_zero_or_one b with h2 | h2 <;> rw [h1, h2] <;> rfl
theorem step_xor (a b : Nat) : step (a ^^^ b) = step a ^^^ step b := by
  unfold step
  rw [xor_mod2, xor_div2]
  rcases Nat.mod_two_eq_zero_or_one a with h1 | h1 <;> rcases Nat.mod_two_eq_zero_or_one b with h2 | h2 <;> simp [h1, h2]
  · rw [← Nat.xor_assoc]
  · rw [Nat.xor_assoc, Nat.xor_assoc, Nat.xor_comm (b / 2)]
  · rw [show a / 2 ^^^ 2197175160 ^^^ (b / 2 ^^^ 2197175160) = a / 2 ^^^ b / 2 ^^^ (2197175160 ^^^ 2197175160) by ac_rfl]; simp
theorem steps_xor (n a b : Nat) : steps n (a ^^^ b) = steps n a ^^^ steps n b := by
  induction n with
  | zero => rfl
  | succ n ih => simp only [steps, ih, step_xor]
theorem steps_add (m n x : Nat) : steps (m + n) x = steps m (steps n x) := by
  induction m with
  | zero => simp [steps]
  | succ m ih => rw [Nat.succ_add]; simp only [steps, ih]
theorem step_lt {x : Nat} (h : x < 4294967296) : step x < 4294967296 := by
  unfold step
  split
  · have := Nat.xor_lt_two_pow (x := x / 2) (y := 2197175160) (n := 32) (by omega) (by omega)
    omega
  · omega
theorem steps_lt {x : Nat} (n : Nat) (h : x < 4294967296) : steps n x < 4294967296 := by
  induction n with
  | zero => exact h
  | succ n ih => exact step_lt ih
theorem step_even (x : Nat) : step (2 * x) = x := by
  unfold step; rw [if_neg (by omega)]; omega
theorem steps_shift (n x : Nat) : steps n (2 ^ n * x) = x := by
  induction n generalizing x with
  | zero => simp [steps]
  | succ n ih =>
    rw [Nat.pow_succ, Nat.mul_assoc, steps, ih, step_even]
theorem xor_join (i a y : Nat) (hy : y < 2 ^ i) : 2 ^ i * a ^^^ y = 2 ^ i * a + y := by
  apply Nat.eq_of_testBit_eq
  intro j
  rw [Nat.testBit_xor, Nat.testBit_two_pow_mul_add _ hy, Nat.testBit_two_pow_mul]
  by_cases h : j < i
  · have h' : ¬ i ≤ j := by omega
    simp [h, h']
  · have hb : y.testBit j = false := Nat.testBit_lt_two_pow (Nat.lt_of_lt_of_le hy (Nat.pow_le_pow_right (by omega) (by omega)))
    simp [h, hb]
    omega
theorem split_nibble (x : Nat) : x = 16 * (x / 16) ^^^ x % 16 := by
  have h := xor_join 4 (x / 16) (x % 16) (by omega)
  rw [show (2 : Nat) ^ 4 = 16 from rfl] at h
  omega
theorem nibble (x : Nat) : steps 4 x = x / 16 ^^^ steps 4 (x % 16) := by
  conv => lhs; rw [split_nibble x, steps_xor, show 16 * (x / 16) = 2 ^ 4 * (x / 16) from rfl, steps_shift]
theorem byte_nibbles (x : Nat) : steps 8 x = (x / 16 ^^^ steps 4 (x % 16)) / 16 ^^^ steps 4 ((x / 16 ^^^ steps 4 (x % 16)) % 16) := by
  rw [← nibble x, ← nibble, show 8 = 4 + 4 from rfl, steps_add]
theorem crcByte_lt {x : Nat} (h : x < 4294967296) (c : UInt8) : crcByte x c < 4294967296 := by
  have h1 := c.toNat_lt
  have := Nat.xor_lt_two_pow (x := x) (y := c.toNat) (n := 32) (by omega) (by omega)
  exact steps_lt 8 (by omega)
theorem crcReg_lt {x : Nat} (h : x < 4294967296) (l : Bs) : crcReg x l < 4294967296 := by
  induction l generalizing x with
  | nil => exact h
  | cons c l ih => exact ih (crcByte_lt h c)
theorem crcReg_snoc (x : Nat) (l : Bs) (c : UInt8) : crcReg x (l ++ [c]) = crcByte (crcReg x l) c := by simp [crcReg]
theorem crcSum_lt (l : Bs) : crcSum l < 4294967296 := by
  have h1 := crcReg_lt (x := 4294967295) (by omega) l
  have := Nat.xor_lt_two_pow (x := crcReg 4294967295 l) (y := 4294967295) (n := 32) (by omega) (by omega)
  unfold crcSum; omega
theorem u32_step (x : Nat) (h : x < 4294967296) :
    bits .xor .u32 ((x : Int) / 2) (bits .and .u32 2197175160 (IntKind.u32.wrap (-(bits .and .u32 (x : Int) 1)))) = ((step x : Nat) : Int) := by
  have e1 : bits .and .u32 (x : Int) 1 = ((x % 2 : Nat) : Int) := by
    have := u32_and_nat x 1 h (by omega)
    rw [nat_mask1] at this
    exact this
  rw [e1, show ((x : Int) / 2) = ((x / 2 : Nat) : Int) by simp]
  unfold step
  rcases Nat.mod_two_eq_zero_or_one x with h1 | h1
  · rw [h1, if_neg (by omega)]
    have e2 : bits .and .u32 2197175160 (IntKind.u32.wrap (-((0 : Nat) : Int))) = ((0 : Nat) : Int) := by decide +kernel
    rw [e2, u32_xor_nat _ _ (by omega) (by omega)]
    simp
  · rw [h1, if_pos rfl]
    have e2 : bits .and .u32 2197175160 (IntKind.u32.wrap (-((1 : Nat) : Int))) = ((2197175160 : Nat) : Int) := by decide +kernel
    rw [e2, u32_xor_nat _ _ (by omega) (by omega)]
end Go.Proofs.YtkjihmlighigjaaGreat

namespace Go.Proofs.YtkjihmlighigjaaGreat
open Go.RowKit

def fourV : List Value := (List.range 16).map fun i => .int .u32 ((steps 4 i : Nat) : Int)
def tabAt (j : Nat) : List Value := (List.range 16).map fun i => .int .u32 (((if i < j then steps 4 i else 0) : Nat) : Int)
theorem tabAt_set (j : Nat) (hj : j < 16) : (tabAt j).set j (.int .u32 ((steps 4 j : Nat) : Int)) = tabAt (j + 1) := by
  apply List.ext_getElem?
  intro i
  rw [List.getElem?_set]
  by_cases hi : i < 16
  · by_cases hij : j = i
    · subst hij; simp [tabAt, hi]
    · simp only [tabAt, hij, if_false, List.getElem?_map, List.getElem?_range hi, Option.map_some]
      by_cases h : i < j
      · simp [h, Nat.lt_succ_of_lt h]
      · have : ¬ i < j + 1 := by omega
        simp [h, this]
  · have h2 : ¬ j = i := by omega
    simp [tabAt, hi, h2]
theorem tabAt_16 : tabAt 16 = fourV := by
  unfold tabAt fourV
  apply List.map_congr_left
  intro i hi
  simp at hi
  simp [hi]

set_option maxHeartbeats 1000000 in
set_option maxRecDepth 100000 in
theorem begin_any (w : World) :
    Calls Tryz.prog 309 #[.int .i64 0] w fun e w' => e = .returned (.pointer (some ⟨w.heap.size, 0, none⟩)) ∧ Blk w' w.heap.size 377 (.int .u32 4294967295 :: fourV).toArray ∧ Below w.heap.size w w' := by
  go_enter Tryz.func309, Tryz.ntmps309
  go_wp2
  have hst : Blk (w.alloc (Obj.cells
      #[Value.int IntKind.u32 (bits BinOp.xor IntKind.u32 IntKind.u32.max 0), Value.int IntKind.u32 0,
        Value.int IntKind.u32 0, Value.int IntKind.u32 0, Value.int IntKind.u32 0, Value.int IntKind.u32 0,
        Value.int IntKind.u32 0, Value.int IntKind.u32 0, Value.int IntKind.u32 0, Value.int IntKind.u32 0,
        Value.int IntKind.u32 0, Value.int IntKind.u32 0, Value.int IntKind.u32 0, Value.int IntKind.u32 0,
        Value.int IntKind.u32 0, Value.int IntKind.u32 0, Value.int IntKind.u32 0] 377)) w.heap.size 377 (.int .u32 4294967295 :: tabAt 0).toArray := Blk.new w _ _
  have HST := Lib.hid hst; clear hst
  go_loopg [12] 16 (fun k i wr => ∃ j : Nat, j ≤ 16 ∧ k = 16 - j ∧ i = .int .i64 j ∧ Blk wr w.heap.size 377 (.int .u32 4294967295 :: tabAt j).toArray ∧ Below w.heap.size w wr)
  case atStart => exact ⟨0, by omega, rfl, rfl, HST.out, (Below.refl _ _).alloc (Nat.le_refl _) _⟩
  case round =>
    clear HST
    obtain ⟨j, hj, rfl, rfl, hblk, hB⟩ := hrel
    by_cases hlt : j < 16
    · have hcw : IntKind.u32.wrap (j : Int) = j := by rw [IntKind.wrap_u32']; omega
      go_wp2
      go_loopg [5, 17] 4 (fun k x i wr' => ∃ t : Nat, t ≤ 4 ∧ k = 4 - t ∧ i = .int .i64 t ∧ x = .int .u32 ((steps t j : Nat) : Int) ∧ wr' = wr)
      case atStart => exact ⟨0, by omega, rfl, rfl, by simp [steps], rfl⟩
      case round =>
        rename_i wo
        obtain ⟨t, ht, rfl, rfl, rfl, rfl⟩ := hrel
        have hxl : steps t j < 4294967296 := steps_lt t (by omega)
        by_cases htn : t < 4
        · have hs := u32_step (steps t j) hxl
          have HS := Lib.hid hs; clear hs
          go_wp2
          go_roundg (4 - (t + 1))
          case rel => exact ⟨t + 1, by omega, rfl, by go_num, congrArg (Value.int .u32) HS.out, rfl⟩
          case measure => omega
        · obtain rfl : t = 4 := by omega
          have hc := hblk.cell (1 + j)
          have hf := hblk.frozen (1 + j)
          have hc2 : wr.cell? ⟨w.heap.size, 1 + j, none⟩ = some (.int .u32 0) := by rw [hc, Nat.add_comm]; simp [tabAt, hlt]
          clear hc
          have hB' := (hB.setCell (p := ⟨w.heap.size, 1 + j, none⟩) (Nat.le_refl _) (.int .u32 ((steps 4 j : Nat) : Int)))
          have hblk' := hblk.set_ (1 + j) (.int .u32 ((steps 4 j : Nat) : Int))
          rw [show ((.int .u32 4294967295 :: tabAt j).toArray : Array Value).setIfInBounds (1 + j) (.int .u32 ((steps 4 j : Nat) : Int)) = (.int .u32 4294967295 :: tabAt (j + 1)).toArray by rw [← tabAt_set j hlt, Nat.add_comm]; simp] at hblk'
          have HB' := Lib.hid hB'; clear hB' hB
          have HK' := Lib.hid hblk'; clear hblk' hblk
          go_wp2
          go_roundg (16 - (j + 1))
          case rel => exact ⟨j + 1, by omega, rfl, by go_num, HK'.out, HB'.out⟩
          case measure => omega
    · obtain rfl : j = 16 := by omega
      rw [tabAt_16] at hblk
      go_wp2
      go_ret
      exact ⟨rfl, hblk, hB⟩

theorem fourV_get (x : Nat) : fourV[x % 16]? = some (.int .u32 ((steps 4 (x % 16) : Nat) : Int)) := by
  have : x % 16 < 16 := by omega
  simp [fourV, this]
theorem u32_shr4 (x : Nat) : ((x : Int) / 16) = ((x / 16 : Nat) : Int) := by simp
theorem u32_mask (x : Nat) (h : x < 4294967296) : bits .and .u32 (x : Int) 15 = ((x % 16 : Nat) : Int) := by
  have := u32_and_nat x 15 h (by omega)
  rw [nat_mask4] at this
  exact this
def half (x : Nat) : Nat := x / 16 ^^^ steps 4 (x % 16)
theorem half_lt {x : Nat} (h : x < 4294967296) : half x < 4294967296 := by
  unfold half; rw [← nibble]; exact steps_lt 4 h
theorem half_half (x : Nat) (c : UInt8) : half (half (x ^^^ c.toNat)) = crcByte x c := by
  unfold crcByte half; rw [byte_nibbles]
theorem u32_half (x : Nat) (h : x < 4294967296) : bits .xor .u32 ((x : Int) / 16) ((steps 4 (x % 16) : Nat) : Int) = ((half x : Nat) : Int) := by
  have := steps_lt (x := x % 16) 4 (by omega)
  rw [u32_shr4, u32_xor_nat _ _ (by omega) this]; rfl

set_option maxHeartbeats 1000000 in
set_option maxRecDepth 100000 in
theorem cput_any (g x : Nat) (A : Option Addr) (c : Nat) (l : Bs) (w : World) (hx : x < 4294967296) (hbd : l.length ≤ 1000000000)
    (hblk : Blk w g 377 (.int .u32 x :: fourV).toArray) (hr : Reads w w.heap.size 1 A l.length (bcells l)) (hne : ∀ ad, 0 < l.length → A = some ad → ad.block ≠ g) :
    Calls Tryz.prog 310 #[.pointer (some ⟨g, 0, none⟩), .slice A l.length c] w fun e w' => e = .returned (.pointer (some ⟨g, 0, none⟩)) ∧ Blk w' g 377 (.int .u32 (crcReg x l) :: fourV).toArray ∧ w.grownBy w' (some g) := by
  go_enter Tryz.func310, Tryz.ntmps310
  go_wp2
  go_loopg [9] l.length (fun k i wr => ∃ j : Nat, j ≤ l.length ∧ k = l.length - j ∧ i = .int .i64 j ∧ Blk wr g 377 (.int .u32 (crcReg x (l.take j)) :: fourV).toArray ∧ w.grownBy wr (some g))
  case atStart => exact ⟨0, by omega, rfl, rfl, hblk, World.grownBy.refl _ _⟩
  case round =>
    obtain ⟨j, hj, rfl, rfl, hblk', hG⟩ := hrel
    have HN := Lib.hid hne; clear hne
    by_cases hlt : j < l.length
    · obtain ⟨ad, rfl, had, hc⟩ := hr.cell_ hlt (bcells_get l j hlt)
      have hc' : wr.cell? (ad.add j) = some (.int .u8 (l[j].toNat : Int)) := hG.cell hc (by rw [block_of_add]; intro e; injection e with e; exact HN.out ad (by omega) rfl e)
      have hxl : crcReg x (l.take j) < 4294967296 := crcReg_lt hx _
      have hsn : crcReg x (l.take (j + 1)) = crcByte (crcReg x (l.take j)) l[j] := by rw [List.take_succ_eq_append_getElem hlt, crcReg_snoc]
      rw [← half_half] at hsn
      have HS := Lib.hid hsn; clear hsn hc hr hblk
      generalize crcReg x (l.take j) = y at *
      have hcl := l[j].toNat_lt
      generalize l[j].toNat = z at *
      have hxx := u32_xor_nat y z hxl (by omega)
      have h1 := hblk'.cell 0
      have h2 := hblk'.frozen 0
      have h1' : wr.cell? ⟨g, 0, none⟩ = some (.int .u32 y) := by rw [h1]; rfl
      clear h1
      have hzw : IntKind.u32.wrap (z : Int) = z := by rw [IntKind.wrap_u32']; omega
      have hb1 := hblk'.set_ 0 (.int .u32 ((y ^^^ z : Nat) : Int))
      have hG1 := only_setCell hG (p := ⟨g, 0, none⟩) (.inl rfl) (.int .u32 ((y ^^^ z : Nat) : Int))
      have HB1 := Lib.hid hb1; clear hb1 hblk'
      have HG1 := Lib.hid hG1; clear hG1 hG
      go_wp2
      have hpl : y ^^^ z < 4294967296 := Nat.xor_lt_two_pow (n := 32) (by omega) (by omega)
      clear h1' h2 hxx hzw hc' hcl hxl
      have hb1 : Blk (wr.setCell ⟨g, 0, none⟩ (.int .u32 ((y ^^^ z : Nat) : Int))) g 377 (.int .u32 ((y ^^^ z : Nat) : Int) :: fourV).toArray := HB1.out
      have hg1 := HG1.out
      clear HB1 HG1
      generalize wr.setCell ⟨g, 0, none⟩ (.int .u32 ((y ^^^ z : Nat) : Int)) = W1 at *
      generalize y ^^^ z = p at *
      have a1 : W1.cell? ⟨g, 0, none⟩ = some (.int .u32 p) := by rw [hb1.cell 0]; rfl
      have a2 : W1.cell? ⟨g, 1 + p % 16, none⟩ = some (.int .u32 ((steps 4 (p % 16) : Nat) : Int)) := by rw [hb1.cell, Nat.add_comm]; simpa using fourV_get p
      have a3 := hb1.frozen 0
      have a4 := u32_mask p hpl
      have a5 := u32_half p hpl
      have HB1 := Lib.hid hb1; clear hb1
      have HG1 := Lib.hid hg1; clear hg1
      have hr16 : p % 16 < 16 := by omega
      generalize p % 16 = r at *
      have b1 : (0 : Int) ≤ (r : Int) := by omega
      have b2 : (r : Int) < 16 := by omega
      go_still_tail 22, (by kernel_rfl)
      change wpList _ _ _ _ _ W1.drew
      go_wp2
      have hpl2 := half_lt hpl
      have hb2 := (HB1.out.set_ 0 (.int .u32 ((half p : Nat) : Int))).drew
      have hg2 := only_drew (only_setCell HG1.out (p := ⟨g, 0, none⟩) (.inl rfl) (.int .u32 ((half p : Nat) : Int)))
      clear a1 a2 a3 a4 a5 b1 b2 HB1 HG1 hr16 hpl
      generalize (W1.setCell ⟨g, 0, none⟩ (.int .u32 ((half p : Nat) : Int))).drew = W2 at *
      generalize half p = p2 at *
      replace hb2 : Blk W2 g 377 (.int .u32 (p2 : Int) :: fourV).toArray := hb2
      have a1 : W2.cell? ⟨g, 0, none⟩ = some (.int .u32 p2) := by rw [hb2.cell 0]; rfl
      have a2 : W2.cell? ⟨g, 1 + p2 % 16, none⟩ = some (.int .u32 ((steps 4 (p2 % 16) : Nat) : Int)) := by rw [hb2.cell, Nat.add_comm]; simpa using fourV_get p2
      have a3 := hb2.frozen 0
      have a4 := u32_mask p2 hpl2
      have a5 := u32_half p2 hpl2
      have HB2 := Lib.hid hb2; clear hb2
      have HG2 := Lib.hid hg2; clear hg2
      have hr16 : p2 % 16 < 16 := by omega
      generalize p2 % 16 = r at *
      have b1 : (0 : Int) ≤ (r : Int) := by omega
      have b2 : (r : Int) < 16 := by omega
      go_still_tail 22, (by kernel_rfl)
      change wpList _ _ _ _ _ W2.drew
      go_wp2
      have hb3 := (HB2.out.set_ 0 (.int .u32 ((half p2 : Nat) : Int))).drew
      have hg3 := only_drew (only_setCell HG2.out (p := ⟨g, 0, none⟩) (.inl rfl) (.int .u32 ((half p2 : Nat) : Int)))
      go_roundg (l.length - (j + 1))
      case rel => exact ⟨j + 1, by omega, rfl, by go_num, by rw [HS.out]; exact hb3, hg3⟩
      case measure => omega
    · obtain rfl : j = l.length := by omega
      rw [List.take_length] at hblk'
      go_wp2
      go_ret
      exact ⟨rfl, hblk', hG⟩

theorem turned_any (g x : Nat) (w : World) (hx : x < 4294967296) (cs : List Value) (hblk : Blk w g 377 (.int .u32 x :: cs).toArray) :
    Calls Tryz.prog 311 #[.pointer (some ⟨g, 0, none⟩)] w fun e w' => e = .returned (.int .i64 ((x ^^^ 4294967295 : Nat) : Int)) ∧ w = w' := by
  have a1 : w.cell? ⟨g, 0, none⟩ = some (.int .u32 x) := by rw [hblk.cell 0]; rfl
  have a2 : bits .xor .u32 4294967295 (x : Int) = ((x ^^^ 4294967295 : Nat) : Int) := by
    have := u32_xor_nat 4294967295 x (by omega) hx
    rw [Nat.xor_comm] at this; exact this
  have a4 : x ^^^ 4294967295 < 4294967296 := Nat.xor_lt_two_pow (n := 32) (by omega) (by omega)
  have a3 : bits .xor .u32 IntKind.u32.max (x : Int) = ((x ^^^ 4294967295 : Nat) : Int) := a2
  clear hblk
  generalize x ^^^ 4294967295 = y at *
  go_enter Tryz.func311, Tryz.ntmps311
  go_wp2
  go_ret
  exact ⟨congrArg (fun z => Ending.returned (.int .i64 z)) (by unfold wrap64; omega), rfl⟩

set_option maxHeartbeats 400000 in
theorem Add_any (A : Option Addr) (c : Nat) (l : Bs) (w : World) (hbd : l.length ≤ 1000000000) (hr : Reads w w.heap.size 1 A l.length (bcells l)) :
    Calls Tryz.prog 299 #[.int .i64 0, .slice A l.length c] w fun e w' => e = .returned (.int .i64 (crcSum l)) ∧ Below w.heap.size w w' := by
  have HR := Lib.hid hr; clear hr
  go_enter Tryz.func299, Tryz.ntmps299
  go_wp2_with fail
  refine (begin_any w).mono ?_
  rintro e w1 ⟨rfl, hblk, hB⟩
  go_wp2_with fail
  refine (cput_any _ 4294967295 A c l w1 (by omega) hbd hblk ((HR.out.below hB).more hB.size) (fun ad h0 h => by have := HR.out.lt_addr ad h0 h; omega)).mono ?_
  rintro e w2 ⟨rfl, hblk2, hG⟩
  have hlt := crcReg_lt (x := 4294967295) (by omega) l
  have HB2 := Lib.hid hblk2; clear hblk2
  go_wp2_with fail
  refine (turned_any _ _ w2 hlt _ HB2.out).mono ?_
  rintro e w3 ⟨rfl, rfl⟩
  go_wp2_with fail
  go_ret
  exact ⟨rfl, hB.grown hG hB.size (fun k hk => by injection hk with hk; omega)⟩

theorem Sum_any (A : Option Addr) (c : Nat) (l : Bs) (w : World) (hbd : l.length ≤ 1000000000) (hr : Reads w w.heap.size 1 A l.length (bcells l)) :
    Calls Tryz.prog 279 #[.slice A l.length c] w fun e w' => e = .returned (.int .i64 (crcSum l)) ∧ Below w.heap.size w w' := by
  go_enter Tryz.func279, Tryz.ntmps279
  go_wp2_with fail
  refine (Add_any A c l w hbd hr).mono ?_
  rintro e w1 ⟨rfl, hB⟩
  go_wp2_with fail
  go_ret
  exact ⟨rfl, hB⟩
end Go.Proofs.YtkjihmlighigjaaGreat

namespace Go.Proofs.YtkjihmlighigjaaGreat
open Go.RowKit

theorem and_one (x : Nat) (h : x < 4294967296) : bits .and .i64 (x : Int) 1 = ((x % 2 : Nat) : Int) := by
  have := i64_and_nat x 1 (by omega) (by omega)
  rw [nat_mask1] at this
  exact this
theorem and_mask (x : Nat) (h : x < 4294967296) : bits .and .i64 (x : Int) 4294967295 = (x : Int) := by
  have := i64_and_nat x 4294967295 (by omega) (by omega)
  rw [show (4294967295 : Nat) = 2 ^ 32 - 1 from rfl, Nat.and_two_pow_sub_one_eq_mod, Nat.mod_eq_of_lt (by omega)] at this
  exact this

theorem rstep_any (x : Nat) (w : World) (h : x < 4294967296) :
    Calls Tryz.prog 281 #[.int .i64 x] w fun e w' => e = .returned (.int .i64 (step x)) ∧ w = w' := by
  have h1 := and_one x h
  have h2 : (x : Int) / 2 = ((x / 2 : Nat) : Int) := by simp
  have h3 := i64_xor_nat (x / 2) 2197175160 (by omega) (by omega)
  rcases Nat.mod_two_eq_zero_or_one x with hm | hm
  · have hs : step x = x / 2 := by rw [step, if_neg (by omega)]
    rw [hm] at h1
    rw [hs]
    have h1' : bits .and .i64 (x : Int) 1 = 0 := h1
    clear h1 h3 hs hm
    have H2 := Lib.hid h2; clear h2
    go_enter Tryz.func281, Tryz.ntmps281
    go_wp2
    go_ret
    exact ⟨by rw [← H2.out]; rfl, rfl⟩
  · have hs : step x = x / 2 ^^^ 2197175160 := by rw [step, if_pos hm]
    rw [hm] at h1
    rw [hs]
    have h1' : bits .and .i64 (x : Int) 1 = 1 := h1
    rw [← h2] at h3
    clear h1 hs hm h2
    have H3 := Lib.hid h3; clear h3
    go_enter Tryz.func281, Tryz.ntmps281
    go_wp2
    go_ret
    exact ⟨by rw [← H3.out]; rfl, rfl⟩

set_option maxHeartbeats 400000 in
theorem rMove_any (x n : Nat) (w : World) (h : x < 4294967296) (hn : n ≤ 1000000000) :
    Calls Tryz.prog 251 #[.int .i64 x, .int .i64 n] w fun e w' => e = .returned (.int .i64 (steps (8 * n) x)) ∧ w = w' := by
  have hm := and_mask x h
  go_enter Tryz.func251, Tryz.ntmps251
  go_wp2_with fail
  clear hm
  go_loopg [0, 5] n (fun k y i wr => ∃ j : Nat, j ≤ n ∧ k = n - j ∧ i = .int .i64 j ∧ y = .int .i64 ((steps (8 * j) x : Nat) : Int) ∧ w = wr)
  case atStart => exact ⟨0, by omega, rfl, rfl, rfl, rfl⟩
  case round =>
    obtain ⟨j, hj, rfl, rfl, rfl, rfl⟩ := hrel
    by_cases hlt : j < n
    · have hxl := steps_lt (8 * j) h
      have hsa := fun t => steps_add t (8 * j) x
      generalize steps (8 * j) x = y at *
      have HSA := Lib.hid hsa; clear hsa
      go_wp2_with fail
      go_loopg [0, 6] 8 (fun k z i wr' => ∃ t : Nat, t ≤ 8 ∧ k = 8 - t ∧ i = .int .i64 t ∧ z = .int .i64 ((steps t y : Nat) : Int) ∧ w = wr')
      case atStart => exact ⟨0, by omega, rfl, rfl, rfl, rfl⟩
      case round =>
        obtain ⟨t, ht, rfl, rfl, rfl, rfl⟩ := hrel
        by_cases htn : t < 8
        · have hsl := steps_lt t hxl
          have hst : steps (t + 1) y = step (steps t y) := rfl
          generalize steps t y = z at *
          have HST := Lib.hid hst; clear hst
          go_wp2_with fail
          refine (rstep_any z _ hsl).mono ?_
          rintro e w' ⟨rfl, rfl⟩
          go_wp2_with fail
          go_roundg (8 - (t + 1))
          case rel => exact ⟨t + 1, by omega, rfl, by go_num, by rw [HST.out], rfl⟩
          case measure => omega
        · obtain rfl : t = 8 := by omega
          have hnx : steps (8 * (j + 1)) x = steps 8 y := by rw [← HSA.out, show 8 + 8 * j = 8 * (j + 1) by omega]
          have HNX := Lib.hid hnx; clear hnx
          go_wp2_with fail
          go_roundg (n - (j + 1))
          case rel => exact ⟨j + 1, by omega, rfl, by go_num, by rw [HNX.out], rfl⟩
          case measure => omega
    · obtain rfl : j = n := by omega
      go_wp2_with fail
      go_ret
      exact ⟨rfl, rfl⟩

set_option maxHeartbeats 400000 in
theorem rAdd_any (A : Option Addr) (c : Nat) (l : Bs) (w : World) (hbd : l.length ≤ 1000000000) (hr : Reads w w.heap.size 1 A l.length (bcells l)) :
    Calls Tryz.prog 204 #[.int .i64 0, .slice A l.length c] w fun e w' => e = .returned (.int .i64 (crcSum l)) ∧ w = w' := by
  have h0 : bits .and .i64 0 4294967295 = 0 := by decide +kernel
  have h0' : bits .xor .i64 0 4294967295 = 4294967295 := by decide +kernel
  go_enter Tryz.func204, Tryz.ntmps204
  go_wp2_with fail
  clear h0 h0'
  go_loopg [5, 6] l.length (fun k y i wr => ∃ j : Nat, j ≤ l.length ∧ k = l.length - j ∧ i = .int .i64 j ∧ y = .int .i64 ((crcReg 4294967295 (l.take j) : Nat) : Int) ∧ w = wr)
  case atStart => exact ⟨0, by omega, rfl, rfl, rfl, rfl⟩
  case round =>
    obtain ⟨j, hj, rfl, rfl, rfl, rfl⟩ := hrel
    by_cases hlt : j < l.length
    · obtain ⟨ad, rfl, had, hc⟩ := hr.cell_ hlt (bcells_get l j hlt)
      have hxl : crcReg 4294967295 (l.take j) < 4294967296 := crcReg_lt (by omega) _
      have hsn : crcReg 4294967295 (l.take (j + 1)) = crcByte (crcReg 4294967295 (l.take j)) l[j] := by rw [List.take_succ_eq_append_getElem hlt, crcReg_snoc]
      unfold crcByte at hsn
      generalize crcReg 4294967295 (l.take j) = y at *
      have hcl := l[j].toNat_lt
      generalize l[j].toNat = z at *
      have HS := Lib.hid hsn; clear hsn hr
      have hxx := i64_xor_nat y z (by omega) (by omega)
      have hpl : y ^^^ z < 4294967296 := Nat.xor_lt_two_pow (n := 32) (by omega) (by omega)
      generalize y ^^^ z = p at *
      go_wp2_with fail
      refine (rMove_any p 1 _ hpl (by omega)).mono ?_
      rintro e w' ⟨rfl, rfl⟩
      go_wp2_with fail
      go_roundg (l.length - (j + 1))
      case rel => exact ⟨j + 1, by omega, rfl, by go_num, by rw [HS.out], rfl⟩
      case measure => omega
    · obtain rfl : j = l.length := by omega
      rw [List.take_length]
      have hxl : crcReg 4294967295 l < 4294967296 := crcReg_lt (by omega) _
      have hx := i64_xor_nat (crcReg 4294967295 l) 4294967295 (by omega) (by omega)
      have hs : crcSum l = crcReg 4294967295 l ^^^ 4294967295 := rfl
      rw [← hs] at hx
      have HX := Lib.hid hx; clear hx hs
      generalize crcReg 4294967295 l = y at *
      go_wp2_with fail
      go_ret
      exact ⟨by rw [← HX.out]; rfl, rfl⟩

theorem rSum_any (A : Option Addr) (c : Nat) (l : Bs) (w : World) (hbd : l.length ≤ 1000000000) (hr : Reads w w.heap.size 1 A l.length (bcells l)) :
    Calls Tryz.prog 159 #[.slice A l.length c] w fun e w' => e = .returned (.int .i64 (crcSum l)) ∧ w = w' := by
  go_enter Tryz.func159, Tryz.ntmps159
  go_wp2_with fail
  refine (rAdd_any A c l w hbd hr).mono ?_
  rintro e w1 ⟨rfl, rfl⟩
  go_wp2_with fail
  go_ret
  exact ⟨rfl, rfl⟩
end Go.Proofs.YtkjihmlighigjaaGreat

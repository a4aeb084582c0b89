/- Plain words of layers 18 and 20: numbers with texts (blocks, cells of a device), in rows. -/
import Derived.Test.YtfonaceldfjneaaGeoPlain
import Derived.Test.YtfonaceldfjneaaWords2
namespace Go.Proofs.Ytfonaceldfjneaa
open Go.RowKit

/-- a number and a text: a block, or a sector's cell -/
structure Pr where
  n : Int
  t : ByteArray
def prCell (x : Pr) : List Value := [.int .i64 x.n, .string x.t]
def prCells (l : List Pr) : List Value := l.flatMap prCell
theorem prCells_length (l : List Pr) : (prCells l).length = l.length * 2 := by
  induction l with
  | nil => rfl
  | cons r l ih => simp only [prCells, List.flatMap_cons, List.length_append, List.length_cons] at ih ⊢; rw [ih]; simp [prCell]; omega
theorem prCells_snoc (l : List Pr) (r : Pr) : prCells (l ++ [r]) = prCells l ++ prCell r := by simp [prCells]
theorem prCells_append (l m : List Pr) : prCells (l ++ m) = prCells l ++ prCells m := by simp [prCells]
theorem prCells_get (l : List Pr) (i : Nat) (h : i < l.length) : (prCells l)[i * 2]? = some (.int .i64 l[i].n) ∧ (prCells l)[i * 2 + 1]? = some (.string l[i].t) := by
  induction l generalizing i with
  | nil => simp at h
  | cons r l ih =>
    have e : prCells (r :: l) = .int .i64 r.n :: .string r.t :: prCells l := rfl
    rw [e]
    cases i with
    | zero => simp
    | succ i =>
      have := ih i (by simpa using h)
      simp only [show (i + 1) * 2 = i * 2 + 1 + 1 by omega, List.getElem?_cons_succ, List.getElem_cons_succ]
      exact this
theorem prCell_one (r : Pr) : ∀ u ∈ prCell r, u.oneCell' = true := by
  intro u hu; simp [prCell] at hu; rcases hu with rfl | rfl <;> rfl
theorem prCells_one (l : List Pr) : ∀ u ∈ prCells l, u.oneCell' = true := by
  intro u hu
  obtain ⟨r, _, h⟩ := List.mem_flatMap.1 hu
  exact prCell_one r u h
/-- the two cells of element j, in the walk's spelling -/
theorem reads_pr {w : World} {B : Nat} {A : Option Addr} {l : List Pr} (h : Reads w B 2 A l.length (prCells l)) {j : Nat} (hj : j < l.length) :
    ∃ ad, A = some ad ∧ ad.block < B ∧ w.cell? (ad.add (j * 2)) = some (.int .i64 l[j].n) ∧ w.cell? ⟨(ad.add (j * 2)).block, (ad.add (j * 2)).off + 1, none⟩ = some (.string l[j].t) := by
  obtain ⟨ad, rfl, hb, hc⟩ := h.2 (by omega)
  obtain ⟨h0, h1⟩ := prCells_get l j hj
  have e : ∀ t, 0 < t → ad.add (j * 2 + t) = ⟨(ad.add (j * 2)).block, (ad.add (j * 2)).off + t, none⟩ := fun t ht => by
    rw [← add_of_add]
    show (ad.add (j * 2)).add t = _
    generalize ad.add (j * 2) = z
    unfold Addr.add
    rw [if_neg (by omega)]
  exact ⟨ad, rfl, hb, hc _ _ h0, by rw [← e 1 (by omega)]; exact hc _ _ h1⟩

/-- blocks that may be, the last number being so much -/
def upFrom (g : Geo) : Int → List Pr → Bool
  | _, [] => true
  | last, x :: l => decide (last < x.n ∧ x.n < g.blocks ∧ (x.t.size : Int) ≤ g.per * 256) && upFrom g x.n l
def mayBk (g : Geo) (l : List Pr) : Bool := g.may && upFrom g (-1) l
theorem upFrom_step {g : Geo} {last : Int} {l : List Pr} {j : Nat} (hj : j < l.length) :
    upFrom g last (l.drop j) = (decide (last < l[j].n ∧ l[j].n < g.blocks ∧ (l[j].t.size : Int) ≤ g.per * 256) && upFrom g l[j].n (l.drop (j + 1))) := by
  rw [List.drop_eq_getElem_cons hj]; rfl
theorem upFrom_all {g : Geo} {last : Int} {l : List Pr} (h : upFrom g last l = true) : ∀ x ∈ l, last < x.n ∧ x.n < g.blocks ∧ (x.t.size : Int) ≤ g.per * 256 := by
  induction l generalizing last with
  | nil => simp
  | cons y l ih =>
    simp only [upFrom, Bool.and_eq_true, decide_eq_true_eq] at h
    intro x hx
    rcases List.mem_cons.1 hx with rfl | hx
    · exact h.1
    · have := ih h.2 x hx; omega
theorem mayBk_all {g : Geo} {l : List Pr} (h : mayBk g l = true) : g.may = true ∧ ∀ x ∈ l, 0 ≤ x.n ∧ x.n < g.blocks ∧ (x.t.size : Int) ≤ g.per * 256 := by
  unfold mayBk at h
  simp only [Bool.and_eq_true] at h
  refine ⟨h.1, fun x hx => ?_⟩
  have := upFrom_all h.2 x hx; omega

/-- the k-th piece of a text -/
def pieceB (t : ByteArray) (k : Nat) : ByteArray := mkS ((t.data.toList.drop (256 * k)).take 256)
theorem pieceB_size (t : ByteArray) (k : Nat) : (pieceB t k).size ≤ 256 := by unfold pieceB; rw [mkS_size]; simp; omega
def piecesL (per : Int) (t : ByteArray) : List ByteArray := (List.range per.toNat).map (pieceB t)
/-- where blocks stand -/
def cellsOf (g : Geo) (x : Pr) : List Pr := (List.range g.per.toNat).map fun (k : Nat) => ⟨g.dataS x.n (k : Int), pieceB x.t k⟩
def cellsL (g : Geo) (l : List Pr) : List Pr := l.flatMap (cellsOf g)
theorem piecesL_length (per : Int) (t : ByteArray) : (piecesL per t).length = per.toNat := by simp [piecesL]
theorem cellsOf_length (g : Geo) (x : Pr) : (cellsOf g x).length = g.per.toNat := by simp [cellsOf]
theorem cellsL_snoc (g : Geo) (l : List Pr) (x : Pr) : cellsL g (l ++ [x]) = cellsL g l ++ cellsOf g x := by simp [cellsL]
theorem cellsL_length (g : Geo) (l : List Pr) : (cellsL g l).length = l.length * g.per.toNat := by
  induction l with
  | nil => simp [cellsL]
  | cons x l ih => simp only [cellsL, List.flatMap_cons, List.length_append, List.length_cons] at ih ⊢; rw [ih, cellsOf_length, Nat.add_mul]; omega

/-- texts in a row -/
def txCells (l : List ByteArray) : List Value := l.map Value.string
theorem txCells_length (l : List ByteArray) : (txCells l).length = l.length := by simp [txCells]
theorem txCells_get (l : List ByteArray) (k : Nat) (h : k < l.length) : (txCells l)[k]? = some (.string l[k]) := by simp [txCells, h]
theorem txCells_one (l : List ByteArray) : ∀ u ∈ txCells l, u.oneCell' = true := by
  intro u hu; simp [txCells] at hu; obtain ⟨c, _, rfl⟩ := hu; rfl
/-- the pieces so far, and nothing behind -/
def pcs (p : Nat) (t : ByteArray) (j : Nat) : List ByteArray := (List.range j).map (pieceB t) ++ List.replicate (p - j) ⟨#[]⟩
theorem pcs_length {p : Nat} {t : ByteArray} {j : Nat} (h : j ≤ p) : (pcs p t j).length = p := by simp [pcs]; omega
theorem pcs_zero (p : Nat) (t : ByteArray) : txCells (pcs p t 0) = List.replicate p (.string ⟨#[]⟩) := by simp [pcs, txCells]
theorem pcs_set {p : Nat} {t : ByteArray} {j : Nat} (h : j < p) : (txCells (pcs p t j)).set j (.string (pieceB t j)) = txCells (pcs p t (j + 1)) := by
  have e1 : List.replicate (p - j) (⟨#[]⟩ : ByteArray) = ⟨#[]⟩ :: List.replicate (p - (j + 1)) ⟨#[]⟩ := by
    rw [show p - j = (p - (j + 1)) + 1 by omega, List.replicate_succ]
  unfold txCells pcs
  rw [e1, List.range_succ, List.map_append, List.set_append, if_neg (by simp)]
  simp
theorem pcs_all (p : Nat) (t : ByteArray) : pcs p t p = (List.range p).map (pieceB t) := by simp [pcs]
end Go.Proofs.Ytfonaceldfjneaa

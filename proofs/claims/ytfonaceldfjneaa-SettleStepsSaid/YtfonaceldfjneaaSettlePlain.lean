/- Plain words of layer 20: a settling on its way, its acts. -/
import Derived.Test.YtfonaceldfjneaaBufPlain
namespace Go.Proofs.Ytfonaceldfjneaa
open Go.RowKit

/-- an act -/
structure Ac where
  k : Int
  s : Int
  b : ByteArray
  key : Int
abbrev acVals (a : Ac) : Array Value := #[.int .i8 a.k, .int .i64 a.s, .string a.b, .int .i64 a.key]
def acCell (a : Ac) : List Value := [.int .i8 a.k, .int .i64 a.s, .string a.b, .int .i64 a.key]
def acCells (l : List Ac) : List Value := l.flatMap acCell
theorem acCells_length (l : List Ac) : (acCells l).length = l.length * 4 := by
  induction l with
  | nil => rfl
  | cons r l ih => simp only [acCells, List.flatMap_cons, List.length_append, List.length_cons] at ih ⊢; rw [ih]; simp [acCell]; omega
theorem acCells_snoc (l : List Ac) (r : Ac) : acCells (l ++ [r]) = acCells l ++ acCell r := by simp [acCells]
theorem acCells_get (l : List Ac) (i : Nat) (h : i < l.length) : (acCells l)[i * 4]? = some (.int .i8 l[i].k) ∧ (acCells l)[i * 4 + 1]? = some (.int .i64 l[i].s) ∧ (acCells l)[i * 4 + 2]? = some (.string l[i].b) ∧ (acCells l)[i * 4 + 3]? = some (.int .i64 l[i].key) := by
  induction l generalizing i with
  | nil => simp at h
  | cons r l ih =>
    have e : acCells (r :: l) = .int .i8 r.k :: .int .i64 r.s :: .string r.b :: .int .i64 r.key :: acCells l := rfl
    rw [e]
    cases i with
    | zero => simp
    | succ i =>
      have := ih i (by simpa using h)
      simp only [show (i + 1) * 4 = i * 4 + 1 + 1 + 1 + 1 by omega, List.getElem?_cons_succ, List.getElem_cons_succ]
      exact this
theorem acCell_one (r : Ac) : ∀ u ∈ acCell r, u.oneCell' = true := by
  intro u hu; simp [acCell] at hu; rcases hu with rfl | rfl | rfl | rfl <;> rfl
theorem reads_ac {w : World} {B : Nat} {A : Option Addr} {l : List Ac} (h : Reads w B 4 A l.length (acCells l)) {j : Nat} (hj : j < l.length) :
    ∃ ad, A = some ad ∧ ad.block < B ∧ w.cell? (ad.add (j * 4)) = some (.int .i8 l[j].k) ∧ w.cell? ⟨(ad.add (j * 4)).block, (ad.add (j * 4)).off + 1, none⟩ = some (.int .i64 l[j].s) ∧
      w.cell? ⟨(ad.add (j * 4)).block, (ad.add (j * 4)).off + 2, none⟩ = some (.string l[j].b) ∧ w.cell? ⟨(ad.add (j * 4)).block, (ad.add (j * 4)).off + 3, none⟩ = some (.int .i64 l[j].key) := by
  obtain ⟨ad, rfl, hb, hc⟩ := h.2 (by omega)
  obtain ⟨h0, h1, h2, h3⟩ := acCells_get l j hj
  have e : ∀ t, 0 < t → ad.add (j * 4 + t) = ⟨(ad.add (j * 4)).block, (ad.add (j * 4)).off + t, none⟩ := fun t ht => by
    rw [← add_of_add]
    show (ad.add (j * 4)).add t = _
    generalize ad.add (j * 4) = z
    unfold Addr.add
    rw [if_neg (by omega)]
  exact ⟨ad, rfl, hb, hc _ _ h0, by rw [← e 1 (by omega)]; exact hc _ _ h1, by rw [← e 2 (by omega)]; exact hc _ _ h2, by rw [← e 3 (by omega)]; exact hc _ _ h3⟩

/-- a settling's three numbers: I, Left, At -/
abbrev St := Int × Int × Int
def stNext (n : Nat) (s : St) : St :=
  if s.2.2 = 0 then (if (n : Int) ≤ s.1 + 1 then (s.1 + 1, n, 1) else (s.1 + 1, s.2.1, 0))
  else if s.2.2 = 1 then (if s.2.1 - 1 ≤ 0 then (s.1, 0, 2) else (s.1, s.2.1 - 1, 1))
  else if s.2.2 = 2 then (s.1, s.2.1, 3) else s
def noAc : Ac := ⟨0, 0, ⟨#[]⟩, 0⟩
def stAct (cs : List Pr) (s : St) (sec : Int) (hd : ByteArray) : Ac :=
  if s.2.2 = 0 then (if 0 ≤ s.1 ∧ s.1 < cs.length then ⟨3, (cs.getD s.1.toNat ⟨0, ⟨#[]⟩⟩).n, (cs.getD s.1.toNat ⟨0, ⟨#[]⟩⟩).t, 0⟩ else noAc)
  else if s.2.2 = 1 then ⟨4, 0, ⟨#[]⟩, 0⟩
  else if s.2.2 = 2 then ⟨2, sec, hd, 0⟩ else noAc
def stLeft (n : Nat) (s : St) : Int :=
  if s.2.2 = 0 then 2 * (n : Int) - s.1 + 1 else if s.2.2 = 1 then s.2.1 + 1 else if s.2.2 = 2 then 1 else 0
/-- how many acts there are -/
def many (n : Nat) : Nat := if n = 0 then 0 else 2 * n + 1
/-- behind j acts -/
def stAt (n j : Nat) : St :=
  if many n ≤ j then (n, 0, 3) else if j < n then (j, 0, 0) else if j < 2 * n then (n, 2 * n - j, 1) else (n, 0, 2)
theorem stAt_over (n j : Nat) : 2 < (stAt n j).2.2 ↔ many n ≤ j := by
  unfold stAt
  split
  · simp_all
  · split
    · simp; omega
    · split <;> simp <;> omega
theorem stAt_next (n j : Nat) (h : j < many n) : stNext n (stAt n j) = stAt n (j + 1) := by
  have hm : many n = 2 * n + 1 ∧ 1 ≤ n := by
    unfold many at h ⊢
    split at h
    · omega
    · rename_i h0; rw [if_neg h0]; omega
  unfold stAt
  rw [if_neg (by omega)]
  by_cases h1 : j < n
  · rw [if_pos h1, stNext]
    simp only [if_true]
    by_cases h2 : j + 1 < n
    · rw [if_neg (by omega), if_neg (by omega), if_pos h2]; simp
    · rw [if_pos (by omega), if_neg (by omega), if_neg (by omega), if_pos (by omega)]
      simp; omega
  · rw [if_neg h1]
    by_cases h2 : j < 2 * n
    · rw [if_pos h2, stNext]
      simp only [show ((1 : Int) = 0) = False by simp, if_false, if_true]
      by_cases h3 : j + 1 < 2 * n
      · rw [if_neg (by omega), if_neg (by omega), if_neg (by omega), if_pos h3]
        simp; omega
      · rw [if_pos (by omega), if_neg (by omega), if_neg (by omega), if_neg (by omega)]
    · rw [if_neg h2, if_pos (show many n ≤ j + 1 by omega)]
      simp [stNext]
theorem stAt_last (n j : Nat) (h : many n ≤ j) : stNext n (stAt n j) = stAt n j := by
  unfold stAt; rw [if_pos h]; simp [stNext]
theorem stAt_left (n j : Nat) (h : j ≤ many n) : stLeft n (stAt n j) = (many n : Int) - j := by
  have hm : (many n = 2 * n + 1 ∧ 1 ≤ n) ∨ (many n = 0 ∧ n = 0) := by
    unfold many
    split <;> omega
  unfold stAt
  by_cases h0 : many n ≤ j
  · rw [if_pos h0]; simp [stLeft]; omega
  · rw [if_neg h0]
    by_cases h1 : j < n
    · rw [if_pos h1]; simp [stLeft]; omega
    · rw [if_neg h1]
      by_cases h2 : j < 2 * n
      · rw [if_pos h2]; simp [stLeft]; omega
      · rw [if_neg h2]; simp [stLeft]; omega
theorem stAt_bd (n j : Nat) : 0 ≤ (stAt n j).1 ∧ (stAt n j).1 ≤ n ∧ 0 ≤ (stAt n j).2.1 ∧ (stAt n j).2.1 ≤ n ∧ 0 ≤ (stAt n j).2.2 ∧ (stAt n j).2.2 ≤ 3 := by
  unfold stAt
  split
  · simp
  · split
    · simp; omega
    · split <;> simp <;> omega
theorem many_zero (n : Nat) : many n ≤ 0 ↔ n = 0 := by unfold many; split <;> omega
/-- all acts -/
def actsL (cs : List Pr) (sec : Int) (hd : ByteArray) : List Ac := (List.range (many cs.length)).map fun j => stAct cs (stAt cs.length j) sec hd
theorem actsL_length (cs : List Pr) (sec : Int) (hd : ByteArray) : (actsL cs sec hd).length = many cs.length := by simp [actsL]
theorem actsL_get (cs : List Pr) (sec : Int) (hd : ByteArray) (j : Nat) (h : j < (actsL cs sec hd).length) : (actsL cs sec hd)[j] = stAct cs (stAt cs.length j) sec hd := by simp [actsL]
theorem stAct_over {cs : List Pr} {s : St} (h : 2 < s.2.2) (sec : Int) (hd : ByteArray) : stAct cs s sec hd = noAc := by
  unfold stAct; rw [if_neg (by omega), if_neg (by omega), if_neg (by omega)]
end Go.Proofs.Ytfonaceldfjneaa

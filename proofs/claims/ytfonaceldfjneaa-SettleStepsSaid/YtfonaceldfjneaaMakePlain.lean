/- Plain mathematics of layer 3: numbers as fields of a sector. Nothing of the program. -/
import Derived.Test.YtfonaceldfjneaaSealLaw
namespace Go.Proofs.Ytfonaceldfjneaa
open Go.RowKit

/-- the bytes of numbers of widths, or none -/
def fieldsB : Bs → List Int → List Int → Option Bs
  | b, [], [] => some b
  | b, w :: ws, n :: l => if fitsB n w = true ∧ (b ++ leBytes w.toNat n.toNat).length ≤ 505 then fieldsB (b ++ leBytes w.toNat n.toNat) ws l else none
  | _, _, _ => none
def makeR (k : Int) (rest : Bs) (ws l : List Int) : Bs × Int :=
  match fieldsB [] ws l with
  | some b => sealR k (b ++ rest)
  | none => ([], 2)

/-- the numbers of widths that stand ahead, and what is left -/
def takeF : Bs → List Int → Option (List Int × Bs)
  | s, [] => some ([], s)
  | s, w :: ws => if (getS s 0 w).2 = 0 then (takeF (s.drop w.toNat) ws).map fun r => ((getS s 0 w).1 :: r.1, r.2) else none
def fieldsR (k : Int) (s : Bs) (ws : List Int) : List Int × Bs × Int :=
  if (ofR k s).2 = 0 then
    match takeF (ofR k s).1 ws with
    | some r => (r.1, r.2, 0)
    | none => ([], [], 30)
  else ([], [], (ofR k s).2)

theorem fieldsB_snoc (b : Bs) (ws l : List Int) (w n : Int) (h : ws.length = l.length) :
    fieldsB b (ws ++ [w]) (l ++ [n]) = (fieldsB b ws l).bind fun b' => if fitsB n w = true ∧ (b' ++ leBytes w.toNat n.toNat).length ≤ 505 then some (b' ++ leBytes w.toNat n.toNat) else none := by
  induction ws generalizing b l with
  | nil =>
    have : l = [] := List.eq_nil_of_length_eq_zero (by simpa using h.symm)
    subst this
    simp only [List.nil_append, fieldsB, Option.bind_some]
  | cons w' ws ih =>
    match l, h with
    | n' :: l, h =>
      simp only [List.cons_append, fieldsB]
      split
      · exact ih _ l (by simpa using h)
      · rfl
theorem fieldsB_none (b : Bs) (ws l ws' l' : List Int) (h : ws.length = l.length) (hn : fieldsB b ws l = none) : fieldsB b (ws ++ ws') (l ++ l') = none := by
  induction ws generalizing b l with
  | nil =>
    have : l = [] := List.eq_nil_of_length_eq_zero (by simpa using h.symm)
    subst this
    simp [fieldsB] at hn
  | cons w' ws ih =>
    match l, h with
    | n' :: l, h =>
      simp only [List.cons_append, fieldsB] at hn ⊢
      split
      · rename_i hc
        rw [if_pos hc] at hn
        exact ih _ l (by simpa using h) hn
      · rfl
theorem fieldsB_len (b : Bs) (ws l : List Int) (h : ws.length ≠ l.length) : fieldsB b ws l = none := by
  induction ws generalizing b l with
  | nil => match l, h with
    | n :: l, _ => rfl
  | cons w ws ih => match l, h with
    | [], _ => rfl
    | n :: l, h =>
      simp only [fieldsB]
      split
      · exact ih _ l (by simpa using h)
      · rfl
theorem fieldsB_length (b : Bs) (ws l : List Int) (x : Bs) (h : fieldsB b ws l = some x) (hb : b.length ≤ 505) : x.length ≤ 505 := by
  induction ws generalizing b l with
  | nil => match l, h with
    | [], h => simp [fieldsB] at h; subst h; exact hb
  | cons w ws ih => match l, h with
    | n :: l, h =>
      simp only [fieldsB] at h
      split at h
      · rename_i hc; exact ih _ l h hc.2
      · cases h

theorem takeF_snoc (s : Bs) (ws : List Int) (w : Int) : takeF s (ws ++ [w]) = (takeF s ws).bind fun r => if (getS r.2 0 w).2 = 0 then some (r.1 ++ [(getS r.2 0 w).1], r.2.drop w.toNat) else none := by
  induction ws generalizing s with
  | nil => simp only [List.nil_append, takeF, Option.bind_some]; split <;> simp
  | cons w' ws ih =>
    simp only [List.cons_append, takeF]
    split
    · rw [ih]
      cases takeF (s.drop w'.toNat) ws with
      | none => rfl
      | some r =>
        simp only [Option.bind_some, Option.map_some]
        split <;> simp
    · rfl
theorem takeF_none (s : Bs) (ws ws' : List Int) (h : takeF s ws = none) : takeF s (ws ++ ws') = none := by
  induction ws generalizing s with
  | nil => simp [takeF] at h
  | cons w ws ih =>
    simp only [List.cons_append, takeF] at h ⊢
    split
    · rename_i hc
      rw [if_pos hc] at h
      have : takeF (s.drop w.toNat) ws = none := by simpa using h
      rw [ih _ this]; rfl
    · rfl
theorem getS_zero {s : Bs} {w : Int} (h : (getS s 0 w).2 = 0) : 1 ≤ w ∧ w ≤ 6 ∧ w ≤ s.length := by
  unfold getS at h
  split at h
  · split at h
    · omega
    · simp at h
  · simp at h
theorem takeF_le (s : Bs) (ws : List Int) (r : List Int × Bs) (h : takeF s ws = some r) : r.2.length ≤ s.length ∧ r.1.length = ws.length := by
  induction ws generalizing s r with
  | nil => simp [takeF] at h; subst h; simp
  | cons w ws ih =>
    simp only [takeF] at h
    split at h
    · cases ht : takeF (s.drop w.toNat) ws with
      | none => rw [ht] at h; simp at h
      | some q =>
        rw [ht] at h
        simp at h
        subst h
        have := ih _ _ ht
        simp at this ⊢
        omega
    · cases h

/-- what was put is taken -/
theorem getS_put (n w : Int) (t : Bs) (h : fitsB n w = true) : getS (leBytes w.toNat n.toNat ++ t) 0 w = (n, 0) := by
  have hf := of_decide_eq_true h
  obtain ⟨m, rfl⟩ := Int.eq_ofNat_of_zero_le hf.2.2.1
  obtain ⟨v, rfl⟩ := Int.eq_ofNat_of_zero_le (show 0 ≤ w by omega)
  have hl := fits_lt h
  simp only [Int.toNat_natCast]
  have e : ((leBytes v m ++ t).drop 0).take v = leBytes v m := by
    rw [List.drop_zero, List.take_append_of_le_length (by rw [leBytes_length]; omega), List.take_of_length_le (by rw [leBytes_length]; omega)]
  have e2 : le (((leBytes v m ++ t).drop 0).take v) = m := by rw [e, le_leBytes, Nat.mod_eq_of_lt hl.1]
  have := getS_ok (l := leBytes v m ++ t) (a := 0) (w := v) (by omega) (by simp [leBytes_length]) (by rw [e2]; omega)
  rw [e2] at this
  exact this
theorem takeF_fields (b : Bs) (ws l : List Int) (x t : Bs) (h : fieldsB b ws l = some x) : ∃ y, x = b ++ y ∧ takeF (y ++ t) ws = some (l, t) := by
  induction ws generalizing b l with
  | nil => match l, h with
    | [], h => simp [fieldsB] at h; subst h; exact ⟨[], by simp, by simp [takeF]⟩
  | cons w ws ih => match l, h with
    | n :: l, h =>
      simp only [fieldsB] at h
      split at h
      · rename_i hc
        obtain ⟨y, rfl, hy⟩ := ih _ l h
        refine ⟨leBytes w.toNat n.toNat ++ y, by simp, ?_⟩
        have hg := getS_put n w (y ++ t) hc.1
        simp only [takeF, List.append_assoc]
        rw [hg]
        simp only [if_true]
        rw [List.drop_append_of_le_length (by rw [leBytes_length]; omega), List.drop_of_length_le (by rw [leBytes_length]; omega), List.nil_append, hy]
        rfl
      · cases h
end Go.Proofs.Ytfonaceldfjneaa

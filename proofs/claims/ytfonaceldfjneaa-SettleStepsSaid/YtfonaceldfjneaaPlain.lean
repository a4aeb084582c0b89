/- Plain mathematics of layers 1 to 3: numbers as bytes. Nothing of the program. -/
import Derived.Test.YtfonaceldfjneaaBits
namespace Go.Proofs.Ytfonaceldfjneaa
open Go.RowKit

abbrev Bs := List UInt8
def le : Bs → Nat
  | [] => 0
  | c :: l => c.toNat + 256 * le l
def leBytes : Nat → Nat → Bs
  | 0, _ => []
  | w + 1, n => UInt8.ofNat (n % 256) :: leBytes w (n / 256)

theorem le_lt (l : Bs) : le l < 256 ^ l.length := by
  induction l with
  | nil => simp [le]
  | cons c l ih =>
    have := c.toNat_lt
    simp only [le, List.length_cons, Nat.pow_succ]
    omega
theorem le_append (l m : Bs) : le (l ++ m) = le l + 256 ^ l.length * le m := by
  induction l with
  | nil => simp [le]
  | cons c l ih =>
    simp only [List.cons_append, le, ih, List.length_cons, Nat.pow_succ, Nat.mul_add]
    have : 256 * (256 ^ l.length * le m) = 256 ^ l.length * 256 * le m := by
      rw [← Nat.mul_assoc, Nat.mul_comm 256]
    omega
theorem le_snoc (l : Bs) (c : UInt8) : le (l ++ [c]) = le l + c.toNat * 256 ^ l.length := by
  rw [le_append]; simp [le, Nat.mul_comm]
theorem leBytes_length (w n : Nat) : (leBytes w n).length = w := by
  induction w generalizing n with
  | zero => rfl
  | succ w ih => simp [leBytes, ih]
theorem le_leBytes (w n : Nat) : le (leBytes w n) = n % 256 ^ w := by
  induction w generalizing n with
  | zero => simp [leBytes, le, Nat.mod_one]
  | succ w ih =>
    simp only [leBytes, le, ih]
    have e : (UInt8.ofNat (n % 256)).toNat = n % 256 := by simp
    rw [e, Nat.pow_succ, Nat.mul_comm (256 ^ w) 256, Nat.mod_mul]
theorem leBytes_le (l : Bs) : leBytes l.length (le l) = l := by
  induction l with
  | nil => rfl
  | cons c l ih =>
    have h := c.toNat_lt
    have e1 : (c.toNat + 256 * le l) % 256 = c.toNat := by omega
    have e2 : (c.toNat + 256 * le l) / 256 = le l := by omega
    simp only [List.length_cons, leBytes, le, e1, e2, ih]
    simp
theorem leBytes_snoc (w n : Nat) : leBytes (w + 1) n = leBytes w n ++ [UInt8.ofNat (n / 256 ^ w % 256)] := by
  induction w generalizing n with
  | zero => simp [leBytes]
  | succ w ih =>
    rw [leBytes, ih, leBytes]
    simp only [List.cons_append]
    rw [Nat.div_div_eq_div_mul, Nat.pow_succ, Nat.mul_comm (256 ^ w) 256]
theorem leBytes_inj (w a b : Nat) (ha : a < 256 ^ w) (hb : b < 256 ^ w) (h : leBytes w a = leBytes w b) : a = b := by
  have := congrArg le h
  rwa [le_leBytes, le_leBytes, Nat.mod_eq_of_lt ha, Nat.mod_eq_of_lt hb] at this

/-- the greatest number of a width -/
def mostW (w : Nat) : Nat := min (256 ^ w - 1) 1099511627776
def fitsB (n w : Int) : Bool := decide (1 ≤ w ∧ w ≤ 6 ∧ 0 ≤ n ∧ n ≤ mostW w.toNat)
theorem fits_lt {n : Nat} {w : Nat} (h : fitsB n w = true) : n < 256 ^ w ∧ n ≤ 1099511627776 ∧ 1 ≤ w ∧ w ≤ 6 := by
  have h := of_decide_eq_true h
  have : 0 < 256 ^ w := Nat.pow_pos (by omega)
  simp only [Int.toNat_natCast, mostW] at h
  omega

/-- num.Get -/
def getS (l : Bs) (a w : Int) : Int × Int :=
  if 1 ≤ w ∧ w ≤ 6 then
    if 0 ≤ a ∧ a + w ≤ l.length then
      if le ((l.drop a.toNat).take w.toNat) ≤ 1099511627776 then (le ((l.drop a.toNat).take w.toNat), 0) else (0, 10)
    else (0, 10)
  else (0, 2)

theorem getS_bad {l : Bs} {a w : Int} (h : ¬ (1 ≤ w ∧ w ≤ 6)) : getS l a w = (0, 2) := by rw [getS, if_neg h]
theorem getS_out {l : Bs} {a w : Int} (h : 1 ≤ w ∧ w ≤ 6) (h' : ¬ (0 ≤ a ∧ a + w ≤ l.length)) : getS l a w = (0, 10) := by rw [getS, if_pos h, if_neg h']
theorem getS_big {l : Bs} {a w : Nat} (h : 1 ≤ w ∧ w ≤ 6) (h' : a + w ≤ l.length) (hn : ¬ le ((l.drop a).take w) ≤ 1099511627776) : getS l a w = (0, 10) := by
  rw [getS, if_pos (by omega), if_pos (by omega)]; simp only [Int.toNat_natCast]; rw [if_neg hn]
theorem getS_ok {l : Bs} {a w : Nat} (h : 1 ≤ w ∧ w ≤ 6) (h' : a + w ≤ l.length) (hn : le ((l.drop a).take w) ≤ 1099511627776) : getS l a w = (((le ((l.drop a).take w) : Nat) : Int), 0) := by
  rw [getS, if_pos (by omega), if_pos (by omega)]; simp only [Int.toNat_natCast]; rw [if_pos hn]

theorem take_drop_snoc (l : Bs) (a k : Nat) (h : a + k < l.length) : (l.drop a).take (k + 1) = (l.drop a).take k ++ [l[a + k]] := by
  rw [List.take_succ_eq_append_getElem (by simp; omega)]; simp
theorem le_take_snoc (l : Bs) (a k : Nat) (h : a + k < l.length) : le ((l.drop a).take (k + 1)) = le ((l.drop a).take k) + l[a + k].toNat * 256 ^ k := by
  rw [take_drop_snoc l a k h, le_snoc]
  congr 3
  simp; omega
theorem le_take_lt (l : Bs) (a k : Nat) : le ((l.drop a).take k) < 256 ^ k := by
  have h1 := le_lt ((l.drop a).take k)
  have h2 : ((l.drop a).take k).length ≤ k := by simp; omega
  exact Nat.lt_of_lt_of_le h1 (Nat.pow_le_pow_right (by omega) h2)
theorem pow256_le (k : Nat) (h : k ≤ 6) : 256 ^ k ≤ 281474976710656 := by
  have := Nat.pow_le_pow_right (n := 256) (by omega) h
  omega

theorem bytes_getElem (s : ByteArray) (i : Nat) (h : i < s.size) : s.data.toList[i]'(by simpa using h) = s[i] := by
  simp [ByteArray.getElem_eq_getElem_data]
theorem bytes_length (s : ByteArray) : s.data.toList.length = s.size := by simp

theorem or_byte2 (s : ByteArray) (a k : Nat) (h : a + k < s.size) (hk : k ≤ 5) :
    bits .or .i64 ((le ((s.data.toList.drop a).take k) : Nat) : Int) (wrap64 (wrap64 ((s[a + k].toNat : Nat) : Int) * 2 ^ (8 * k))) = ((le ((s.data.toList.drop a).take (k + 1)) : Nat) : Int) := by
  have h1 := s[a + k].toNat_lt
  have hw : wrap64 ((s[a + k].toNat : Nat) : Int) = ((s[a + k].toNat : Nat) : Int) := by unfold wrap64; omega
  rw [hw, or_byte _ _ _ (le_take_lt _ _ _) (by omega) hk, le_take_snoc _ _ _ (by simpa using h), bytes_getElem s _ h]
end Go.Proofs.Ytfonaceldfjneaa

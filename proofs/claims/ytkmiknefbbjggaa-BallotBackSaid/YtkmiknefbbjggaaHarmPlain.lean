/- Plain mathematics: up to 32 bits side by side that are turned about are told by the sum. Nothing of the program. -/
import Derived.Test.YtkmiknefbbjggaaSealLaw
namespace Go.Proofs.Ytkmiknefbbjggaa
open Go.RowKit

theorem mul_xor (i a b : Nat) : 2 ^ i * (a ^^^ b) = 2 ^ i * a ^^^ 2 ^ i * b := by
  have := Nat.shiftLeft_xor_distrib (a := a) (b := b) (i := i)
  simpa [Nat.shiftLeft_eq, Nat.mul_comm] using this
theorem div_xor (i a b : Nat) : (a ^^^ b) / 2 ^ i = a / 2 ^ i ^^^ b / 2 ^ i := by
  have := Nat.shiftRight_xor_distrib (a := a) (b := b) (i := i)
  simpa [Nat.shiftRight_eq_div_pow] using this

/-- one bit turned about -/
def flip (l : Bs) (k : Nat) : Bs := l.set (k / 8) (l.getD (k / 8) 0 ^^^ UInt8.ofNat (2 ^ (k % 8)))
theorem flip_length (l : Bs) (k : Nat) : (flip l k).length = l.length := by simp [flip]
theorem toNat_pow (t : Nat) (h : t < 8) : (UInt8.ofNat (2 ^ t)).toNat = 2 ^ t := by
  have : 2 ^ t ≤ 2 ^ 7 := Nat.pow_le_pow_right (by omega) (by omega)
  simp; omega
theorem le_set (l : Bs) (j t : Nat) (hj : j < l.length) (ht : t < 8) : le (l.set j (l.getD j 0 ^^^ UInt8.ofNat (2 ^ t))) = le l ^^^ 2 ^ (8 * j + t) := by
  induction l generalizing j with
  | nil => simp at hj
  | cons c l ih =>
    have hc := c.toNat_lt
    cases j with
    | zero =>
      have hp : 2 ^ t ≤ 2 ^ 7 := Nat.pow_le_pow_right (by omega) (by omega)
      have hx := Nat.xor_lt_two_pow (x := c.toNat) (y := 2 ^ t) (n := 8) (by omega) (by omega)
      simp only [List.set_cons_zero, List.getD_cons_zero, le, UInt8.toNat_xor, toNat_pow t ht]
      have e1 := xor_join 8 (le l) (c.toNat ^^^ 2 ^ t) hx
      have e2 := xor_join 8 (le l) c.toNat (by omega)
      rw [show c.toNat + 256 * le l = 2 ^ 8 * le l + c.toNat by omega, ← e2, show (c.toNat ^^^ 2 ^ t) + 256 * le l = 2 ^ 8 * le l + (c.toNat ^^^ 2 ^ t) by omega, ← e1, Nat.mul_zero, Nat.zero_add, Nat.xor_assoc]
    | succ j =>
      have hj' : j < l.length := by simpa using hj
      simp only [List.set_cons_succ, List.getD_cons_succ, le, ih j hj']
      have e1 := xor_join 8 (le l ^^^ 2 ^ (8 * j + t)) c.toNat (by omega)
      have e2 := xor_join 8 (le l) c.toNat (by omega)
      rw [show c.toNat + 256 * le l = 2 ^ 8 * le l + c.toNat by omega, ← e2, show c.toNat + 256 * (le l ^^^ 2 ^ (8 * j + t)) = 2 ^ 8 * (le l ^^^ 2 ^ (8 * j + t)) + c.toNat by omega, ← e1, mul_xor]
      rw [show 2 ^ (8 * (j + 1) + t) = 2 ^ 8 * 2 ^ (8 * j + t) by rw [← Nat.pow_add]; congr 1; omega]
      rw [Nat.xor_assoc, Nat.xor_assoc, Nat.xor_comm c.toNat]
theorem le_flip (l : Bs) (k : Nat) (h : k < 8 * l.length) : le (flip l k) = le l ^^^ 2 ^ k := by
  unfold flip
  rw [le_set l (k / 8) (k % 8) (by omega) (by omega)]
  congr 2; omega
theorem le_inj {a b : Bs} (hl : a.length = b.length) (h : le a = le b) : a = b := by
  rw [← leBytes_le a, ← leBytes_le b, hl, h]

/-- the bits below i of a mask: as many as the rounds have turned about -/
theorem mask_succ (B i : Nat) (h : B / 2 ^ i % 2 = 1) : B % 2 ^ (i + 1) = B % 2 ^ i ^^^ 2 ^ i := by
  have h1 : B % 2 ^ (i + 1) = B % 2 ^ i + 2 ^ i := by
    rw [Nat.mod_pow_succ, h, Nat.mul_one]
  have h2 := xor_join i 1 (B % 2 ^ i) (Nat.mod_lt _ (Nat.pow_pos (by omega)))
  rw [Nat.mul_one] at h2
  rw [h1, Nat.xor_comm, h2, Nat.add_comm]
theorem mask_same (B i : Nat) (h : B / 2 ^ i % 2 = 0) : B % 2 ^ (i + 1) = B % 2 ^ i := by
  rw [Nat.mod_pow_succ, h]; simp

theorem le_split (l : Bs) (m : Nat) (h : m ≤ l.length) : le (l.take m) = le l % 2 ^ (8 * m) ∧ le (l.drop m) = le l / 2 ^ (8 * m) := by
  have e := le_append (l.take m) (l.drop m)
  rw [List.take_append_drop] at e
  have hl : (l.take m).length = m := by simp; omega
  have hlt := le_lt (l.take m)
  rw [hl] at e hlt
  have e2 : (256 : Nat) ^ m = 2 ^ (8 * m) := by rw [Nat.pow_mul]
  rw [e2] at e hlt
  constructor
  · rw [e, Nat.add_mul_mod_self_left]; exact (Nat.mod_eq_of_lt hlt).symm
  · rw [e, Nat.add_mul_div_left _ _ (Nat.pow_pos (by omega)), Nat.div_eq_of_lt hlt, Nat.zero_add]

theorem crcSum_differ {a b : Bs} {E f : Nat} (hl : a.length = b.length) (h : le b = le a ^^^ 2 ^ f * E) (hf : f ≤ 8 * a.length) (hE : E < 4294967296) (h0 : E ≠ 0) : crcSum b ≠ crcSum a := by
  intro he
  unfold crcSum at he
  have h1 : crcReg 4294967295 b = crcReg 4294967295 a := by
    have := congrArg (· ^^^ 4294967295) he
    simpa [Nat.xor_assoc] using this
  rw [crcReg_le, crcReg_le, hl, h, ← Nat.xor_assoc, steps_xor] at h1
  have h2 : steps (8 * b.length) (2 ^ f * E) = 0 := by
    have := congrArg (fun x => steps (8 * b.length) (4294967295 ^^^ le a) ^^^ x) h1
    simpa [← Nat.xor_assoc] using this
  rw [show 8 * b.length = (8 * b.length - f) + f by omega, steps_add, steps_shift] at h2
  exact steps_ne_zero _ hE h0 h2

/-- bits side by side that are turned about, all ahead of the sum or all in it, are told -/
theorem harm_told {k : Int} {l x b : Bs} {E f m : Nat} (hx : sealB k l = some x) (hk : k ≤ 127) (hbl : b.length = x.length) (hle : le b = le x ^^^ 2 ^ f * E) (hE : E < 2 ^ m) (hm : m ≤ 32) (h0 : E ≠ 0)
    (hpos : f + m ≤ 8 * x.length - 32 ∨ (8 * x.length - 32 ≤ f ∧ f + m ≤ 8 * x.length)) : openR b = (0, [], 30) := by
  have hlen := (sealB_parts hx).2.2.2
  have ho := openR_seal hk hx
  have hx7 : 7 ≤ x.length := by omega
  have hsum : le (x.drop (x.length - 4)) = crcSum (x.take (x.length - 4)) := by
    have := (openR_iff x hx7).1 (by
      unfold openR at ho
      split at ho
      · rename_i hc; exact hc.2.2.2.2
      · simp at ho)
    exact this.2.2.2
  have hE32 : E < 4294967296 := Nat.lt_of_lt_of_le hE (Nat.pow_le_pow_right (by omega) hm)
  refine openR_sum (by omega) ?_
  have sb := le_split b (x.length - 4) (by omega)
  have sx := le_split x (x.length - 4) (by omega)
  rw [hbl]
  rcases hpos with hp | ⟨hp, hp2⟩
  · have hlt : 2 ^ f * E < 2 ^ (8 * (x.length - 4)) := by
      have : 2 ^ f * E < 2 ^ f * 2 ^ m := Nat.mul_lt_mul_of_pos_left hE (Nat.pow_pos (by omega))
      rw [← Nat.pow_add] at this
      exact Nat.lt_of_lt_of_le this (Nat.pow_le_pow_right (by omega) (by omega))
    have e1 : le (b.drop (x.length - 4)) = le (x.drop (x.length - 4)) := by
      rw [sb.2, sx.2, hle, div_xor, Nat.div_eq_of_lt hlt]; simp
    have e2 : le (b.take (x.length - 4)) = le (x.take (x.length - 4)) ^^^ 2 ^ f * E := by
      rw [sb.1, sx.1, hle, Nat.xor_mod_two_pow, Nat.mod_eq_of_lt hlt]
    rw [e1, hsum]
    exact fun h => crcSum_differ (a := x.take (x.length - 4)) (b := b.take (x.length - 4)) (by simp; omega) e2 (by simp; omega) hE32 h0 h.symm
  · have e3 : 2 ^ f * E = 2 ^ (8 * (x.length - 4)) * (2 ^ (f - 8 * (x.length - 4)) * E) := by
      rw [← Nat.mul_assoc, ← Nat.pow_add]; congr 2; omega
    have e1 : le (b.take (x.length - 4)) = le (x.take (x.length - 4)) := by
      rw [sb.1, sx.1, hle, Nat.xor_mod_two_pow, e3, Nat.mul_mod_right]; simp
    have e2 : le (b.drop (x.length - 4)) = le (x.drop (x.length - 4)) ^^^ 2 ^ (f - 8 * (x.length - 4)) * E := by
      rw [sb.2, sx.2, hle, div_xor, e3, Nat.mul_div_cancel_left _ (Nat.pow_pos (by omega))]
    have e4 : b.take (x.length - 4) = x.take (x.length - 4) := le_inj (by simp; omega) e1
    rw [e4, ← hsum, e2]
    intro h
    have : 2 ^ (f - 8 * (x.length - 4)) * E = 0 := by
      have := congrArg (fun y => le (x.drop (x.length - 4)) ^^^ y) h
      simpa [← Nat.xor_assoc] using this
    rcases Nat.mul_eq_zero.1 this with h1 | h1
    · exact absurd h1 (Nat.ne_of_gt (Nat.pow_pos (by omega)))
    · exact h0 h1
end Go.Proofs.Ytkmiknefbbjggaa

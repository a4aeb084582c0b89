/- Plain mathematics of layer 2: the sum of bytes, by bits and by four bits. Nothing of the program. -/
import Derived.Test.YtfonaceldfjneaaPlain
namespace Go.Proofs.Ytfonaceldfjneaa
open Go.RowKit

def step (x : Nat) : Nat := if x % 2 = 1 then x / 2 ^^^ 2197175160 else x / 2
def steps : Nat → Nat → Nat
  | 0, x => x
  | n + 1, x => step (steps n x)
def crcByte (x : Nat) (c : UInt8) : Nat := steps 8 (x ^^^ c.toNat)
def crcReg (x : Nat) (l : Bs) : Nat := l.foldl crcByte x
def crcSum (l : Bs) : Nat := crcReg 4294967295 l ^^^ 4294967295

theorem xor_div2 (a b : Nat) : (a ^^^ b) / 2 = a / 2 ^^^ b / 2 := by
  have := Nat.shiftRight_xor_distrib (a := a) (b := b) (i := 1)
  simpa [Nat.shiftRight_eq_div_pow] using this
theorem xor_mod2 (a b : Nat) : (a ^^^ b) % 2 = (a % 2 + b % 2) % 2 := by
  have h := Nat.xor_mod_two_pow (a := a) (b := b) (n := 1)
  rw [Nat.pow_one] at h
  rw [h]
  rcases Nat.mod_two_eq_zero_or_one a with h1 | h1 <;> rcases Nat.mod_two_eq_zero_or_one b with h2 | h2 <;> rw [h1, h2] <;> rfl
theorem step_xor (a b : Nat) : step (a ^^^ b) = step a ^^^ step b := by
  unfold step
  rw [xor_mod2, xor_div2]
  rcases Nat.mod_two_eq_zero_or_one a with h1 | h1 <;> rcases Nat.mod_two_eq_zero_or_one b with h2 | h2 <;> simp [h1, h2]
  · rw [← Nat.xor_assoc]
  · rw [Nat.xor_assoc, Nat.xor_assoc, Nat.xor_comm (b / 2)]
  · rw [show a / 2 ^^^ 2197175160 ^^^ (b / 2 ^^^ 2197175160) = a / 2 ^^^ b / 2 ^^^ (2197175160 ^^^ 2197175160) by ac_rfl]; simp
theorem steps_xor (n a b : Nat) : steps n (a ^^^ b) = steps n a ^^^ steps n b := by
  induction n with
  | zero => rfl
  | succ n ih => simp only [steps, ih, step_xor]
theorem steps_add (m n x : Nat) : steps (m + n) x = steps m (steps n x) := by
  induction m with
  | zero => simp [steps]
  | succ m ih => rw [Nat.succ_add]; simp only [steps, ih]
theorem step_lt {x : Nat} (h : x < 4294967296) : step x < 4294967296 := by
  unfold step
  split
  · have := Nat.xor_lt_two_pow (x := x / 2) (y := 2197175160) (n := 32) (by omega) (by omega)
    omega
  · omega
theorem steps_lt {x : Nat} (n : Nat) (h : x < 4294967296) : steps n x < 4294967296 := by
  induction n with
  | zero => exact h
  | succ n ih => exact step_lt ih
theorem step_even (x : Nat) : step (2 * x) = x := by
  unfold step; rw [if_neg (by omega)]; omega
theorem steps_zero (n : Nat) : steps n 0 = 0 := by
  induction n with
  | zero => rfl
  | succ n ih => simp [steps, ih, step]
theorem steps_shift (n x : Nat) : steps n (2 ^ n * x) = x := by
  induction n generalizing x with
  | zero => simp [steps]
  | succ n ih =>
    rw [Nat.pow_succ, Nat.mul_assoc, steps, ih, step_even]
theorem xor_join (i a y : Nat) (hy : y < 2 ^ i) : 2 ^ i * a ^^^ y = 2 ^ i * a + y := by
  apply Nat.eq_of_testBit_eq
  intro j
  rw [Nat.testBit_xor, Nat.testBit_two_pow_mul_add _ hy, Nat.testBit_two_pow_mul]
  by_cases h : j < i
  · have h' : ¬ i ≤ j := by omega
    simp [h, h']
  · have hb : y.testBit j = false := Nat.testBit_lt_two_pow (Nat.lt_of_lt_of_le hy (Nat.pow_le_pow_right (by omega) (by omega)))
    simp [h, hb]
    omega
theorem xor_zero_eq {a b : Nat} (h : a ^^^ b = 0) : a = b := by
  have := congrArg (· ^^^ b) h
  simpa [Nat.xor_assoc] using this
theorem split_nibble (x : Nat) : x = 16 * (x / 16) ^^^ x % 16 := by
  have h := xor_join 4 (x / 16) (x % 16) (by omega)
  rw [show (2 : Nat) ^ 4 = 16 from rfl] at h
  omega
theorem nibble (x : Nat) : steps 4 x = x / 16 ^^^ steps 4 (x % 16) := by
  conv => lhs; rw [split_nibble x, steps_xor, show 16 * (x / 16) = 2 ^ 4 * (x / 16) from rfl, steps_shift]
theorem byte_nibbles (x : Nat) : steps 8 x = (x / 16 ^^^ steps 4 (x % 16)) / 16 ^^^ steps 4 ((x / 16 ^^^ steps 4 (x % 16)) % 16) := by
  rw [← nibble x, ← nibble, show 8 = 4 + 4 from rfl, steps_add]
theorem step_injective {a b : Nat} (ha : a < 4294967296) (hb : b < 4294967296) (h : step a = step b) : a = b := by
  have hx : step (a ^^^ b) = 0 := by rw [step_xor, h, Nat.xor_self]
  have hlt := Nat.xor_lt_two_pow (x := a) (y := b) (n := 32) (by omega) (by omega)
  have h0 : a ^^^ b = 0 := by
    generalize a ^^^ b = c at *
    unfold step at hx
    split at hx
    · have hc : c / 2 = 2197175160 := xor_zero_eq hx
      omega
    · omega
  exact xor_zero_eq h0
theorem steps_ne_zero {x : Nat} (n : Nat) (h : x < 4294967296) (h0 : x ≠ 0) : steps n x ≠ 0 := by
  induction n with
  | zero => exact h0
  | succ n ih =>
    intro h1
    exact ih (step_injective (steps_lt n h) (by omega) (by rw [show step 0 = 0 from rfl]; exact h1))
theorem crcByte_lt {x : Nat} (h : x < 4294967296) (c : UInt8) : crcByte x c < 4294967296 := by
  have h1 := c.toNat_lt
  have := Nat.xor_lt_two_pow (x := x) (y := c.toNat) (n := 32) (by omega) (by omega)
  exact steps_lt 8 (by omega)
theorem crcReg_lt {x : Nat} (h : x < 4294967296) (l : Bs) : crcReg x l < 4294967296 := by
  induction l generalizing x with
  | nil => exact h
  | cons c l ih => exact ih (crcByte_lt h c)
theorem crcReg_snoc (x : Nat) (l : Bs) (c : UInt8) : crcReg x (l ++ [c]) = crcByte (crcReg x l) c := by simp [crcReg]
theorem crcSum_lt (l : Bs) : crcSum l < 4294967296 := by
  have h1 := crcReg_lt (x := 4294967295) (by omega) l
  have := Nat.xor_lt_two_pow (x := crcReg 4294967295 l) (y := 4294967295) (n := 32) (by omega) (by omega)
  unfold crcSum; omega
/-- the register over a text is the steps of the register and the text as one number -/
theorem crcReg_le (x : Nat) (l : Bs) : crcReg x l = steps (8 * l.length) (x ^^^ le l) := by
  induction l generalizing x with
  | nil => simp [crcReg, steps, le]
  | cons c l ih =>
    have h := c.toNat_lt
    have e : c.toNat + 256 * le l = 2 ^ 8 * le l ^^^ c.toNat := by rw [xor_join 8 _ _ (by omega)]; omega
    show crcReg (crcByte x c) l = _
    rw [ih, List.length_cons, Nat.mul_succ, steps_add, le, e]
    congr 1
    rw [Nat.xor_comm (2 ^ 8 * le l), ← Nat.xor_assoc, steps_xor, steps_shift, crcByte]
/-- the program's step of a u32 -/
theorem u32_step (x : Nat) (h : x < 4294967296) :
    bits .xor .u32 ((x : Int) / 2) (bits .and .u32 2197175160 (IntKind.u32.wrap (-(bits .and .u32 (x : Int) 1)))) = ((step x : Nat) : Int) := by
  have e1 : bits .and .u32 (x : Int) 1 = ((x % 2 : Nat) : Int) := by
    have := u32_and_nat x 1 h (by omega)
    rw [nat_mask1] at this
    exact this
  rw [e1, show ((x : Int) / 2) = ((x / 2 : Nat) : Int) by simp]
  unfold step
  rcases Nat.mod_two_eq_zero_or_one x with h1 | h1
  · rw [h1, if_neg (by omega)]
    have e2 : bits .and .u32 2197175160 (IntKind.u32.wrap (-((0 : Nat) : Int))) = ((0 : Nat) : Int) := by decide +kernel
    rw [e2, u32_xor_nat _ _ (by omega) (by omega)]
    simp
  · rw [h1, if_pos rfl]
    have e2 : bits .and .u32 2197175160 (IntKind.u32.wrap (-((1 : Nat) : Int))) = ((2197175160 : Nat) : Int) := by decide +kernel
    rw [e2, u32_xor_nat _ _ (by omega) (by omega)]
end Go.Proofs.Ytfonaceldfjneaa

/- Plain facts on the model's bit operations over natural numbers: and, or, xor of i64 and u32, shifts; nothing of the program. -/
import Derived.WalkKit
namespace Go.Proofs.Ytfonaceldfjneaa
open Go.RowKit

theorem ofInt_i64 (a : Nat) (ha : a < 18446744073709551616) : (BitVec.ofInt 64 (a : Int)).toNat = a := by
  simp only [BitVec.toNat_ofInt]
  omega
theorem wrap_i64_nat (n : Nat) (h : n < 9223372036854775808) : IntKind.i64.wrap (n : Int) = n := by
  rw [IntKind.wrap_i64]; omega
theorem i64_or_nat (a b : Nat) (ha : a < 9223372036854775808) (hb : b < 9223372036854775808) : bits .or .i64 (a : Int) (b : Int) = ((a ||| b : Nat) : Int) := by
  show IntKind.i64.wrap ((BitVec.ofInt 64 (a : Int) ||| BitVec.ofInt 64 (b : Int)).toNat : Nat) = _
  rw [BitVec.toNat_or, ofInt_i64 a (by omega), ofInt_i64 b (by omega)]
  have : a ||| b < 2 ^ 63 := Nat.or_lt_two_pow (by omega) (by omega)
  exact wrap_i64_nat _ (by omega)
theorem i64_and_nat (a b : Nat) (ha : a < 9223372036854775808) (hb : b < 9223372036854775808) : bits .and .i64 (a : Int) (b : Int) = ((a &&& b : Nat) : Int) := by
  show IntKind.i64.wrap ((BitVec.ofInt 64 (a : Int) &&& BitVec.ofInt 64 (b : Int)).toNat : Nat) = _
  rw [BitVec.toNat_and, ofInt_i64 a (by omega), ofInt_i64 b (by omega)]
  have : a &&& b < 2 ^ 63 := Nat.and_lt_two_pow _ (by omega)
  exact wrap_i64_nat _ (by omega)
theorem i64_xor_nat (a b : Nat) (ha : a < 9223372036854775808) (hb : b < 9223372036854775808) : bits .xor .i64 (a : Int) (b : Int) = ((a ^^^ b : Nat) : Int) := by
  show IntKind.i64.wrap ((BitVec.ofInt 64 (a : Int) ^^^ BitVec.ofInt 64 (b : Int)).toNat : Nat) = _
  rw [BitVec.toNat_xor, ofInt_i64 a (by omega), ofInt_i64 b (by omega)]
  have : a ^^^ b < 2 ^ 63 := Nat.xor_lt_two_pow (by omega) (by omega)
  exact wrap_i64_nat _ (by omega)

/-- the or of a number below 256^k and a byte moved by k bytes is their sum -/
theorem or_byte (z c k : Nat) (hz : z < 256 ^ k) (hc : c < 256) (hk : k ≤ 5) :
    bits .or .i64 (z : Int) (wrap64 ((c : Int) * 2 ^ (8 * k))) = ((z + c * 256 ^ k : Nat) : Int) := by
  have e : (2 : Nat) ^ (8 * k) = 256 ^ k := by rw [Nat.pow_mul]
  have h5 : 256 ^ k ≤ 256 ^ 5 := Nat.pow_le_pow_right (by omega) hk
  have hm : c * 256 ^ k ≤ 255 * 256 ^ 5 := Nat.mul_le_mul (by omega) h5
  have e2 : ((c : Int) * 2 ^ (8 * k)) = ((c * 256 ^ k : Nat) : Int) := by
    rw [← e]; simp
  rw [e2]
  have hw : wrap64 ((c * 256 ^ k : Nat) : Int) = ((c * 256 ^ k : Nat) : Int) := by
    unfold wrap64
    generalize c * 256 ^ k = q at *
    omega
  rw [hw, i64_or_nat _ _ (by omega) (by omega)]
  congr 1
  rw [Nat.or_comm, nat_join (8 * k) _ _ (by rw [e]; exact Nat.mul_mod_left _ _) (by rw [e]; exact hz), Nat.add_comm]
end Go.Proofs.Ytfonaceldfjneaa

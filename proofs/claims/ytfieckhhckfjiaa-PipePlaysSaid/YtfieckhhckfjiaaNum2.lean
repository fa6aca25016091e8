/-
  Plain arithmetic of bytes and words as the walk writes it. No program is named.
-/
import Derived.Test.YtfieckhhckfjiaaNum
namespace Go.Proofs.Ytfieckhhckfjiaa
open Go.RowKit

theorem and_1u (x : Int) (h0 : 0 ≤ x) (h1 : x ≤ 4294967295) : bits .and .u32 x 1 = x % 2 := by
  obtain ⟨n, rfl⟩ := Int.eq_ofNat_of_zero_le h0
  show IntKind.u32.wrap ((BitVec.ofInt 32 (n : Int) &&& BitVec.ofInt 32 ((1 : Nat) : Int)).toNat : Int) = _
  rw [BitVec.ofInt_natCast, BitVec.ofInt_natCast, BitVec.toNat_and, BitVec.toNat_ofNat, BitVec.toNat_ofNat, Nat.mod_eq_of_lt (show n < 2 ^ 32 by omega), Nat.and_one_is_mod]
  show ((n % 2 : Nat) : Int) % 4294967296 = _
  omega
theorem wrap_u8 (n : Nat) (h : n < 256) : IntKind.u8.wrap (n : Int) = (n : Int) := by
  show (n : Int) % 256 = _
  omega
theorem xor_u8 (a c : UInt8) : bits .xor .u8 (a.toNat : Int) (c.toNat : Int) = ((a ^^^ c).toNat : Int) := by
  show IntKind.u8.wrap ((BitVec.ofInt 8 (a.toNat : Int) ^^^ BitVec.ofInt 8 (c.toNat : Int)).toNat : Int) = _
  rw [BitVec.ofInt_natCast, BitVec.ofInt_natCast, BitVec.toNat_xor, BitVec.toNat_ofNat, BitVec.toNat_ofNat, Nat.mod_eq_of_lt a.toNat_lt, Nat.mod_eq_of_lt c.toNat_lt]
  have : a.toNat ^^^ c.toNat = (a ^^^ c).toNat := by rw [UInt8.toNat_xor]
  rw [this, wrap_u8 _ (UInt8.toNat_lt _)]
theorem half_128 (r : Nat) (h : r < 8) : (128 : Int) / 2 ^ r = (((128 : UInt8) >>> r.toUInt8).toNat : Int) := by
  rcases (show r = 0 ∨ r = 1 ∨ r = 2 ∨ r = 3 ∨ r = 4 ∨ r = 5 ∨ r = 6 ∨ r = 7 by omega) with rfl | rfl | rfl | rfl | rfl | rfl | rfl | rfl <;> rfl
theorem one_up (r : Nat) (h : r < 8) : IntKind.u8.wrap ((1 : Int) * 2 ^ (7 - r)) = (((128 : UInt8) >>> r.toUInt8).toNat : Int) := by
  rcases (show r = 0 ∨ r = 1 ∨ r = 2 ∨ r = 3 ∨ r = 4 ∨ r = 5 ∨ r = 6 ∨ r = 7 by omega) with rfl | rfl | rfl | rfl | rfl | rfl | rfl | rfl <;> rfl
theorem one_up2 (r : Nat) (h : r < 8) : ((1 : Int) * 2 ^ (7 - r)) % 256 = (((128 : UInt8) >>> r.toUInt8).toNat : Int) := by
  rcases (show r = 0 ∨ r = 1 ∨ r = 2 ∨ r = 3 ∨ r = 4 ∨ r = 5 ∨ r = 6 ∨ r = 7 by omega) with rfl | rfl | rfl | rfl | rfl | rfl | rfl | rfl <;> rfl
theorem xor_u8_zero (a : UInt8) : bits .xor .u8 (a.toNat : Int) 0 = (a.toNat : Int) := by
  have := xor_u8 a 0
  simp only [UInt8.xor_zero] at this
  exact this
end Go.Proofs.Ytfieckhhckfjiaa

/-
  Plain arithmetic as the walk writes it. No program is named.
-/
import Derived.WalkKit
import Derived.WalkSpells
import Derived.WalkLawsBesides
namespace Go.Proofs.YtpifgpmjnjbecaaDoor
open Go.RowKit

/-- 'a & (2^k - 1)' of an int. -/
theorem and_mask (a : Int) (k m : Nat) (hm : m + 1 = 2 ^ k) (hk : k ≤ 62) : bits .and .i64 a (m : Int) = a % ((m + 1 : Nat) : Int) := by
  have hle : 2 ^ k ≤ 2 ^ 62 := Nat.pow_le_pow_right (by omega) hk
  have h2 : (BitVec.ofInt 64 (m : Int)).toNat = m := by
    rw [BitVec.ofInt_natCast, BitVec.toNat_ofNat]; exact Nat.mod_eq_of_lt (by omega)
  show IntKind.i64.wrap ((BitVec.ofInt 64 a &&& BitVec.ofInt 64 (m : Int)).toNat : Int) = _
  rw [BitVec.toNat_and, h2, BitVec.toNat_ofInt]
  have hm' : m = 2 ^ k - 1 := by omega
  have e1 : ((a % ((2 ^ 64 : Nat) : Int)).toNat &&& m) = (a % ((2 ^ 64 : Nat) : Int)).toNat % (m + 1) := by
    rw [hm, hm', Nat.and_two_pow_sub_one_eq_mod]
  rw [e1]
  have hpos : (0 : Int) ≤ a % ((2 ^ 64 : Nat) : Int) := Int.emod_nonneg _ (by decide)
  have e2 : (((a % ((2 ^ 64 : Nat) : Int)).toNat % (m + 1) : Nat) : Int) = a % ((m + 1 : Nat) : Int) := by
    rw [Int.natCast_emod, Int.toNat_of_nonneg hpos]
    refine Int.emod_emod_of_dvd a ?_
    rw [hm]
    exact Int.natCast_dvd_natCast.2 (Nat.pow_dvd_pow 2 (by omega))
  rw [e2]
  have b1 : 0 ≤ a % ((m + 1 : Nat) : Int) := Int.emod_nonneg _ (by omega)
  have b2 : a % ((m + 1 : Nat) : Int) < ((m + 1 : Nat) : Int) := Int.emod_lt_of_pos _ (by omega)
  exact IntWalk.i64_in _ ⟨by omega, by omega⟩
theorem and_255 (a : Int) : bits .and .i64 a 255 = a % 256 := and_mask a 8 255 rfl (by omega)
theorem and_7 (a : Int) : bits .and .i64 a 7 = a % 8 := and_mask a 3 7 rfl (by omega)
theorem and_15 (a : Int) : bits .and .i64 a 15 = a % 16 := and_mask a 4 15 rfl (by omega)
theorem and_31 (a : Int) : bits .and .i64 a 31 = a % 32 := and_mask a 5 31 rfl (by omega)
theorem and_1 (a : Int) : bits .and .i64 a 1 = a % 2 := and_mask a 1 1 rfl (by omega)
end Go.Proofs.YtpifgpmjnjbecaaDoor

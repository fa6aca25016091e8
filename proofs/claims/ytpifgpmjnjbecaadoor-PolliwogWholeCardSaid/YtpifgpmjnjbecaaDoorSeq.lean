/-
  seq: Low, Of, To, Add: numbers of 24 bits, by remainders.
-/
import Derived.Test.YtpifgpmjnjbecaaDoorNum
import Derived.Test.YtpifgpmjnjbecaaDoorTy
namespace Go.Proofs.YtpifgpmjnjbecaaDoor
open Go.RowKit

theorem and_24 (a : Int) : bits .and .i64 a 16777215 = a % 16777216 := and_mask a 24 16777215 rfl (by omega)
/-- 'a & (2^k - 1)' of a uint32. -/
theorem and_mask32 (a : Int) (k m : Nat) (hm : m + 1 = 2 ^ k) (hk : k ≤ 32) : bits .and .u32 a (m : Int) = a % ((m + 1 : Nat) : Int) := by
  have hle : 2 ^ k ≤ 2 ^ 32 := Nat.pow_le_pow_right (by omega) hk
  have h2 : (BitVec.ofInt 32 (m : Int)).toNat = m := by
    rw [BitVec.ofInt_natCast, BitVec.toNat_ofNat]; exact Nat.mod_eq_of_lt (by omega)
  show IntKind.u32.wrap ((BitVec.ofInt 32 a &&& BitVec.ofInt 32 (m : Int)).toNat : Int) = _
  rw [BitVec.toNat_and, h2, BitVec.toNat_ofInt]
  have hm' : m = 2 ^ k - 1 := by omega
  have e1 : ((a % ((2 ^ 32 : Nat) : Int)).toNat &&& m) = (a % ((2 ^ 32 : Nat) : Int)).toNat % (m + 1) := by
    rw [hm, hm', Nat.and_two_pow_sub_one_eq_mod]
  rw [e1]
  have hpos : (0 : Int) ≤ a % ((2 ^ 32 : Nat) : Int) := Int.emod_nonneg _ (by decide)
  have e2 : (((a % ((2 ^ 32 : Nat) : Int)).toNat % (m + 1) : Nat) : Int) = a % ((m + 1 : Nat) : Int) := by
    rw [Int.natCast_emod, Int.toNat_of_nonneg hpos]
    refine Int.emod_emod_of_dvd a ?_
    rw [hm]
    exact Int.natCast_dvd_natCast.2 (Nat.pow_dvd_pow 2 (by omega))
  rw [e2]
  have b1 : 0 ≤ a % ((m + 1 : Nat) : Int) := Int.emod_nonneg _ (by omega)
  have b2 : a % ((m + 1 : Nat) : Int) < ((m + 1 : Nat) : Int) := Int.emod_lt_of_pos _ (by omega)
  have b3 : a % ((m + 1 : Nat) : Int) < 4294967296 := by omega
  generalize a % ((m + 1 : Nat) : Int) = y at *
  have e3 : IntKind.u32.wrap y = y % 4294967296 := by simp [IntKind.wrap, IntKind.bits, IntKind.signed]
  rw [e3]
  omega
theorem and_24u (a : Int) : bits .and .u32 a 16777215 = a % 16777216 := and_mask32 a 24 16777215 rfl (by omega)

theorem low_any (a : Int) (w : World) : Calls Tryd.prog 35 #[.int .u32 a] w fun e w' => e = .returned (.int .u32 (a % 16777216)) ∧ w' = w := by
  have h := and_24u a
  go_enter Tryd.func35, Tryd.ntmps35
  go_wp2
  go_ret
  exact ⟨rfl, rfl⟩



end Go.Proofs.YtpifgpmjnjbecaaDoor

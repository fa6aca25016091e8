/-
  seq: Low, Of, To, Add: numbers of 24 bits, by remainders.
-/
import Derived.Test.YtimhjdepngmejaaGreatNum
import Derived.Test.YtimhjdepngmejaaGreatTy
namespace Go.Proofs.YtimhjdepngmejaaGreat
open Go.RowKit

theorem and_24 (a : Int) : bits .and .i64 a 16777215 = a % 16777216 := and_mask a 24 16777215 rfl (by omega)
/-- 'a & (2^k - 1)' of a uint32. -/
theorem and_mask32 (a : Int) (k m : Nat) (hm : m + 1 = 2 ^ k) (hk : k ≤ 32) : bits .and .u32 a (m : Int) = a % ((m + 1 : Nat) : Int) := by
  have hle : 2 ^ k ≤ 2 ^ 32 := Nat.pow_le_pow_right (by omega) hk
  have h2 : (BitVec.ofInt 32 (m : Int)).toNat = m := by
    rw [BitVec.ofInt_natCast, BitVec.toNat_ofNat]; exact Nat.mod_eq_of_lt (by omega)
  show IntKind.u32.wrap ((BitVec.ofInt 32 a &&& BitVec.ofInt 32 (m : Int)).toNat : Int) = _
  rw [BitVec.toNat_and, h2, BitVec.toNat_ofInt]
  have hm' : m = 2 ^ k - 1 := by omega
  have e1 : ((a % ((2 ^ 32 : Nat) : Int)).toNat &&& m) = (a % ((2 ^ 32 : Nat) : Int)).toNat % (m + 1) := by
    rw [hm, hm', Nat.and_two_pow_sub_one_eq_mod]
  rw [e1]
  have hpos : (0 : Int) ≤ a % ((2 ^ 32 : Nat) : Int) := Int.emod_nonneg _ (by decide)
  have e2 : (((a % ((2 ^ 32 : Nat) : Int)).toNat % (m + 1) : Nat) : Int) = a % ((m + 1 : Nat) : Int) := by
    rw [Int.natCast_emod, Int.toNat_of_nonneg hpos]
    refine Int.emod_emod_of_dvd a ?_
    rw [hm]
    exact Int.natCast_dvd_natCast.2 (Nat.pow_dvd_pow 2 (by omega))
  rw [e2]
  have b1 : 0 ≤ a % ((m + 1 : Nat) : Int) := Int.emod_nonneg _ (by omega)
  have b2 : a % ((m + 1 : Nat) : Int) < ((m + 1 : Nat) : Int) := Int.emod_lt_of_pos _ (by omega)
  have b3 : a % ((m + 1 : Nat) : Int) < 4294967296 := by omega
  generalize a % ((m + 1 : Nat) : Int) = y at *
  have e3 : IntKind.u32.wrap y = y % 4294967296 := by simp [IntKind.wrap, IntKind.bits, IntKind.signed]
  rw [e3]
  omega
theorem and_24u (a : Int) : bits .and .u32 a 16777215 = a % 16777216 := and_mask32 a 24 16777215 rfl (by omega)

theorem low_any (a : Int) (w : World) : Calls Tryz.prog 29 #[.int .u32 a] w fun e w' => e = .returned (.int .u32 (a % 16777216)) ∧ w' = w := by
  have h := and_24u a
  go_enter Tryz.func29, Tryz.ntmps29
  go_wp2
  go_ret
  exact ⟨rfl, rfl⟩

theorem sof_any (x : Int) (w : World) : Calls Tryz.prog 22 #[.int .i64 x] w fun e w' => e = .returned (.int .u32 (x % 16777216)) ∧ w' = w := by
  have h := and_24u (x % 4294967296)
  have h2 : x % 4294967296 % 16777216 = x % 16777216 := by omega
  rw [h2] at h
  go_enter Tryz.func22, Tryz.ntmps22
  go_wp2
  go_ret
  exact ⟨rfl, rfl⟩

theorem to_any (a b : Int) (w : World) : Calls Tryz.prog 174 #[.int .u32 a, .int .u32 b] w fun e w' => e = .returned (.int .i64 ((b - a) % 16777216)) ∧ w' = w := by
  have h := and_24u ((b - a) % 4294967296)
  have h2 : (b - a) % 4294967296 % 16777216 = (b - a) % 16777216 := by omega
  rw [h2] at h
  go_enter Tryz.func174, Tryz.ntmps174
  go_wp2
  go_ret
  exact ⟨rfl, rfl⟩

theorem sadd_any (a n : Int) (w : World) : Calls Tryz.prog 20 #[.int .u32 a, .int .i64 n] w fun e w' => e = .returned (.int .u32 ((a + n) % 16777216)) ∧ w' = w := by
  have h := and_24 n
  have h2 : (a % 16777216 + n % 16777216) % 16777216 = (a + n) % 16777216 := by omega
  have h3 := sof_any (a % 16777216 + n % 16777216)
  rw [h2] at h3
  have H3 := Lib.hid h3
  clear h3 h2
  go_enter Tryz.func20, Tryz.ntmps20
  go_wp2_with fail
  refine (low_any a w).mono ?_
  rintro e w2 ⟨rfl, rfl⟩
  have hb1 : 0 ≤ a % 16777216 ∧ a % 16777216 < 16777216 := by omega
  have hb2 : 0 ≤ n % 16777216 ∧ n % 16777216 < 16777216 := by omega
  generalize a % 16777216 = a1 at *
  simp only
  go_wp2_with fail
  refine (H3.out _).mono ?_
  rintro e w2 ⟨rfl, rfl⟩
  simp only
  go_wp2
  go_ret
  exact ⟨rfl, rfl⟩
end Go.Proofs.YtimhjdepngmejaaGreat

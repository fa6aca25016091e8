/-
  Bits turned twice are as they were: the plain mathematics.
-/
import Derived.Test.YtfieckhhckfjiaaPipe2
namespace Go.Proofs.Ytfieckhhckfjiaa
open Go.RowKit

/-- What is turned of byte j by bit i. -/
def turn1 (mask at_ : Int) (n i j : Nat) : UInt8 := if 0 ≤ at_ + i ∧ at_ + i < 8 * n ∧ bit mask i = 1 ∧ ((at_ + i) / 8).toNat = j then 128 >>> ((at_ + i) % 8).toNat.toUInt8 else 0
def turnTo (mask at_ : Int) (n k j : Nat) : UInt8 := (List.range k).foldl (fun x i => x ^^^ turn1 mask at_ n i j) 0
theorem turnTo_succ (mask at_ : Int) (n k j : Nat) : turnTo mask at_ n (k + 1) j = turnTo mask at_ n k j ^^^ turn1 mask at_ n k j := by
  unfold turnTo
  rw [List.range_succ, List.foldl_append]
  rfl
theorem flip1_get (mask at_ : Int) (l : List UInt8) (i j : Nat) (hj : j < l.length) : (flip1 mask at_ l i).getD j 0 = l.getD j 0 ^^^ turn1 mask at_ l.length i j := by
  unfold flip1 turn1
  by_cases h : 0 ≤ at_ + i ∧ at_ + i < 8 * l.length ∧ bit mask i = 1
  · rw [if_pos h]
    by_cases hq : ((at_ + i) / 8).toNat = j
    · rw [if_pos ⟨h.1, h.2.1, h.2.2, hq⟩, hq]
      simp [List.getD, hj]
    · rw [if_neg (fun c => hq c.2.2.2), UInt8.xor_zero]
      simp [List.getD, List.getElem?_set_ne hq]
  · rw [if_neg h, if_neg (fun c => h ⟨c.1, c.2.1, c.2.2.1⟩), UInt8.xor_zero]
theorem flipTo_get (mask at_ : Int) (l : List UInt8) (k j : Nat) (hj : j < l.length) : (flipTo mask at_ l k).getD j 0 = l.getD j 0 ^^^ turnTo mask at_ l.length k j := by
  induction k with
  | zero => simp [flipTo, turnTo]
  | succ k ih =>
    rw [flipTo_succ, flip1_get _ _ _ _ _ (by rw [flipTo_len]; exact hj), ih, flipTo_len, turnTo_succ, UInt8.xor_assoc]
theorem flipTo_twice (mask at_ : Int) (l : List UInt8) (k : Nat) : flipTo mask at_ (flipTo mask at_ l k) k = l := by
  apply List.ext_getElem?
  intro j
  have hlen : (flipTo mask at_ (flipTo mask at_ l k) k).length = l.length := by rw [flipTo_len, flipTo_len]
  by_cases hj : j < l.length
  · have h1 := flipTo_get mask at_ (flipTo mask at_ l k) k j (by rw [flipTo_len]; exact hj)
    rw [flipTo_get mask at_ l k j hj, flipTo_len, UInt8.xor_assoc, UInt8.xor_self, UInt8.xor_zero] at h1
    rw [List.getElem?_eq_getElem hj, List.getElem?_eq_getElem (by omega)]
    simp only [List.getD, List.getElem?_eq_getElem hj, List.getElem?_eq_getElem (show j < (flipTo mask at_ (flipTo mask at_ l k) k).length by omega), Option.getD_some] at h1
    rw [h1]
  · rw [List.getElem?_eq_none (by omega), List.getElem?_eq_none (by omega)]
theorem flipS_twice (mask at_ : Int) (s : ByteArray) : flipS mask at_ (flipS mask at_ s) = s := by
  unfold flipS
  simp only [flipTo_twice]
theorem flipS_size (mask at_ : Int) (s : ByteArray) : (flipS mask at_ s).size = s.size := by
  show (flipTo mask at_ s.data.toList 32).toArray.size = s.data.size
  rw [List.size_toArray, flipTo_len, Array.length_toList]

def cutB (s : ByteArray) (n : Nat) : ByteArray := if n < s.size then s.extract 0 n else s
theorem cutB_size (s : ByteArray) (n : Nat) : (cutB s n).size ≤ n := by
  unfold cutB
  split
  · simp [ByteArray.size_extract]; omega
  · omega
theorem cut_any (s : ByteArray) (n : Nat) (w : World) (hs : s.size ≤ maxLen) (hn : n ≤ 1000) :
    Calls Try.prog 31 #[.string s, .int .i64 n] w fun e w' => e = .returned (.string (cutB s n)) ∧ w = w' := by
  unfold maxLen at hs
  by_cases h : n < s.size
  · have hc : Hid (cutB s n = s.extract 0 n) := if_pos h
    have h1 : (n : Int) < (s.size : Int) := by omega
    go_enter Try.func31, Try.ntmps31
    go_wp2
    go_ret
    exact ⟨by rw [hc.out]; rfl, rfl⟩
  · have hc : Hid (cutB s n = s) := if_neg h
    have h1 : ¬ ((n : Int) < (s.size : Int)) := by omega
    go_enter Try.func31, Try.ntmps31
    go_wp2
    go_ret
    exact ⟨by rw [hc.out]; rfl, rfl⟩

set_option maxHeartbeats 1000000 in
theorem near_any (k at_ mask x : Int) (w : World) (hx : Hid (x = max (-40) (min at_ 400))) :
    Calls Try.prog 32 #[.agg #[.int .i64 k, .int .i64 at_, .int .u32 mask]] w fun e w' => e = .returned (.agg #[.int .i64 k, .int .i64 x, .int .u32 mask]) ∧ Fresh w w' := by
  rcases (show (400 < at_ ∧ x = 400) ∨ (¬ 400 < at_ ∧ -40 < at_ ∧ at_ = x) ∨ (¬ 400 < at_ ∧ ¬ -40 < at_ ∧ x = -40) by have := hx.out; omega) with ⟨h1, rfl⟩ | ⟨h1, h2, rfl⟩ | ⟨h1, h2, rfl⟩
  · clear hx
    go_enter Try.func32, Try.ntmps32
    go_wp2
    exact bodyPost_ret (v := .agg #[.int .i64 k, .int .i64 400, .int .u32 mask]) (by simp [results, Try.results32, go_sem]) rfl ⟨rfl, ((Touch.refl _ w).alloc _).alloc _⟩
  · clear hx
    go_enter Try.func32, Try.ntmps32
    go_wp2
    exact bodyPost_ret (v := .agg #[.int .i64 k, .int .i64 at_, .int .u32 mask]) (by simp [results, Try.results32, go_sem]) rfl ⟨rfl, ((Touch.refl _ w).alloc _).alloc _⟩
  · clear hx
    go_enter Try.func32, Try.ntmps32
    go_wp2
    exact bodyPost_ret (v := .agg #[.int .i64 k, .int .i64 (-40), .int .u32 mask]) (by simp [results, Try.results32, go_sem]) rfl ⟨rfl, ((Touch.refl _ w).alloc _).alloc _⟩
end Go.Proofs.Ytfieckhhckfjiaa

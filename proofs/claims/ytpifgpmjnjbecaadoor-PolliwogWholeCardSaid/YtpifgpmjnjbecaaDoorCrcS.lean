/-
  crc: sums of texts by the table, seals, and that what is sealed fits.
-/
import Derived.Test.YtpifgpmjnjbecaaDoorCrc
import Derived.IntWalk
namespace Go.Proofs.YtpifgpmjnjbecaaDoor
open Go.RowKit

namespace Wh
/-- A byte more. -/
def upd (x : Int) (c : UInt8) : Int := bits .xor .u32 (x * 256 % 4294967296) (row (bits .xor .u8 (x / 16777216) (c.toNat : Int)).toNat)
def sumL (l : List UInt8) : Int := l.foldl upd 4294967295
theorem upd_in (x : Int) (c : UInt8) : 0 ≤ upd x c ∧ upd x c ≤ 4294967295 := xor32_in _ _
theorem sumL_in (l : List UInt8) : 0 ≤ sumL l ∧ sumL l ≤ 4294967295 := by
  unfold sumL
  have : ∀ (l : List UInt8) (x : Int), 0 ≤ x ∧ x ≤ 4294967295 → 0 ≤ l.foldl upd x ∧ l.foldl upd x ≤ 4294967295 := by
    intro l
    induction l with
    | nil => exact fun _ h => h
    | cons c l ih => exact fun x _ => ih _ (upd_in x c)
  exact this l _ (by omega)
theorem sumL_snoc (l : List UInt8) (c : UInt8) : sumL (l ++ [c]) = upd (sumL l) c := by
  unfold sumL
  rw [List.foldl_append]
  rfl
def crcOf (l : List UInt8) : Int := bits .xor .u32 IntKind.u32.max (sumL l)
theorem crcOf_in (l : List UInt8) : 0 ≤ crcOf l ∧ crcOf l ≤ 4294967295 := xor32_in _ _
/-- The table at a block. -/
def Tab (w : World) (g : Nat) : Prop := ∃ t, Blk w g t TAB
theorem Tab.cell {w : World} {g : Nat} (h : Tab w g) (i : Nat) (hi : i < 256) : w.cell? ⟨g, i, none⟩ = some (.int .u32 (row i)) := by
  obtain ⟨t, h⟩ := h
  rw [h.cell, TAB_at i hi]
theorem Tab.lt {w : World} {g : Nat} (h : Tab w g) : g < w.heap.size := by
  obtain ⟨t, h⟩ := h
  exact h.lt
theorem Tab.fresh {w w' : World} {g : Nat} (h : Tab w g) (f : Fresh w w') : Tab w' g := by
  obtain ⟨t, h⟩ := h
  exact ⟨t, f.blk h (fun e => e)⟩
theorem Tab.below {w w' : World} {g : Nat} (h : Tab w g) (f : Below w.heap.size w w') : Tab w' g := h.fresh (Touch.of_below f fun _ hk _ => hk)
end Wh

theorem take_snoc (s : ByteArray) (k : Nat) (h : k < s.size) : s.data.toList.take (k + 1) = s.data.toList.take k ++ [s[k]] := by
  rw [List.take_succ_eq_append_getElem (by simpa using h)]; rfl

set_option maxRecDepth 10000 in
set_option maxHeartbeats 1000000 in
theorem sum_any (g A : Nat) (s : ByteArray) (w : World) (ht : Wh.Tab w g) (hc : w.cell? ⟨A, 0, none⟩ = some (.string s)) (hs : s.size ≤ 9223372036854775807) :
    Calls Tryd.prog 46 #[.pointer (some ⟨g, 0, none⟩), .slice (some ⟨A, 0, none⟩) 1 1] w fun e w' => e = .returned (.int .u32 (Wh.crcOf s.data.toList)) ∧ Fresh w w' := by
  have HT := Lib.hid ht
  clear ht
  go_enter Tryd.func46, Tryd.ntmps46
  go_wp2
  go_loopw [5, 11] (fun x i wr => (i = .int .i64 0 ∧ x = .int .u32 4294967295 ∧ wr = w) ∨ (i = .int .i64 1 ∧ x = .int .u32 (Wh.sumL s.data.toList) ∧ Hid (Fresh w wr))) (fun _ i _ => 1 - (intOf i).toNat)
  case atStart => exact Or.inl ⟨rfl, rfl, rfl⟩
  case round =>
    rcases hrel with ⟨rfl, rfl, rfl⟩ | ⟨rfl, rfl, hf⟩
    · obtain ⟨wo, hwo⟩ : ∃ wo : World, wo = wr := ⟨_, rfl⟩
      subst hwo
      go_wp2
      go_loopw [5, 17] (fun x i wr => ∃ k : Nat, k ≤ s.size ∧ i = .int .i64 k ∧ x = .int .u32 (Wh.sumL (s.data.toList.take k)) ∧ Hid (Fresh wo wr)) (fun _ i _ => s.size - (intOf i).toNat)
      case atStart => exact ⟨0, Nat.zero_le _, rfl, rfl, Touch.refl _ _⟩
      case round =>
        obtain ⟨k, hk, rfl, rfl, hf⟩ := hrel
        by_cases hlt : k < s.size
        · have hin := Wh.sumL_in (s.data.toList.take k)
          have HS : Hid (Wh.sumL (s.data.toList.take (k + 1)) = Wh.upd (Wh.sumL (s.data.toList.take k)) s[k]) := by
            rw [take_snoc s k hlt, Wh.sumL_snoc]
            rfl
          obtain ⟨x, hx⟩ : ∃ x, x = Wh.sumL (s.data.toList.take k) := ⟨_, rfl⟩
          rw [← hx] at hin HS ⊢
          clear hx
          obtain ⟨h0, h1⟩ := hin
          have hx8 := Wh.xor8_in (x / 16777216) (s[k].toNat : Int)
          obtain ⟨y, hy⟩ : ∃ y : Nat, bits .xor .u8 (x / 16777216) (s[k].toNat : Int) = (y : Int) := ⟨(bits .xor .u8 (x / 16777216) (s[k].toNat : Int)).toNat, by omega⟩
          have hy2 : y < 256 := by omega
          have hct := (HT.out.fresh hf.out).cell y hy2
          have HU : Hid (Wh.upd x s[k] = bits .xor .u32 (x * 256 % 4294967296) (Wh.row y)) := by
            unfold Wh.upd
            rw [hy]
            rfl
          clear hx8
          go_wp2
          go_quiet (fail)
          have HF2 : Hid (Fresh wo wr) := hf
          go_wp2
          go_roundw
          case rel => exact ⟨k + 1, by omega, by go_num, by rw [HS.out, HU.out], by first | exact HF2.out.drewN _ | exact HF2.out⟩
          case measure => simp [intOf]; omega
        · obtain rfl : k = s.size := by omega
          have hx : s.data.toList.take s.size = s.data.toList := List.take_of_length_le (by rw [← Lib.size_eq]; omega)
          rw [hx]
          clear hx
          obtain ⟨x, hx⟩ : ∃ x, x = Wh.sumL s.data.toList := ⟨_, rfl⟩
          rw [← hx]
          have HX := Lib.hid hx
          clear hx
          go_wp2
          go_roundw
          case rel => exact Or.inr ⟨by go_num, by rw [HX.out], hf⟩
          case measure => simp [intOf]
    · have hin := Wh.sumL_in s.data.toList
      obtain ⟨x, hx⟩ : ∃ x, x = Wh.sumL s.data.toList := ⟨_, rfl⟩
      rw [← hx] at hin ⊢
      have HX := Lib.hid hx
      clear hx
      obtain ⟨h0, h1⟩ := hin
      have hsg : IntKind.u32.signed = false := rfl
      go_wp2
      go_ret
      exact ⟨by rw [HX.out]; rfl, hf.out⟩
end Go.Proofs.YtpifgpmjnjbecaaDoor

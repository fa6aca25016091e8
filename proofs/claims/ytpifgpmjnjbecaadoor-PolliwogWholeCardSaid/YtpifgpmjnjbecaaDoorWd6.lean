/-
  pdu: bit, at, take: words out of texts.
-/
import Derived.Test.YtpifgpmjnjbecaaDoorCrc
import Derived.IntWalk
import Derived.Deep.QuietTactic
import Derived.BigQuiet
namespace Go.Proofs.YtpifgpmjnjbecaaDoor
open Go.RowKit

theorem bit6_any (b : Bool) (w : World) : Calls Tryd.prog 28 #[.bool b] w fun e w' => e = .returned (.int .u32 (if b then 1 else 0)) ∧ w = w' := by
  cases b
  · go_enter Tryd.func28, Tryd.ntmps28
    go_wp2
    go_ret
    exact ⟨rfl, rfl⟩
  · go_enter Tryd.func28, Tryd.ntmps28
    go_wp2
    go_ret
    exact ⟨rfl, rfl⟩

set_option maxRecDepth 10000 in
set_option maxHeartbeats 1000000 in
theorem at6_core (s : ByteArray) (a : Nat) (x : Int) (w : World) (h0 : 0 ≤ x) (h1 : x ≤ 4294967295) (hz : s.size = a + 4) (ha : a ≤ 1000000)
    (g0 : ((s[a]'(by omega)).toNat : Int) = x / 16777216) (g1 : ((s[a + 1]'(by omega)).toNat : Int) = x / 65536 % 256) (g2 : ((s[a + 2]'(by omega)).toNat : Int) = x / 256 % 256) (g3 : ((s[a + 3]'(by omega)).toNat : Int) = x % 256) :
    Calls Tryd.prog 54 #[.string s, .int .i64 a] w fun e w' => e = .returned (.int .u32 x) ∧ Fresh w w' := by
  have o1 : bits .or .u32 (x / 16777216 * 16777216) (x / 65536 % 256 * 65536) = x / 65536 * 65536 := by
    rw [Wh.or_add _ _ 24 (by omega) (by omega) (by omega) (by omega) (by omega) (by omega)]
    omega
  have o2 : bits .or .u32 (x / 65536 * 65536) (x / 256 % 256 * 256) = x / 256 * 256 := by
    rw [Wh.or_add _ _ 16 (by omega) (by omega) (by omega) (by omega) (by omega) (by omega)]
    omega
  have o3 : bits .or .u32 (x / 256 * 256) (x % 256) = x := by
    rw [Wh.or_add _ _ 8 (by omega) (by omega) (by omega) (by omega) (by omega) (by omega)]
    omega
  go_enter Tryd.func54, Tryd.ntmps54
  go_wp2
  have i1 : IntKind.i64.wrap ((a : Int) + 1) = (a : Int) + 1 := IntWalk.i64_in _ (by omega)
  have i2 : IntKind.i64.wrap ((a : Int) + 2) = (a : Int) + 2 := IntWalk.i64_in _ (by omega)
  have i3 : IntKind.i64.wrap ((a : Int) + 3) = (a : Int) + 3 := IntWalk.i64_in _ (by omega)
  have t1 : ((a : Int) + 1).toNat = a + 1 := by omega
  have t2 : ((a : Int) + 2).toNat = a + 2 := by omega
  have t3 : ((a : Int) + 3).toNat = a + 3 := by omega
  have p1 : (0 : Int) ≤ (a : Int) + 1 := by omega
  have p2 : (0 : Int) ≤ (a : Int) + 2 := by omega
  have p3 : (0 : Int) ≤ (a : Int) + 3 := by omega
  go_quiet (fail)
  clear i1 i2 i3 t1 t2 t3 p1 p2 p3
  go_wp2
  go_ret
  exact ⟨rfl, (Touch.refl _ _).drewN _⟩

theorem at6_any (l : List UInt8) (x : Int) (w : World) (h0 : 0 ≤ x) (h1 : x ≤ 4294967295) (hl : l.length ≤ 1000000) :
    Calls Tryd.prog 54 #[.string (Wh.B (l ++ Wh.four x)), .int .i64 l.length] w fun e w' => e = .returned (.int .u32 x) ∧ Fresh w w' := by
  have hz : (Wh.B (l ++ Wh.four x)).size = l.length + 4 := by rw [Wh.B_size, List.length_append, Wh.four_len]
  have hg : ∀ (j : Nat) (b : UInt8) (h : l.length + j < (Wh.B (l ++ Wh.four x)).size), (Wh.four x)[j]? = some b → (Wh.B (l ++ Wh.four x))[l.length + j] = b := by
    intro j b h hx
    rw [Wh.B_get]
    simp [List.getD, List.getElem?_append_right, hx]
  refine at6_core _ l.length x w h0 h1 hz hl ?_ ?_ ?_ ?_
  · have := hg 0 (Wh.byt (x / 16777216)) (by omega) rfl
    simp only [Nat.add_zero] at this
    rw [this, Wh.byt_nat]
    omega
  · rw [hg 1 (Wh.byt (x / 65536)) (by omega) rfl, Wh.byt_nat]
  · rw [hg 2 (Wh.byt (x / 256)) (by omega) rfl, Wh.byt_nat]
  · rw [hg 3 (Wh.byt x) (by omega) rfl, Wh.byt_nat]

set_option maxRecDepth 10000 in
set_option maxHeartbeats 1000000 in
theorem take6_any (b : Nat) (l : List UInt8) (x : Int) (w : World) (hb : Blk w b 81 [.string (Wh.B (l ++ Wh.four x))]) (h0 : 0 ≤ x) (h1 : x ≤ 4294967295) (hl : l.length ≤ 1000000) :
    Calls Tryd.prog 34 #[.pointer (some ⟨b, 0, none⟩)] w fun e w' => e = .returned (.int .u32 x) ∧ Blk w' b 81 [.string (Wh.B l)] ∧ Touch (· = b) w w' := by
  have hz : (Wh.B (l ++ Wh.four x)).size = l.length + 4 := by rw [Wh.B_size, List.length_append, Wh.four_len]
  have hx1 : (Wh.B (l ++ Wh.four x)).extract 0 l.length = Wh.B l := Wh.B_front _ _
  have HAT := Lib.hid (at6_any l x w h0 h1 hl)
  have HB := Lib.hid hb
  clear hb
  generalize Wh.B (l ++ Wh.four x) = s at *
  generalize l.length = n at *
  have c0 : w.cell? ⟨b, 0, none⟩ = some (.string s) := HB.out.cell 0
  go_enter Tryd.func34, Tryd.ntmps34
  go_wp2_with fail
  refine HAT.out.mono ?_
  rintro e w2 ⟨rfl, f2⟩
  have HB2 : Hid (Blk w2 b 81 [.string s]) := f2.blk HB.out (fun h => h)
  have HT : Hid (Touch (· = b) w w2) := f2.mono (fun _ _ h => h.elim)
  clear f2 c0
  have c0 : w2.cell? ⟨b, 0, none⟩ = some (.string s) := HB2.out.cell 0
  have z0 : w2.frozen? ⟨b, 0, none⟩ = false := HB2.out.frozen 0
  go_wp2
  go_ret
  exact ⟨rfl, by have := HB2.out.set 0 (.string (Wh.B l)); exact this, HT.out.st rfl⟩
end Go.Proofs.YtpifgpmjnjbecaaDoor

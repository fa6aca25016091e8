/-
  polliwoglaw06: num, Few, Own: units out of the document's; polliwoglaw02.Cut.
-/
import Derived.Test.YtpifgpmjnjbecaaDoorByt6
import Derived.Test.YtpifgpmjnjbecaaDoorTy
namespace Go.Proofs.YtpifgpmjnjbecaaDoor
open Go.RowKit

namespace Wh
def cl (x : Int) : Int := max 0 (min x 4294967295)
theorem cl_in (x : Int) : 0 ≤ cl x ∧ cl x ≤ 4294967295 := by unfold cl; omega
def cut (s : ByteArray) : ByteArray := if 210 < s.size then s.extract 0 210 else s
theorem cut_size (s : ByteArray) : (cut s).size ≤ 210 := by
  unfold cut
  split
  · rw [ByteArray.size_extract]; omega
  · omega
def few (p : P) : P := { p with n := cl p.n, ps := cl p.ps, mr := cl p.mr, l := (p.l.take 140).map cl, data := cut p.data }
end Wh
def rV (p : Wh.P) (A : Option Addr) (c : Nat) : Value := .agg #[.int .i64 p.kind, .int .i64 p.sq, .int .i64 p.n, .int .i64 p.ps, .int .i64 p.mr, .slice A p.l.length c, .bool p.self, .string p.data]

theorem num6_any (x : Int) (w : World) (h0 : -9223372036854775808 ≤ x) (h1 : x ≤ 9223372036854775807) : Calls Tryd.prog 17 #[.int .i64 x] w fun e w' => e = .returned (.int .u32 (Wh.cl x)) ∧ w = w' := by
  have HC : Hid (Wh.cl x = max 0 (min x 4294967295)) := rfl
  rcases (show x < 0 ∨ (0 ≤ x ∧ x ≤ 4294967295) ∨ 4294967295 < x by omega) with h | ⟨h, h'⟩ | h
  · have e1 : min x 4294967295 = x := by omega
    have e2 : max 0 x = 0 := by omega
    have HE : Hid (Wh.cl x = 0) := by rw [HC.out, e1, e2]; rfl
    go_enter Tryd.func17, Tryd.ntmps17
    go_wp2
    go_ret
    exact ⟨by rw [HE.out]; rfl, rfl⟩
  · have e1 : min x 4294967295 = x := by omega
    have e2 : max 0 x = x := by omega
    have HE : Hid (Wh.cl x = x) := by rw [HC.out, e1, e2]; rfl
    go_enter Tryd.func17, Tryd.ntmps17
    go_wp2
    go_ret
    exact ⟨by rw [HE.out]; rfl, rfl⟩
  · have e1 : min x 4294967295 = 4294967295 := by omega
    have HE : Hid (Wh.cl x = 4294967295) := by rw [HC.out, e1]; rfl
    go_enter Tryd.func17, Tryd.ntmps17
    go_wp2
    go_ret
    exact ⟨by rw [HE.out]; rfl, rfl⟩
theorem in6_any (x : Int) (w : World) (h0 : -9223372036854775808 ≤ x) (h1 : x ≤ 9223372036854775807) : Calls Tryd.prog 18 #[.int .i64 x] w fun e w' => e = .returned (.int .i64 (Wh.cl x)) ∧ w = w' := by
  have HC : Hid (Wh.cl x = max 0 (min x 4294967295)) := rfl
  rcases (show x < 0 ∨ (0 ≤ x ∧ x ≤ 4294967295) ∨ 4294967295 < x by omega) with h | ⟨h, h'⟩ | h
  · have e1 : min x 4294967295 = x := by omega
    have e2 : max 0 x = 0 := by omega
    have HE : Hid (Wh.cl x = 0) := by rw [HC.out, e1, e2]; rfl
    go_enter Tryd.func18, Tryd.ntmps18
    go_wp2
    go_ret
    exact ⟨by rw [HE.out]; rfl, rfl⟩
  · have e1 : min x 4294967295 = x := by omega
    have e2 : max 0 x = x := by omega
    have HE : Hid (Wh.cl x = x) := by rw [HC.out, e1, e2]; rfl
    go_enter Tryd.func18, Tryd.ntmps18
    go_wp2
    go_ret
    exact ⟨by rw [HE.out]; rfl, rfl⟩
  · have e1 : min x 4294967295 = 4294967295 := by omega
    have HE : Hid (Wh.cl x = 4294967295) := by rw [HC.out, e1]; rfl
    go_enter Tryd.func18, Tryd.ntmps18
    go_wp2
    go_ret
    exact ⟨by rw [HE.out]; rfl, rfl⟩
theorem cut6_any (s : ByteArray) (w : World) (hs : s.size ≤ 9223372036854775807) : Calls Tryd.prog 19 #[.string s, .int .i64 210] w fun e w' => e = .returned (.string (Wh.cut s)) ∧ w = w' := by
  have HC : Hid (Wh.cut s = if 210 < s.size then s.extract 0 210 else s) := rfl
  by_cases h : 210 < s.size
  · have hi : (210 : Int) < (s.size : Int) := by omega
    have HE : Hid (Wh.cut s = s.extract 0 210) := by rw [HC.out, if_pos h]; rfl
    go_enter Tryd.func19, Tryd.ntmps19
    go_wp2
    go_ret
    exact ⟨by rw [HE.out]; rfl, rfl⟩
  · have hi : (s.size : Int) ≤ 210 := by omega
    have HE : Hid (Wh.cut s = s) := by rw [HC.out, if_neg h]; rfl
    go_enter Tryd.func19, Tryd.ntmps19
    go_wp2
    go_ret
    exact ⟨by rw [HE.out]; rfl, rfl⟩
end Go.Proofs.YtpifgpmjnjbecaaDoor

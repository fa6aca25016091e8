/-
  pdu.told: a unit is what its bytes say.
-/
import Derived.Test.YtpifgpmjnjbecaaDoorByt6
import Derived.Test.YtpifgpmjnjbecaaDoorRev6
namespace Go.Proofs.YtpifgpmjnjbecaaDoor
open Go.RowKit

def pC (p : Wh.P) (A : Option Addr) (c : Nat) : List Value := [.int .i64 p.kind, .int .i64 p.sq, .int .u32 p.n, .int .u32 p.ps, .int .u32 p.mr, .slice A p.l.length c, .bool p.self, .string p.data]

set_option maxRecDepth 10000 in
set_option maxHeartbeats 2000000 in
theorem told6_any (b : Nat) (p : Wh.P) (A : Option Addr) (c : Nat) (w : World) (hb : Blk w b 32 (pC p A c)) (hr : Rd numE w A c p.l) (hck : Wh.ck p = 0) :
    Calls Tryd.prog 38 #[.pointer (some ⟨b, 0, none⟩), .string (Wh.B (Wh.bytesS (Wh.shape p.kind) p))] w fun e w' => e = .returned (.int .i64 0) ∧ Fresh w w' := by
  have hok := Wh.ok_of _ _ hck
  have hds := hok.dsize (Wh.shape_ok p.kind)
  have HCK : Hid (∀ W, Rd numE W A c p.l → Calls Tryd.prog 9 #[pV p A c] W fun e w' => e = .returned (.int .i64 0) ∧ Fresh W w') := fun W h => by
    have := check6_any p A c W h (by omega)
    rw [hck] at this
    exact this
  have HBY : Hid (∀ W, Rd numE W A c p.l → Calls Tryd.prog 10 #[pV p A c] W fun e w' => e = .returned (.string (Wh.B (Wh.bytesS (Wh.shape p.kind) p))) ∧ Fresh W w') := fun W h => bytes6_any p A c W h hck
  have hne : ((Wh.B (Wh.bytesS (Wh.shape p.kind) p)).toList != (Wh.B (Wh.bytesS (Wh.shape p.kind) p)).toList) = false := by simp
  generalize Wh.B (Wh.bytesS (Wh.shape p.kind) p) = s at *
  clear hok hck
  obtain ⟨kind, sq, n, ps, mr, l, self, data⟩ := p
  unfold pV at *
  unfold pC at hb
  simp only at hds hb hr HCK HBY
  have HR := Lib.hid hr
  have HB := Lib.hid hb
  clear hr hb
  have e0 : w.cell? ⟨b, 0, none⟩ = some (.int .i64 kind) := HB.out.cell 0
  have e1 : w.cell? ⟨b, 1, none⟩ = some (.int .i64 sq) := HB.out.cell 1
  have e2 : w.cell? ⟨b, 2, none⟩ = some (.int .u32 n) := HB.out.cell 2
  have e3 : w.cell? ⟨b, 3, none⟩ = some (.int .u32 ps) := HB.out.cell 3
  have e4 : w.cell? ⟨b, 4, none⟩ = some (.int .u32 mr) := HB.out.cell 4
  have e5 : w.cell? ⟨b, 5, none⟩ = some (.slice A l.length c) := HB.out.cell 5
  have e6 : w.cell? ⟨b, 6, none⟩ = some (.bool self) := HB.out.cell 6
  have e7 : w.cell? ⟨b, 7, none⟩ = some (.string data) := HB.out.cell 7
  go_enter Tryd.func38, Tryd.ntmps38
  go_wp2_with fail
  refine (HCK.out _ HR.out).mono ?_
  rintro e w2 ⟨rfl, f2⟩
  have HB2 := Lib.hid (f2.blk HB.out (fun h => h))
  have HF2 := Lib.hid f2
  clear e0 e1 e2 e3 e4 e5 e6 e7 f2 HB
  have e0 : w2.cell? ⟨b, 0, none⟩ = some (.int .i64 kind) := HB2.out.cell 0
  have e1 : w2.cell? ⟨b, 1, none⟩ = some (.int .i64 sq) := HB2.out.cell 1
  have e2 : w2.cell? ⟨b, 2, none⟩ = some (.int .u32 n) := HB2.out.cell 2
  have e3 : w2.cell? ⟨b, 3, none⟩ = some (.int .u32 ps) := HB2.out.cell 3
  have e4 : w2.cell? ⟨b, 4, none⟩ = some (.int .u32 mr) := HB2.out.cell 4
  have e5 : w2.cell? ⟨b, 5, none⟩ = some (.slice A l.length c) := HB2.out.cell 5
  have e6 : w2.cell? ⟨b, 6, none⟩ = some (.bool self) := HB2.out.cell 6
  have e7 : w2.cell? ⟨b, 7, none⟩ = some (.string data) := HB2.out.cell 7
  go_wp2_with fail
  refine (HBY.out _ (HR.out.touch HF2.out (fun _ _ _ h => h))).mono ?_
  rintro e w3 ⟨rfl, f3⟩
  have HF3 : Hid (Fresh w w3) := HF2.out.trans f3 (fun _ _ h => h)
  clear f3 e0 e1 e2 e3 e4 e5 e6 e7
  go_wp2
  go_ret
  exact ⟨rfl, HF3.out⟩
end Go.Proofs.YtpifgpmjnjbecaaDoor

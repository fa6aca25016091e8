/-
  wire.Wire.Pack.
-/
import Derived.Test.YtpifgpmjnjbecaaDoorWire
import Derived.Deep.RegionLaw
namespace Go.Proofs.YtpifgpmjnjbecaaDoor
open Go.RowKit

theorem Wh.bytes_len (p : Wh.P) (hck : Wh.ck p = 0) : (Wh.bytesS (Wh.shape p.kind) p).length ≤ 10000 := by
  have hok := Wh.ok_of _ _ hck
  have hds := hok.dsize (Wh.shape_ok p.kind)
  have hl := hok.ll
  rw [Wh.bytesS_len]
  have h1 : Wh.pad p ≤ 3 := by unfold Wh.pad; omega
  have h2 : (Wh.wordsS (Wh.shape p.kind) p).length ≤ p.l.length + 3 := by
    unfold Wh.wordsS
    simp only [List.length_append]
    have : ∀ (b : Bool) (x : Int), (if b = true then [x] else ([] : List Int)).length ≤ 1 := by intro b x; cases b <;> simp
    have a1 := this (Wh.shape p.kind).sq p.sq
    have a2 := this (Wh.shape p.kind).ps p.ps
    have a3 := this (Wh.shape p.kind).mr p.mr
    omega
  omega

set_option maxRecDepth 10000 in
set_option maxHeartbeats 4000000 in
theorem pack6_ok (g : Nat) (p : Wh.P) (A : Option Addr) (c : Nat) (w : World) (hr : Rd numE w A c p.l) (ht : Wh.Tab w g) (hck : Wh.ck p = 0) :
    Calls Tryd.prog 8 #[.pointer (some ⟨g, 0, none⟩), pV p A c] w fun e w' => e = .returned (.tuple #[.string (Wh.B (Wh.frameL 0 (Wh.bytesS (Wh.shape p.kind) p))), .int .i64 0]) ∧ Fresh w w' := by
  have HL := Lib.hid (Wh.bytes_len p hck)
  have hok := Wh.ok_of _ _ hck
  have hds := hok.dsize (Wh.shape_ok p.kind)
  have HCK : Hid (∀ W, Fresh w W → Calls Tryd.prog 9 #[pV p A c] W fun e w' => e = .returned (.int .i64 0) ∧ Fresh W w') := fun W h => by
    have := check6_any p A c W (Rd.touch hr h (fun _ _ _ e => e)) (by omega)
    rw [hck] at this
    exact this
  have HBY : Hid (∀ W, Fresh w W → Calls Tryd.prog 10 #[pV p A c] W fun e w' => e = .returned (.string (Wh.B (Wh.bytesS (Wh.shape p.kind) p))) ∧ Fresh W w') := fun W h => bytes6_any p A c W (Rd.touch hr h (fun _ _ _ e => e)) hck
  have HFB : Hid (∀ W, Fresh w W → Calls Tryd.prog 11 #[.agg #[.int .u8 0, .string (Wh.B (Wh.bytesS (Wh.shape p.kind) p))], .pointer (some ⟨g, 0, none⟩)] W fun e w' => e = .returned (.tuple #[.string (Wh.B (Wh.frameL 0 (Wh.bytesS (Wh.shape p.kind) p))), .int .i64 0]) ∧ Fresh W w') := fun W h => fbytes_any g 0 _ W (ht.fresh h) (by omega) (by omega) HL.out
  clear hr ht hck hok hds HL
  generalize Wh.B (Wh.bytesS (Wh.shape p.kind) p) = BY at *
  generalize Wh.B (Wh.frameL 0 (Wh.bytesS (Wh.shape p.kind) p)) = FR at *
  obtain ⟨kind, sq, n, ps, mr, l, self, data⟩ := p
  unfold pV at *
  simp only at HCK HBY HFB ⊢
  generalize l.length = len at *
  go_enter Tryd.func8, Tryd.ntmps8
  have HB : Hid (Blk (w.alloc (.cells #[.int .i64 kind, .int .i64 sq, .int .u32 n, .int .u32 ps, .int .u32 mr, .slice A len c, .bool self, .string data] 32)) w.heap.size 32 [.int .i64 kind, .int .i64 sq, .int .u32 n, .int .u32 ps, .int .u32 mr, .slice A len c, .bool self, .string data]) := Blk.new _ _ _
  have F1 : Hid (Fresh w (w.alloc (.cells #[.int .i64 kind, .int .i64 sq, .int .u32 n, .int .u32 ps, .int .u32 mr, .slice A len c, .bool self, .string data] 32))) := (Touch.refl _ _).alloc _
  go_upto_region 1 with (fail)
  generalize (w.alloc (.cells #[.int .i64 kind, .int .i64 sq, .int .u32 n, .int .u32 ps, .int .u32 mr, .slice A len c, .bool self, .string data] 32)) = w1 at *
  obtain ⟨b, hb⟩ : ∃ b, b = w.heap.size := ⟨_, rfl⟩
  rw [← hb] at HB ⊢
  clear hb
  have HC : Hid (∀ W, Fresh w1 W → W.cell? ⟨b, 0, none⟩ = some (.int .i64 kind) ∧ W.cell? ⟨b, 1, none⟩ = some (.int .i64 sq) ∧ W.cell? ⟨b, 2, none⟩ = some (.int .u32 n) ∧ W.cell? ⟨b, 3, none⟩ = some (.int .u32 ps) ∧ W.cell? ⟨b, 4, none⟩ = some (.int .u32 mr) ∧ W.cell? ⟨b, 5, none⟩ = some (.slice A len c) ∧ W.cell? ⟨b, 6, none⟩ = some (.bool self) ∧ W.cell? ⟨b, 7, none⟩ = some (.string data)) := fun W f => by
    have h := f.blk HB.out (fun e => e)
    exact ⟨h.cell 0, h.cell 1, h.cell 2, h.cell 3, h.cell 4, h.cell 5, h.cell 6, h.cell 7⟩
  obtain ⟨c0, c1, c2, c3, c4, c5, c6, c7⟩ := HC.out w1 (Touch.refl _ _)
  go_upto_region 4 with (go_at_call 9; (with_reducible refine (HCK.out _ F1.out).mono ?_); rintro e w2 ⟨rfl, f2⟩; have F2 := Lib.hid f2; clear f2)
  obtain ⟨d0, d1, d2, d3, d4, d5, d6, d7⟩ := HC.out w2 F2.out
  have FW : Hid (Fresh w w2) := F1.out.trans F2.out (fun _ _ e => e)
  clear c0 c1 c2 c3 c4 c5 c6 c7 HCK HB
  go_region_law (first
    | (go_simp; go_at_call 10; (with_reducible refine (HBY.out _ FW.out.drew).mono ?_); rintro e w3 ⟨rfl, f3⟩; have F3 := Lib.hid (FW.out.drew.trans f3 (fun _ _ e => e)); clear f3)
    | (go_simp; go_at_call 11; (with_reducible refine (HFB.out _ F3.out).mono ?_); rintro e w4 ⟨rfl, f4⟩; have F4 := Lib.hid (F3.out.trans f4 (fun _ _ e => e)); clear f4))
  all_goals
    go_wp2_with fail
    exact bodyPost_ret (v := .tuple #[.string FR, .int .i64 0]) (by simp [results, Tryd.results8, go_sem]) rfl ⟨rfl, F4.out⟩

set_option maxRecDepth 10000 in
set_option maxHeartbeats 4000000 in
theorem pack6_no (g : Nat) (p : Wh.P) (A : Option Addr) (c : Nat) (w : World) (hr : Rd numE w A c p.l) (hd : p.data.size ≤ 9223372036854775807) (hck : ¬ Wh.ck p = 0) :
    Calls Tryd.prog 8 #[.pointer (some ⟨g, 0, none⟩), pV p A c] w fun e w' => e = .returned (.tuple #[.string ⟨#[]⟩, .int .i64 (Wh.ck p)]) ∧ Fresh w w' := by
  have HCK : Hid (∀ W, Fresh w W → Calls Tryd.prog 9 #[pV p A c] W fun e w' => e = .returned (.int .i64 (Wh.ck p)) ∧ Fresh W w') := fun W h => check6_any p A c W (Rd.touch hr h (fun _ _ _ e => e)) hd
  clear hr hd
  generalize Wh.ck p = z at *
  have ht1 : (z == 0) = false := by simpa using hck
  have ht2 : decide (z = 0) = false := decide_eq_false hck
  obtain ⟨kind, sq, n, ps, mr, l, self, data⟩ := p
  unfold pV at *
  simp only at HCK ⊢
  generalize l.length = len at *
  go_enter Tryd.func8, Tryd.ntmps8
  have HB : Hid (Blk (w.alloc (.cells #[.int .i64 kind, .int .i64 sq, .int .u32 n, .int .u32 ps, .int .u32 mr, .slice A len c, .bool self, .string data] 32)) w.heap.size 32 [.int .i64 kind, .int .i64 sq, .int .u32 n, .int .u32 ps, .int .u32 mr, .slice A len c, .bool self, .string data]) := Blk.new _ _ _
  have F1 : Hid (Fresh w (w.alloc (.cells #[.int .i64 kind, .int .i64 sq, .int .u32 n, .int .u32 ps, .int .u32 mr, .slice A len c, .bool self, .string data] 32))) := (Touch.refl _ _).alloc _
  go_upto_region 1 with (fail)
  generalize (w.alloc (.cells #[.int .i64 kind, .int .i64 sq, .int .u32 n, .int .u32 ps, .int .u32 mr, .slice A len c, .bool self, .string data] 32)) = w1 at *
  obtain ⟨b, hb⟩ : ∃ b, b = w.heap.size := ⟨_, rfl⟩
  rw [← hb] at HB ⊢
  clear hb
  have HC : Hid (∀ W, Fresh w1 W → W.cell? ⟨b, 0, none⟩ = some (.int .i64 kind) ∧ W.cell? ⟨b, 1, none⟩ = some (.int .i64 sq) ∧ W.cell? ⟨b, 2, none⟩ = some (.int .u32 n) ∧ W.cell? ⟨b, 3, none⟩ = some (.int .u32 ps) ∧ W.cell? ⟨b, 4, none⟩ = some (.int .u32 mr) ∧ W.cell? ⟨b, 5, none⟩ = some (.slice A len c) ∧ W.cell? ⟨b, 6, none⟩ = some (.bool self) ∧ W.cell? ⟨b, 7, none⟩ = some (.string data)) := fun W f => by
    have h := f.blk HB.out (fun e => e)
    exact ⟨h.cell 0, h.cell 1, h.cell 2, h.cell 3, h.cell 4, h.cell 5, h.cell 6, h.cell 7⟩
  obtain ⟨c0, c1, c2, c3, c4, c5, c6, c7⟩ := HC.out w1 (Touch.refl _ _)
  clear HC
  go_wp2_with (go_at_call 9; (with_reducible refine (HCK.out _ F1.out).mono ?_); rintro e w2 ⟨rfl, f2⟩; have F2 := Lib.hid (F1.out.trans f2 (fun _ _ e => e)); clear f2)
  exact bodyPost_ret (v := .tuple #[.string ⟨#[]⟩, .int .i64 z]) (by simp [results, Tryd.results8, go_sem]) rfl ⟨rfl, F2.out⟩
end Go.Proofs.YtpifgpmjnjbecaaDoor

/-
  PolliwogWhole's units as they came in.
-/
import Derived.Test.YtpifgpmjnjbecaaDoorFew6
import Derived.Test.YtpifgpmjnjbecaaDoorOpen2
namespace Go.Proofs.YtpifgpmjnjbecaaDoor
open Go.ChangeShapes Go.WideShapes Go.ChangeAt Go.RowKit

abbrev WU := Wh.P × Option Addr × Nat
def wuE : El WU := { e := 36, size := 8, bytes := 88, zero := .agg #[.int .i64 0, .int .i64 0, .int .i64 0, .int .i64 0, .int .i64 0, .slice none 0 0, .bool false, .string ⟨#[]⟩], zel := (⟨0, 0, 0, 0, 0, [], false, ⟨#[]⟩⟩, none, 0), enc := fun x => rC x.1 x.2.1 x.2.2, len := fun _ => rfl, one := by simp [rC, Value.oneCell'], pos := by decide, zsize := rfl, zenc := rfl }
/-- What a unit that came in may be. -/
structure WuGood (W : World) (a : WU) : Prop where
  rd : Rd intE W a.2.1 a.2.2 a.1.l
  ints : ∀ x ∈ [a.1.kind, a.1.sq, a.1.n, a.1.ps, a.1.mr], (Lit.int .i64 x).wf = true
  list : ∀ x ∈ a.1.l, (Lit.int .i64 x).wf = true
  data : a.1.data.size ≤ maxLen

set_option maxRecDepth 10000 in
theorem open_unit {H : Type} {enc : TypeId × Value → H} {W : World} {n : Nat} {cs : List Value} {y : DataW H × List MemPlace} (h : DataW.trod enc Tryd.prog W 0 (fun _ => true) true n 36 cs = some y) : ∃ a : WU, cs = wuE.enc a ∧ WuGood W a := by
  obtain ⟨hl, m, hf⟩ := open_fields Tryd.underlying36 (by kernel_rfl) (by kernel_rfl) h
  obtain ⟨u0, u1, u2, u3, u4, u5, u6, u7, rfl⟩ : ∃ u0 u1 u2 u3 u4 u5 u6 u7, cs = [u0, u1, u2, u3, u4, u5, u6, u7] := by
    match cs, hl with
    | [u0, u1, u2, u3, u4, u5, u6, u7], _ => exact ⟨u0, u1, u2, u3, u4, u5, u6, u7, rfl⟩
  obtain ⟨y0, h0⟩ := hf 0 _ rfl
  obtain ⟨y1, h1⟩ := hf 1 _ rfl
  obtain ⟨y2, h2⟩ := hf 2 _ rfl
  obtain ⟨y3, h3⟩ := hf 3 _ rfl
  obtain ⟨y4, h4⟩ := hf 4 _ rfl
  obtain ⟨y5, h5⟩ := hf 5 _ rfl
  obtain ⟨y6, h6⟩ := hf 6 _ rfl
  obtain ⟨y7, h7⟩ := hf 7 _ rfl
  obtain ⟨x0, e0, _, g0⟩ := DataW.trod_int Tryd.underlying3 h0
  obtain ⟨x1, e1, _, g1⟩ := DataW.trod_int Tryd.underlying3 h1
  obtain ⟨x2, e2, _, g2⟩ := DataW.trod_int Tryd.underlying3 h2
  obtain ⟨x3, e3, _, g3⟩ := DataW.trod_int Tryd.underlying3 h3
  obtain ⟨x4, e4, _, g4⟩ := DataW.trod_int Tryd.underlying3 h4
  obtain ⟨A5, c5, l5, e5, r5, g5⟩ := open_rd_cell intE Tryd.underlying34 (by kernel_rfl) (Good := fun x => (Lit.int .i64 x).wf = true) (fun n cs y hy => by
    obtain ⟨x, rfl, _, hw⟩ := DataW.trod_int Tryd.underlying3 hy
    exact ⟨x, rfl, hw⟩) h5
  obtain ⟨b6, e6, _⟩ := DataW.trod_bool Tryd.underlying4 h6
  obtain ⟨s7, e7, _, g7⟩ := DataW.trod_string Tryd.underlying9 h7
  injection e0 with e0
  injection e1 with e1
  injection e2 with e2
  injection e3 with e3
  injection e4 with e4
  injection e6 with e6
  injection e7 with e7
  simp only [List.getD_cons_zero, List.getD_cons_succ] at e0 e1 e2 e3 e4 e5 e6 e7
  subst e0 e1 e2 e3 e4 e5 e6 e7
  exact ⟨(⟨x0, x1, x2, x3, x4, l5, b6, s7⟩, A5, c5), rfl, r5, by simp [g0, g1, g2, g3, g4], g5, g7⟩

set_option maxRecDepth 10000 in
theorem open_units {H : Type} {enc : TypeId × Value → H} {W : World} {base : Nat} {v : Value} {d : DataW H} {p : List MemPlace}
    (hv : Value.okWide Tryd.prog W .any base 22 v) (h : DataW.Trod enc Tryd.prog W 0 (fun _ => true) true 22 v d p) :
    ∃ A c l, v = .slice A l.length c ∧ Rd wuE W A c l ∧ ∀ a ∈ l, WuGood W a :=
  open_rd wuE Tryd.underlying22 (by kernel_rfl) (fun n cs y hy => open_unit hy) hv h
end Go.Proofs.YtpifgpmjnjbecaaDoor

/-
  NodeConfigs, out of the row's reading: what came in is a struct of six numbers and a list. No conditions.
-/
import Derived.Test.YtimhjdepngmejaaGreatNodeConfigs
import Derived.Test.YtimhjdepngmejaaGreatOpen2
import Derived.Lib.SmallJoins
namespace Go.Proofs.YtimhjdepngmejaaGreat
open Go.RowKit Go.ChangeShapes Go.WideShapes Go.ChangeAt

theorem arr7 {α : Type} {cs : Array α} (h : cs.size = 7) : ∃ c0 c1 c2 c3 c4 c5 c6, cs = #[c0, c1, c2, c3, c4, c5, c6] := by
  obtain ⟨l⟩ := cs
  match l, h with
  | [c0, c1, c2, c3, c4, c5, c6], _ => exact ⟨c0, c1, c2, c3, c4, c5, c6, rfl⟩
set_option maxRecDepth 100000 in
theorem nodeConfigs.walk (v : Value) (w : World) {H : Type} {enc : TypeId × Value → H} {base : Nat} {d : DataW H} {p : List MemPlace} (hv : Value.okWide Tryz.prog w .any base 24 v) (h : DataW.Trod enc Tryz.prog w 0 (fun _ => true) true 24 v d p) :
    Calls Tryz.prog 3 #[v] w fun e w' => e = .returned (.bool true) ∧ Below w.heap.size w w' := by
  obtain ⟨cs, rfl, hsz⟩ := okWide_struct Tryz.underlying24 hv
  obtain ⟨v0, v1, v2, v3, v4, v5, v6, rfl⟩ := arr7 (hsz.trans (by kernel_rfl))
  obtain ⟨fuel, hf⟩ := h
  obtain ⟨_, m, hm⟩ := open_fields Tryz.underlying24 (by kernel_rfl) (by kernel_rfl) hf
  obtain ⟨y0, h0⟩ := hm 0 _ rfl
  obtain ⟨y1, h1⟩ := hm 1 _ rfl
  obtain ⟨y2, h2⟩ := hm 2 _ rfl
  obtain ⟨y3, h3⟩ := hm 3 _ rfl
  obtain ⟨y4, h4⟩ := hm 4 _ rfl
  obtain ⟨y5, h5⟩ := hm 5 _ rfl
  obtain ⟨y6, h6⟩ := hm 6 _ rfl
  obtain ⟨x0, e0, _, _⟩ := DataW.trod_int Tryz.underlying3 h0
  obtain ⟨x1, e1, _, _⟩ := DataW.trod_int Tryz.underlying3 h1
  obtain ⟨x2, e2, _, _⟩ := DataW.trod_int Tryz.underlying3 h2
  obtain ⟨x3, e3, _, _⟩ := DataW.trod_int Tryz.underlying3 h3
  obtain ⟨x4, e4, _, _⟩ := DataW.trod_int Tryz.underlying3 h4
  obtain ⟨x5, e5, _, _⟩ := DataW.trod_int Tryz.underlying3 h5
  obtain ⟨A, c, L, rfl, r6, _⟩ := open_rd_cell intE Tryz.underlying22 (by kernel_rfl) (Good := fun _ => True) (fun n cs y hy => by
    obtain ⟨x, rfl, _, _⟩ := DataW.trod_int Tryz.underlying3 hy
    exact ⟨x, rfl, trivial⟩) h6
  injection e0 with e0
  injection e1 with e1
  injection e2 with e2
  injection e3 with e3
  injection e4 with e4
  injection e5 with e5
  subst e0 e1 e2 e3 e4 e5
  exact (nodeConfigs_dev x0 x1 x2 x3 x4 x5 A c L w r6).mono fun e w' ⟨he, ht⟩ => ⟨he, ht.below (Nat.le_refl _) (fun _ _ e => e)⟩
end Go.Proofs.YtimhjdepngmejaaGreat

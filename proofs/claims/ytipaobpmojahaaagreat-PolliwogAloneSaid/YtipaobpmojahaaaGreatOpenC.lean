/-
  What a law's arguments read as, out of the row's own reading · A slice that stands in one cell of what came in · polliwogref16.Config, out of a row's reading: a struct of six numbers and a list. No conditions.
-/
import Derived.Test.YtipaobpmojahaaaGreatEvD
import Derived.ProofKit
import Derived.OpenShut
import Derived.ShutString
import Derived.ChangeOld
import Derived.Deep.Slices
import Derived.Deep.Fields
import Derived.Lib.SmallJoins
namespace Go.Proofs.YtipaobpmojahaaaGreat
open Go.ChangeShapes Go.WideShapes Go.ChangeAt Go.RowKit

/-- A struct whose fields are one cell each. -/
theorem open_fields {H : Type} {enc : TypeId × Value → H} {W : World} {base : Nat} {t : TypeId} {fs : Array Field} {n : Nat} {cs : List Value} {y : DataW H × List MemPlace}
    (hs : Tryz.prog.underlying t = some (.struct fs)) (hone : Go.Deep.oneCellFields Tryz.prog fs = true) (hC : Tryz.prog.cellsOf t = fs.size) (h : DataW.trod enc Tryz.prog W base (fun _ => true) true n t cs = some y) :
    cs.length = fs.size ∧ ∃ m, ∀ (i : Nat) (f : Field), fs[i]? = some f → ∃ y, DataW.trod enc Tryz.prog W base (fun _ => true) true m f.type [cs.getD i undef] = some y := by
  obtain ⟨xs, m, _, _, hl, hx, hf⟩ := DataW.trod_struct hs h
  refine ⟨hl.trans hC, m, fun i f hi => ?_⟩
  have hlt : i < fs.size := (Array.getElem?_eq_some_iff.1 hi).1
  obtain ⟨o0, k0⟩ := Go.Deep.hone_of hone i f hi
  have h1 := hf i f hi
  rw [List.getElem?_eq_getElem (by omega), o0, k0, Go.Deep.take1_drop _ _ undef (by rw [hl, hC]; exact hlt)] at h1
  exact ⟨_, h1⟩
open Go.ChangeShapes Go.WideShapes Go.ChangeAt Go.RowKit

set_option maxRecDepth 10000 in
theorem open_rd_cell {α : Type} (E : El α) {t : TypeId} (ht : Tryz.prog.underlying t = some (.slice E.e)) (hc : Tryz.prog.cellsOf E.e = E.size) {H : Type} {enc : TypeId × Value → H} {W : World} {u : Value} {k : Nat} {y : DataW H × List MemPlace}
    {Good : α → Prop} (dec : ∀ n cs y, DataW.trod enc Tryz.prog W 0 (fun _ => true) true n E.e cs = some y → ∃ a, cs = E.enc a ∧ Good a)
    (h : DataW.trod enc Tryz.prog W 0 (fun _ => true) true k t [u] = some y) :
    ∃ A c l, u = .slice A l.length c ∧ Rd E W A c l ∧ ∀ a ∈ l, Good a := by
  rcases DataW.trod_slice ht h with ⟨hcs, _⟩ | ⟨a, l, c, elems, rest, n, _, hcs, _, _, hl, hm, hlen, hel, _⟩
  · injection hcs with hcs
    subst hcs
    exact ⟨none, 0, [], rfl, Rd.nil _ _, by simp⟩
  · injection hcs with hcs
    subst hcs
    have hall : ∀ i, i < l → ∃ b : α, (∀ f u, (E.enc b)[f]? = some u → W.cell? (a.add (i * E.size + f)) = some u) ∧ Good b := by
      intro i hi
      have h1 := hel i hi
      rw [List.getElem?_eq_getElem (by omega)] at h1
      obtain ⟨cs, h2, h3⟩ := Option.bind_eq_some_iff.1 h1
      obtain ⟨b, rfl, hg⟩ := dec _ _ _ h3
      obtain ⟨_, h4, h5⟩ := World.cells?_some h2
      refine ⟨b, fun f u hu => ?_, hg⟩
      have hf : f < E.size := by rw [← E.len b]; exact (List.getElem?_eq_some_iff.1 hu).1
      have h6 := h5 f (by rw [hc]; exact hf)
      rw [hc, Go.Deep.add_add] at h6
      rw [h6, hu]
    obtain ⟨L, hL, hp⟩ := exists_list hall
    refine ⟨some a, c, L, by rw [hL], ⟨by rw [hL]; exact hl, hm, (fun h => by cases h), ?_⟩, ?_⟩
    · intro ad ha j u hu
      injection ha with ha
      subst ha
      obtain ⟨i, f, hi, rfl, _, hu⟩ := E.all_get L j u hu
      exact (hp i hi).1 f u hu
    · intro b hb
      obtain ⟨i, hi, rfl⟩ := List.mem_iff_getElem.1 hb
      exact (hp i hi).2
open Go.RowKit Go.ChangeShapes Go.WideShapes Go.ChangeAt
set_option linter.constructorNameAsVariable false

theorem arr7 {α : Type} {cs : Array α} (h : cs.size = 7) : ∃ c0 c1 c2 c3 c4 c5 c6, cs = #[c0, c1, c2, c3, c4, c5, c6] := by
  obtain ⟨l⟩ := cs
  match l, h with
  | [c0, c1, c2, c3, c4, c5, c6], _ => exact ⟨c0, c1, c2, c3, c4, c5, c6, rfl⟩
set_option maxRecDepth 100000 in
theorem open_config (v : Value) (w : World) {H : Type} {enc : TypeId × Value → H} {base : Nat} {d : DataW H} {p : List MemPlace} (hv : Value.okWide Tryz.prog w .any base 24 v) (h : DataW.Trod enc Tryz.prog w 0 (fun _ => true) true 24 v d p) :
    ∃ x0 x1 x2 x3 x4 x5 A c L, v = .agg #[.int .i64 x0, .int .i64 x1, .int .i64 x2, .int .i64 x3, .int .i64 x4, .int .i64 x5, .slice A L.length c] ∧ Rd intE w A c L := by
  obtain ⟨cs, rfl, hsz⟩ := okWide_struct Tryz.underlying24 hv
  obtain ⟨v0, v1, v2, v3, v4, v5, v6, rfl⟩ := arr7 (hsz.trans (by kernel_rfl))
  obtain ⟨fuel, hf⟩ := h
  obtain ⟨_, m, hm⟩ := open_fields Tryz.underlying24 (by kernel_rfl) (by kernel_rfl) hf
  obtain ⟨y0, h0⟩ := hm 0 _ rfl
  obtain ⟨y1, h1⟩ := hm 1 _ rfl
  obtain ⟨y2, h2⟩ := hm 2 _ rfl
  obtain ⟨y3, h3⟩ := hm 3 _ rfl
  obtain ⟨y4, h4⟩ := hm 4 _ rfl
  obtain ⟨y5, h5⟩ := hm 5 _ rfl
  obtain ⟨y6, h6⟩ := hm 6 _ rfl
  obtain ⟨x0, e0, _, _⟩ := DataW.trod_int Tryz.underlying3 h0
  obtain ⟨x1, e1, _, _⟩ := DataW.trod_int Tryz.underlying3 h1
  obtain ⟨x2, e2, _, _⟩ := DataW.trod_int Tryz.underlying3 h2
  obtain ⟨x3, e3, _, _⟩ := DataW.trod_int Tryz.underlying3 h3
  obtain ⟨x4, e4, _, _⟩ := DataW.trod_int Tryz.underlying3 h4
  obtain ⟨x5, e5, _, _⟩ := DataW.trod_int Tryz.underlying3 h5
  obtain ⟨A, c, L, rfl, r6, _⟩ := open_rd_cell intE Tryz.underlying22 (by kernel_rfl) (Good := fun _ => True) (fun n cs y hy => by
    obtain ⟨x, rfl, _, _⟩ := DataW.trod_int Tryz.underlying3 hy
    exact ⟨x, rfl, trivial⟩) h6
  injection e0 with e0
  injection e1 with e1
  injection e2 with e2
  injection e3 with e3
  injection e4 with e4
  injection e5 with e5
  subst e0 e1 e2 e3 e4 e5
  exact ⟨_, _, _, _, _, _, A, c, L, rfl, r6⟩
end Go.Proofs.YtipaobpmojahaaaGreat

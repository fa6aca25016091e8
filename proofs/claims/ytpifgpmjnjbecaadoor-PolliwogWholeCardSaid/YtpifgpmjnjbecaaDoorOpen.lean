/-
  What a law's arguments read as, out of the row's own reading.
-/
import Derived.Test.YtpifgpmjnjbecaaDoorTy
import Derived.ProofKit
import Derived.OpenShut
import Derived.ShutString
import Derived.ChangeOld
import Derived.Deep.Slices
import Derived.Deep.Fields
namespace Go.Proofs.YtpifgpmjnjbecaaDoor
open Go.ChangeShapes Go.WideShapes Go.ChangeAt Go.RowKit

/-- A struct whose fields are one cell each. -/
theorem open_fields {H : Type} {enc : TypeId × Value → H} {W : World} {base : Nat} {t : TypeId} {fs : Array Field} {n : Nat} {cs : List Value} {y : DataW H × List MemPlace}
    (hs : Tryd.prog.underlying t = some (.struct fs)) (hone : Go.Deep.oneCellFields Tryd.prog fs = true) (hC : Tryd.prog.cellsOf t = fs.size) (h : DataW.trod enc Tryd.prog W base (fun _ => true) true n t cs = some y) :
    cs.length = fs.size ∧ ∃ m, ∀ (i : Nat) (f : Field), fs[i]? = some f → ∃ y, DataW.trod enc Tryd.prog W base (fun _ => true) true m f.type [cs.getD i undef] = some y := by
  obtain ⟨xs, m, _, _, hl, hx, hf⟩ := DataW.trod_struct hs h
  refine ⟨hl.trans hC, m, fun i f hi => ?_⟩
  have hlt : i < fs.size := (Array.getElem?_eq_some_iff.1 hi).1
  obtain ⟨o0, k0⟩ := Go.Deep.hone_of hone i f hi
  have h1 := hf i f hi
  rw [List.getElem?_eq_getElem (by omega), o0, k0, Go.Deep.take1_drop _ _ undef (by rw [hl, hC]; exact hlt)] at h1
  exact ⟨_, h1⟩

set_option maxRecDepth 10000 in
/-- A slice that came in, whatever its elements. -/
theorem open_rd {α : Type} (E : El α) {t : TypeId} (ht : Tryd.prog.underlying t = some (.slice E.e)) (hc : Tryd.prog.cellsOf E.e = E.size) {H : Type} {enc : TypeId × Value → H} {W : World} {base : Nat} {v : Value} {d : DataW H} {p : List MemPlace}
    {Good : α → Prop} (dec : ∀ n cs y, DataW.trod enc Tryd.prog W 0 (fun _ => true) true n E.e cs = some y → ∃ a, cs = E.enc a ∧ Good a)
    (hv : Value.okWide Tryd.prog W .any base t v) (h : DataW.Trod enc Tryd.prog W 0 (fun _ => true) true t v d p) :
    ∃ A c l, v = .slice A l.length c ∧ Rd E W A c l ∧ ∀ a ∈ l, Good a := by
  obtain ⟨a0, len, cap, rfl⟩ := okWide_slice ht hv
  obtain ⟨fuel, hf⟩ := h
  rcases DataW.trod_slice ht hf with ⟨hcs, _⟩ | ⟨a, l, c, elems, rest, n, _, hcs, _, _, hl, hm, hlen, hel, _⟩
  · simp [Value.cells] at hcs
    obtain ⟨rfl, rfl, rfl⟩ := hcs
    exact ⟨none, 0, [], rfl, Rd.nil _ _, by simp⟩
  · simp [Value.cells] at hcs
    obtain ⟨rfl, rfl, rfl⟩ := hcs
    have hall : ∀ i, i < len → ∃ b : α, (∀ f u, (E.enc b)[f]? = some u → W.cell? (a.add (i * E.size + f)) = some u) ∧ Good b := by
      intro i hi
      have h1 := hel i hi
      rw [List.getElem?_eq_getElem (by omega)] at h1
      obtain ⟨cs, h2, h3⟩ := Option.bind_eq_some_iff.1 h1
      obtain ⟨b, rfl, hg⟩ := dec _ _ _ h3
      obtain ⟨_, h4, h5⟩ := World.cells?_some h2
      refine ⟨b, fun f u hu => ?_, hg⟩
      have hf : f < E.size := by rw [← E.len b]; exact (List.getElem?_eq_some_iff.1 hu).1
      have h6 := h5 f (by rw [hc]; exact hf)
      rw [hc, Go.Deep.add_add] at h6
      rw [h6, hu]
    obtain ⟨L, hL, hp⟩ := exists_list hall
    refine ⟨some a, cap, L, by rw [hL], ⟨by rw [hL]; exact hl, hm, (fun h => by cases h), ?_⟩, ?_⟩
    · intro ad ha j u hu
      injection ha with ha
      subst ha
      obtain ⟨i, f, hi, rfl, _, hu⟩ := E.all_get L j u hu
      exact (hp i hi).1 f u hu
    · intro b hb
      obtain ⟨i, hi, rfl⟩ := List.mem_iff_getElem.1 hb
      exact (hp i hi).2

set_option maxRecDepth 10000 in
theorem open_rd_int {H : Type} {enc : TypeId × Value → H} {W : World} {base : Nat} {v : Value} {d : DataW H} {p : List MemPlace}
    (hv : Value.okWide Tryd.prog W .any base 34 v) (h : DataW.Trod enc Tryd.prog W 0 (fun _ => true) true 34 v d p) :
    ∃ A c l, v = .slice A l.length c ∧ Rd intE W A c l ∧ (∀ x ∈ l, (Lit.int .i64 x).wf = true) :=
  open_rd intE Tryd.underlying34 (by kernel_rfl) (fun n cs y hy => by
    obtain ⟨x, rfl, _, hw⟩ := DataW.trod_int Tryd.underlying3 hy
    exact ⟨x, rfl, hw⟩) hv h
end Go.Proofs.YtpifgpmjnjbecaaDoor

/-
  A slice that stands in one cell of what came in.
-/
import Derived.Test.YtpifgpmjnjbecaaDoorOpen
namespace Go.Proofs.YtpifgpmjnjbecaaDoor
open Go.ChangeShapes Go.WideShapes Go.ChangeAt Go.RowKit

set_option maxRecDepth 10000 in
theorem open_rd_cell {α : Type} (E : El α) {t : TypeId} (ht : Tryd.prog.underlying t = some (.slice E.e)) (hc : Tryd.prog.cellsOf E.e = E.size) {H : Type} {enc : TypeId × Value → H} {W : World} {u : Value} {k : Nat} {y : DataW H × List MemPlace}
    {Good : α → Prop} (dec : ∀ n cs y, DataW.trod enc Tryd.prog W 0 (fun _ => true) true n E.e cs = some y → ∃ a, cs = E.enc a ∧ Good a)
    (h : DataW.trod enc Tryd.prog W 0 (fun _ => true) true k t [u] = some y) :
    ∃ A c l, u = .slice A l.length c ∧ Rd E W A c l ∧ ∀ a ∈ l, Good a := by
  rcases DataW.trod_slice ht h with ⟨hcs, _⟩ | ⟨a, l, c, elems, rest, n, _, hcs, _, _, hl, hm, hlen, hel, _⟩
  · injection hcs with hcs
    subst hcs
    exact ⟨none, 0, [], rfl, Rd.nil _ _, by simp⟩
  · injection hcs with hcs
    subst hcs
    have hall : ∀ i, i < l → ∃ b : α, (∀ f u, (E.enc b)[f]? = some u → W.cell? (a.add (i * E.size + f)) = some u) ∧ Good b := by
      intro i hi
      have h1 := hel i hi
      rw [List.getElem?_eq_getElem (by omega)] at h1
      obtain ⟨cs, h2, h3⟩ := Option.bind_eq_some_iff.1 h1
      obtain ⟨b, rfl, hg⟩ := dec _ _ _ h3
      obtain ⟨_, h4, h5⟩ := World.cells?_some h2
      refine ⟨b, fun f u hu => ?_, hg⟩
      have hf : f < E.size := by rw [← E.len b]; exact (List.getElem?_eq_some_iff.1 hu).1
      have h6 := h5 f (by rw [hc]; exact hf)
      rw [hc, Go.Deep.add_add] at h6
      rw [h6, hu]
    obtain ⟨L, hL, hp⟩ := exists_list hall
    refine ⟨some a, c, L, by rw [hL], ⟨by rw [hL]; exact hl, hm, (fun h => by cases h), ?_⟩, ?_⟩
    · intro ad ha j u hu
      injection ha with ha
      subst ha
      obtain ⟨i, f, hi, rfl, _, hu⟩ := E.all_get L j u hu
      exact (hp i hi).1 f u hu
    · intro b hb
      obtain ⟨i, hi, rfl⟩ := List.mem_iff_getElem.1 hb
      exact (hp i hi).2
end Go.Proofs.YtpifgpmjnjbecaaDoor

/-
  PolliwogTwo, out of the row's reading: what came in is a struct of two numbers and two lists. No conditions.
-/
import Derived.Test.YtngljhpplmbglaaOpen
import Derived.Test.YtngljhpplmbglaaTwo
import Derived.Lib.SmallJoins
namespace Go.Proofs.Ytngljhpplmbglaa
open Go.ChangeShapes Go.WideShapes Go.ChangeAt Go.RowKit

set_option maxRecDepth 10000 in
theorem open_rd_cell {α : Type} (E : El α) {t : TypeId} (ht : Try.prog.underlying t = some (.slice E.e)) (hc : Try.prog.cellsOf E.e = E.size) {H : Type} {enc : TypeId × Value → H} {W : World} {u : Value} {k : Nat} {y : DataW H × List MemPlace}
    {Good : α → Prop} (dec : ∀ n cs y, DataW.trod enc Try.prog W 0 (fun _ => true) true n E.e cs = some y → ∃ a, cs = E.enc a ∧ Good a)
    (h : DataW.trod enc Try.prog W 0 (fun _ => true) true k t [u] = some y) :
    ∃ A c l, u = .slice A l.length c ∧ Rd E W A c l ∧ ∀ a ∈ l, Good a := by
  rcases DataW.trod_slice ht h with ⟨hcs, _⟩ | ⟨a, l, c, elems, rest, n, _, hcs, _, _, hl, hm, hlen, hel, _⟩
  · injection hcs with hcs
    subst hcs
    exact ⟨none, 0, [], rfl, Rd.nil _ _, by simp⟩
  · injection hcs with hcs
    subst hcs
    have hall : ∀ i, i < l → ∃ b : α, (∀ f u, (E.enc b)[f]? = some u → W.cell? (a.add (i * E.size + f)) = some u) ∧ Good b := by
      intro i hi
      have h1 := hel i hi
      rw [List.getElem?_eq_getElem (by omega)] at h1
      obtain ⟨cs, h2, h3⟩ := Option.bind_eq_some_iff.1 h1
      obtain ⟨b, rfl, hg⟩ := dec _ _ _ h3
      obtain ⟨_, h4, h5⟩ := World.cells?_some h2
      refine ⟨b, fun f u hu => ?_, hg⟩
      have hf : f < E.size := by rw [← E.len b]; exact (List.getElem?_eq_some_iff.1 hu).1
      have h6 := h5 f (by rw [hc]; exact hf)
      rw [hc, Go.Deep.add_add] at h6
      rw [h6, hu]
    obtain ⟨L, hL, hp⟩ := exists_list hall
    refine ⟨some a, c, L, by rw [hL], ⟨by rw [hL]; exact hl, hm, (fun h => by cases h), ?_⟩, ?_⟩
    · intro ad ha j u hu
      injection ha with ha
      subst ha
      obtain ⟨i, f, hi, rfl, _, hu⟩ := E.all_get L j u hu
      exact (hp i hi).1 f u hu
    · intro b hb
      obtain ⟨i, hi, rfl⟩ := List.mem_iff_getElem.1 hb
      exact (hp i hi).2
end Go.Proofs.Ytngljhpplmbglaa

namespace Go.Proofs.Ytngljhpplmbglaa
open Go.RowKit Go.ChangeShapes Go.WideShapes Go.ChangeAt

set_option maxRecDepth 100000 in
theorem polliwogTwo.walk (v : Value) (w : World) {H : Type} {enc : TypeId × Value → H} {base : Nat} {d : DataW H} {p : List MemPlace} (hv : Value.okWide Try.prog w .any base 25 v) (h : DataW.Trod enc Try.prog w 0 (fun _ => true) true 25 v d p) :
    Calls Try.prog 3 #[v] w fun e w' => e = .returned (.bool true) ∧ Below w.heap.size w w' := by
  obtain ⟨v0, v1, v2, v3, y0, y1, y2, y3, n, rfl, _, _, h0, h1, h2, h3⟩ := Go.Joins.open_agg4 Try.underlying25 (by kernel_rfl) (by kernel_rfl) hv h
  obtain ⟨x0, e0, _, _⟩ := DataW.trod_int Try.underlying3 h0
  obtain ⟨x1, e1, _, _⟩ := DataW.trod_int Try.underlying3 h1
  obtain ⟨A2, c2, L2, rfl, r2, g2⟩ := open_rd_cell strE Try.underlying22 (by kernel_rfl) (Good := fun v => v.size ≤ maxLen) (fun n cs y hy => by
    obtain ⟨x, rfl, _, hs⟩ := DataW.trod_string Try.underlying9 hy
    exact ⟨x, rfl, hs⟩) h2
  obtain ⟨A3, c3, L3, rfl, r3, _⟩ := open_rd_cell boolE Try.underlying23 (by kernel_rfl) (Good := fun _ => True) (fun n cs y hy => by
    obtain ⟨x, rfl, _⟩ := DataW.trod_bool Try.underlying4 hy
    exact ⟨x, rfl, trivial⟩) h3
  injection e0 with e0
  injection e1 with e1
  subst e0 e1
  exact polliwogTwo.core x0 x1 A2 c2 L2 A3 c3 L3 w r2 g2 r3
end Go.Proofs.Ytngljhpplmbglaa

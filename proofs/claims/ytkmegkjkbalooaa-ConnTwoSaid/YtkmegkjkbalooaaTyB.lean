/-
  Slices of bool; how slices of bool and of string come in.
-/
import Derived.Test.YtkmegkjkbalooaaOpen
namespace Go.Proofs.Ytkmegkjkbalooaa
open Go.RowKit Go.ChangeShapes Go.WideShapes Go.ChangeAt

def boolE : El Bool := { e := 4, size := 1, bytes := 1, zero := .bool false, zel := false, enc := fun x => [.bool x], len := fun _ => rfl, one := by simp [Value.oneCell'], pos := by decide, zsize := rfl, zenc := rfl }
theorem Rd.bool_at {w : World} {A : Option Addr} {c : Nat} {l : List Bool} (h : Rd boolE w A c l) (k : Nat) (hk : k < l.length) : ∃ g o, A = some ⟨g, o, none⟩ ∧ g < w.heap.size ∧ w.cell? ⟨g, o + k, none⟩ = some (.bool (l.getD k false)) := by
  obtain ⟨g, o, hA, hg, hc⟩ := h.at_ k hk
  refine ⟨g, o, hA, hg, ?_⟩
  have := hc 0 (.bool (l.getD k false)) (by simp [boolE, List.getD, List.getElem?_eq_getElem hk])
  simpa [boolE] using this
set_option maxRecDepth 10000 in
theorem open_rd_bool {H : Type} {enc : TypeId × Value → H} {W : World} {base : Nat} {v : Value} {d : DataW H} {p : List MemPlace}
    (hv : Value.okWide Try.prog W .any base 23 v) (h : DataW.Trod enc Try.prog W 0 (fun _ => true) true 23 v d p) :
    ∃ A c l, v = .slice A l.length c ∧ Rd boolE W A c l := by
  obtain ⟨A, c, l, h1, h2, _⟩ := open_rd boolE Try.underlying23 (by kernel_rfl) (Good := fun _ => True) (fun n cs y hy => by
    obtain ⟨x, rfl, _⟩ := DataW.trod_bool Try.underlying4 hy
    exact ⟨x, rfl, trivial⟩) hv h
  exact ⟨A, c, l, h1, h2⟩
set_option maxRecDepth 10000 in
theorem open_rd_str {H : Type} {enc : TypeId × Value → H} {W : World} {base : Nat} {v : Value} {d : DataW H} {p : List MemPlace}
    (hv : Value.okWide Try.prog W .any base 129 v) (h : DataW.Trod enc Try.prog W 0 (fun _ => true) true 129 v d p) :
    ∃ A c l, v = .slice A l.length c ∧ Rd strE W A c l ∧ (∀ s ∈ l, s.size ≤ maxLen) :=
  open_rd strE Try.underlying129 (by kernel_rfl) (fun n cs y hy => by
    obtain ⟨x, rfl, _, hs⟩ := DataW.trod_string Try.underlying9 hy
    exact ⟨x, rfl, hs⟩) hv h
end Go.Proofs.Ytkmegkjkbalooaa

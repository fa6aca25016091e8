/-
  append to a full slice: it lies anew, what was there stays. No program is named.
-/
import Derived.Test.YtkmegkjkbalooaaMem
import Derived.Test.YtkmegkjkbalooaaMine
import Derived.BigFrame
namespace Go.Proofs.Ytkmegkjkbalooaa
open Go.RowKit

section
variable {α : Type} (E : El α) {P : Program} {w : World}
/-- append to a full slice. -/
theorem run_app_new (T ty : TypeId) (i : TypeInfo) (hT : P.underlying T = some (.slice E.e)) (hi : P.info? E.e = some i) (hz : i.zero = some E.zero) (hs : i.size = E.size) (hb : i.bytes = E.bytes)
    {A A2 : Option Addr} {c c2 : Nat} {l l2 : List α} (h : Rd E w A c l) (h2 : Rd E w A2 c2 l2) (hr : ¬ l.length + l2.length ≤ c) (hm : l.length + l2.length ≤ maxLen) (hby : (l.length + l2.length) * E.bytes ≤ 140737488355328) :
    ∃ A' c' w', (Builtin.append_ #[T, T] ty #[.slice A l.length c, .slice A2 l2.length c2]).run P w = .ok (.slice A' (l ++ l2).length c') w' ∧ Mine E w w' A' c' (l ++ l2) := by
  have hsmall : l.length + l2.length ≤ 9223372036854775807 := by simp only [maxLen] at hm; omega
  have hn : ¬ (l.length + l2.length ≤ c) := hr
  have hf := h2.first (P := P) E w.drew rfl
  have hfo := h.first (P := P) E w.drew rfl
  have h63' : ¬ (9223372036854775807 < ((l.length : Int) + (l2.length : Int))) := by omega
  have hfit : Builtin.nextslicecap (l.length + l2.length) c * E.bytes ≤ 281474976710656 := growslice_fits (by omega) hby
  have h48' : ¬ (281474976710656 < Builtin.nextslicecap (l.length + l2.length) c * E.bytes) := by omega
  have hge := grownCap_ge w (l.length + l2.length) c E.e
  have hcm := grownCap_le_maxLen w (l.length + l2.length) c E.e hm
  have hrun : (Builtin.append_ #[T, T] ty #[.slice A l.length c, .slice A2 l2.length c2]).run P w =
      .ok (.slice (some ⟨w.heap.size, 0, none⟩) (l ++ l2).length (grownCap w (l.length + l2.length) c E.e))
        (w.drew.alloc (.cells ((E.all l).toArray ++ (E.all l2).toArray ++ Builtin.zeroCells E.zero.cells (grownCap w (l.length + l2.length) c E.e - (l.length + l2.length))) E.e)) := by
    simp [Builtin.append_, run_underlying hT, sizeOf, typeInfo, zeroValue, hi, hz, hs, hb, Builtin.lenOf, hn, h63', h48', Question.forced, hf, hfo, newRow, grownCap]
    rw [← Array.append_assoc]
    simp
  refine ⟨_, _, _, hrun, ⟨⟨by simp; omega, hcm, fun h => by (cases h), fun ad ha => ?_⟩, ⟨rfl, rfl, rfl, by simp, fun k hk _ => Below.heap_alloc w.drew _ k hk⟩, fun ad ha => ?_⟩⟩
  · injection ha with ha
    subst ha
    refine ⟨rfl, E.all l ++ E.all l2 ++ (Builtin.zeroCells E.zero.cells (grownCap w (l.length + l2.length) c E.e - (l.length + l2.length))).toList, ?_, ?_, ?_⟩
    · have := Blk.new w.drew E.e (E.all l ++ E.all l2 ++ (Builtin.zeroCells E.zero.cells (grownCap w (l.length + l2.length) c E.e - (l.length + l2.length))).toList)
      have e0 : ∀ (a b : List Value) (z : Array Value), (a ++ b ++ z.toList).toArray = a.toArray ++ b.toArray ++ z := by intro a b z; simp [← Array.append_assoc, ← List.append_toArray]
      rw [e0] at this
      exact this
    · simp only [List.length_append, E.all_len, Array.length_toList, size_zeroCells, E.zsize, Nat.zero_add]
      rw [← Nat.add_mul, ← Nat.add_mul]
      exact Nat.mul_le_mul_right _ (by omega)
    · rw [List.drop_zero, E.all_append, List.take_left' (by rw [← E.all_append, E.all_len])]
  · injection ha with ha
    subst ha
    exact Nat.le_refl _

theorem wpList_app_new {ops : Array Oper} {rest : List Oper} {o : Oper} {a : Act} {Q : Exit → Act → World → Prop} (hw : Region.wanted o (yielded ops a.tmps) = true) {s x : Operand} {T : TypeId}
    (ho : o.op = .call { callee := .builtin .append, args := #[s, x], argTypes := #[T, T] })
    (i : TypeInfo) (hT : P.underlying T = some (.slice E.e)) (hi : P.info? E.e = some i) (hz : i.zero = some E.zero) (hs : i.size = E.size) (hb : i.bytes = E.bytes)
    {A A2 : Option Addr} {c c2 : Nat} {l l2 : List α} (es : a.eval s = .slice A l.length c) (ex : a.eval x = .slice A2 l2.length c2)
    (h : Rd E w A c l) (h2 : Rd E w A2 c2 l2) (hr : ¬ l.length + l2.length ≤ c) (hm : l.length + l2.length ≤ maxLen) (hby : (l.length + l2.length) * E.bytes ≤ 140737488355328)
    (hK : ∀ A' c' L w', Hid (L = l ++ l2) → Mine E w w' A' c' L → wpList P ops Q rest (a.put o.dst (.slice A' L.length c')) w') : wpList P ops Q (o :: rest) a w := by
  obtain ⟨A', c', w', hrun, h3⟩ := run_app_new E (P := P) T o.type i hT hi hz hs hb h h2 hr hm hby
  refine BigFrame.wpList_want hw fun K hk => ?_
  unfold Oper.wp execOp
  simp only [ho, resolve, invoke, builtin, Sem.run_bind, Sem.run_pure, Result.andThen_ok, List.map_toArray, List.map_cons, List.map_nil, es, ex, hrun]
  exact hk _ _ (hK A' c' (l ++ l2) w' rfl h3)
end
end Go.Proofs.Ytkmegkjkbalooaa

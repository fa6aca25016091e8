/-
  Slices of seq.Num.
-/
import Derived.Test.YtpifgpmjnjbecaaDoorRows
import Derived.Test.YtpifgpmjnjbecaaDoorMem
namespace Go.Proofs.YtpifgpmjnjbecaaDoor
open Go.RowKit

def numE : El Int := { e := 29, size := 1, bytes := 4, zero := .int .u32 0, zel := 0, enc := fun x => [.int .u32 x], len := fun _ => rfl, one := by simp [Value.oneCell'], pos := by decide, zsize := rfl, zenc := rfl }
theorem Tryd.infoNum : (Tryd.prog.info? 29).map (fun i => (i.zero, i.size, i.bytes)) = some (some (.int .u32 0), 1, 4) := by kernel_rfl
theorem Sl.num_at {w : World} {A : Option Addr} {c : Nat} {l : List Int} (h : Sl numE w A c l) (k : Nat) (hk : k < l.length) : ∃ g o, A = some ⟨g, o, none⟩ ∧ g < w.heap.size ∧ w.cell? ⟨g, o + k, none⟩ = some (.int .u32 (l.getD k 0)) := by
  obtain ⟨g, o, hA, hg, hc⟩ := h.at_ k hk
  refine ⟨g, o, hA, hg, ?_⟩
  have := hc 0 (.int .u32 (l.getD k 0)) (by simp [numE, List.getD, List.getElem?_eq_getElem hk])
  simpa [numE] using this
theorem Rd.num_at {w : World} {A : Option Addr} {c : Nat} {l : List Int} (h : Rd numE w A c l) (k : Nat) (hk : k < l.length) : ∃ g o, A = some ⟨g, o, none⟩ ∧ g < w.heap.size ∧ w.cell? ⟨g, o + k, none⟩ = some (.int .u32 (l.getD k 0)) := by
  obtain ⟨g, o, hA, hg, hc⟩ := h.at_ k hk
  refine ⟨g, o, hA, hg, ?_⟩
  have := hc 0 (.int .u32 (l.getD k 0)) (by simp [numE, List.getD, List.getElem?_eq_getElem hk])
  simpa [numE] using this
theorem app_num {ops : Array Oper} {rest : List Oper} {o : Oper} {a : Act} {Q : Exit → Act → World → Prop} {w : World} (hgd : o.guard = none) {s x : Operand}
    (ho : o.op = .call { callee := .builtin .append, args := #[s, x], argTypes := #[30, 30] })
    {A A2 : Option Addr} {c c2 : Nat} {l l2 : List Int} (es : a.eval s = .slice A l.length c) (ex : a.eval x = .slice A2 l2.length c2)
    (h : Sl numE w A c l) (h2 : Rd numE w A2 c2 l2) (hm : l.length + l2.length ≤ 17592186044416)
    (hK : ∀ A' c' L w', Hid (L = l ++ l2) → Sl numE w' A' c' L → Touch (fun k => A.map Addr.block = some k) w w' → (A'.map Addr.block = A.map Addr.block ∨ A'.map Addr.block = some w.heap.size) →
      wpList Tryd.prog ops Q rest (a.put o.dst (.slice A' L.length c')) w') : wpList Tryd.prog ops Q (o :: rest) a w := by
  obtain ⟨i0, hi, hz0, hz1, hz2⟩ := info_parts Tryd.infoNum
  exact wpList_app numE hgd ho i0 Tryd.underlying30 hi hz0 hz1 hz2 es ex h h2 (by simp only [maxLen]; omega) (by show _ * 4 ≤ _; omega) hK
theorem stp_num {ops : Array Oper} {o : Oper} {a : Act} {K : Act → World → Prop} {Q : Exit → Act → World → Prop} {F : Prop} {w : World} (hgd : o.guard = none) {s x : Operand}
    (ho : o.op = .call { callee := .builtin .append, args := #[s, x], argTypes := #[30, 30] })
    {A A2 : Option Addr} {c c2 : Nat} {l l2 : List Int} (es : a.eval s = .slice A l.length c) (ex : a.eval x = .slice A2 l2.length c2)
    (h : Sl numE w A c l) (h2 : Rd numE w A2 c2 l2) (hm : l.length + l2.length ≤ 17592186044416)
    (hK : ∀ A' c' L w', Hid (L = l ++ l2) → Sl numE w' A' c' L → Touch (fun k => A.map Addr.block = some k) w w' → (A'.map Addr.block = A.map Addr.block ∨ A'.map Addr.block = some w.heap.size) →
      K (a.put o.dst (.slice A' L.length c')) w') : if Region.wanted o (yielded ops a.tmps) = true then Oper.wp Tryd.prog o a w K Q else F := by
  obtain ⟨i0, hi, hz0, hz1, hz2⟩ := info_parts Tryd.infoNum
  exact step_app numE hgd ho i0 Tryd.underlying30 hi hz0 hz1 hz2 es ex h h2 (by simp only [maxLen]; omega) (by show _ * 4 ≤ _; omega) hK
end Go.Proofs.YtpifgpmjnjbecaaDoor

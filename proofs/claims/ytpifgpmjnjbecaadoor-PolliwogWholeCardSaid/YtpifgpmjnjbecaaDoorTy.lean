/-
  The element types of this seat's slices.
-/
import Derived.Test.YtpifgpmjnjbecaaDoorRows
import Derived.Test.YtpifgpmjnjbecaaDoorMem
namespace Go.Proofs.YtpifgpmjnjbecaaDoor
open Go.RowKit

def intE : El Int := { e := 3, size := 1, bytes := 8, zero := .int .i64 0, zel := 0, enc := fun x => [.int .i64 x], len := fun _ => rfl, one := by simp [Value.oneCell'], pos := by decide, zsize := rfl, zenc := rfl }
theorem Tryd.infoInt : (Tryd.prog.info? 3).map (fun i => (i.zero, i.size, i.bytes)) = some (some (.int .i64 0), 1, 8) := by kernel_rfl
theorem intE_all (l : List Int) : intE.all l = l.map (Value.int .i64) := by
  unfold El.all intE
  induction l with
  | nil => rfl
  | cons a l ih => simp only [List.flatMap_cons, List.map_cons, ih]; rfl
theorem Sl.int_at {w : World} {A : Option Addr} {c : Nat} {l : List Int} (h : Sl intE w A c l) (k : Nat) (hk : k < l.length) : ∃ g o, A = some ⟨g, o, none⟩ ∧ g < w.heap.size ∧ w.cell? ⟨g, o + k, none⟩ = some (.int .i64 (l.getD k 0)) := by
  obtain ⟨g, o, hA, hg, hc⟩ := h.at_ k hk
  refine ⟨g, o, hA, hg, ?_⟩
  have := hc 0 (.int .i64 (l.getD k 0)) (by simp [intE, List.getD, List.getElem?_eq_getElem hk])
  simpa [intE] using this
theorem Rd.int_at {w : World} {A : Option Addr} {c : Nat} {l : List Int} (h : Rd intE w A c l) (k : Nat) (hk : k < l.length) : ∃ g o, A = some ⟨g, o, none⟩ ∧ g < w.heap.size ∧ w.cell? ⟨g, o + k, none⟩ = some (.int .i64 (l.getD k 0)) := by
  obtain ⟨g, o, hA, hg, hc⟩ := h.at_ k hk
  refine ⟨g, o, hA, hg, ?_⟩
  have := hc 0 (.int .i64 (l.getD k 0)) (by simp [intE, List.getD, List.getElem?_eq_getElem hk])
  simpa [intE] using this
theorem app_int {ops : Array Oper} {rest : List Oper} {o : Oper} {a : Act} {Q : Exit → Act → World → Prop} {w : World} (hgd : o.guard = none) {s x : Operand}
    (ho : o.op = .call { callee := .builtin .append, args := #[s, x], argTypes := #[34, 34] })
    {A A2 : Option Addr} {c c2 : Nat} {l l2 : List Int} (es : a.eval s = .slice A l.length c) (ex : a.eval x = .slice A2 l2.length c2)
    (h : Sl intE w A c l) (h2 : Rd intE w A2 c2 l2) (hm : l.length + l2.length ≤ 17592186044416)
    (hK : ∀ A' c' L w', Hid (L = l ++ l2) → Sl intE w' A' c' L → Touch (fun k => A.map Addr.block = some k) w w' → (A'.map Addr.block = A.map Addr.block ∨ A'.map Addr.block = some w.heap.size) →
      wpList Tryd.prog ops Q rest (a.put o.dst (.slice A' L.length c')) w') : wpList Tryd.prog ops Q (o :: rest) a w := by
  obtain ⟨i0, hi, hz0, hz1, hz2⟩ := info_parts Tryd.infoInt
  exact wpList_app intE hgd ho i0 Tryd.underlying34 hi hz0 hz1 hz2 es ex h h2 (by simp only [maxLen]; omega) (by show _ * 8 ≤ _; omega) hK

def strE : El ByteArray := { e := 9, size := 1, bytes := 16, zero := .string ByteArray.empty, zel := ByteArray.empty, enc := fun x => [.string x], len := fun _ => rfl, one := by simp [Value.oneCell'], pos := by decide, zsize := rfl, zenc := rfl }
theorem Tryd.infoStr : (Tryd.prog.info? 9).map (fun i => (i.zero, i.size, i.bytes)) = some (some (.string ByteArray.empty), 1, 16) := by kernel_rfl
theorem Sl.str_at {w : World} {A : Option Addr} {c : Nat} {l : List ByteArray} (h : Sl strE w A c l) (k : Nat) (hk : k < l.length) : ∃ g o, A = some ⟨g, o, none⟩ ∧ g < w.heap.size ∧ w.cell? ⟨g, o + k, none⟩ = some (.string (l.getD k ByteArray.empty)) := by
  obtain ⟨g, o, hA, hg, hc⟩ := h.at_ k hk
  refine ⟨g, o, hA, hg, ?_⟩
  have := hc 0 (.string (l.getD k ByteArray.empty)) (by simp [strE, List.getD, List.getElem?_eq_getElem hk])
  simpa [strE] using this
theorem Rd.str_at {w : World} {A : Option Addr} {c : Nat} {l : List ByteArray} (h : Rd strE w A c l) (k : Nat) (hk : k < l.length) : ∃ g o, A = some ⟨g, o, none⟩ ∧ g < w.heap.size ∧ w.cell? ⟨g, o + k, none⟩ = some (.string (l.getD k ByteArray.empty)) := by
  obtain ⟨g, o, hA, hg, hc⟩ := h.at_ k hk
  refine ⟨g, o, hA, hg, ?_⟩
  have := hc 0 (.string (l.getD k ByteArray.empty)) (by simp [strE, List.getD, List.getElem?_eq_getElem hk])
  simpa [strE] using this
theorem app_str {ops : Array Oper} {rest : List Oper} {o : Oper} {a : Act} {Q : Exit → Act → World → Prop} {w : World} (hgd : o.guard = none) {s x : Operand}
    (ho : o.op = .call { callee := .builtin .append, args := #[s, x], argTypes := #[110, 110] })
    {A A2 : Option Addr} {c c2 : Nat} {l l2 : List ByteArray} (es : a.eval s = .slice A l.length c) (ex : a.eval x = .slice A2 l2.length c2)
    (h : Sl strE w A c l) (h2 : Rd strE w A2 c2 l2) (hm : l.length + l2.length ≤ 8796093022208)
    (hK : ∀ A' c' L w', Hid (L = l ++ l2) → Sl strE w' A' c' L → Touch (fun k => A.map Addr.block = some k) w w' → (A'.map Addr.block = A.map Addr.block ∨ A'.map Addr.block = some w.heap.size) →
      wpList Tryd.prog ops Q rest (a.put o.dst (.slice A' L.length c')) w') : wpList Tryd.prog ops Q (o :: rest) a w := by
  obtain ⟨i0, hi, hz0, hz1, hz2⟩ := info_parts Tryd.infoStr
  exact wpList_app strE hgd ho i0 Tryd.underlying110 hi hz0 hz1 hz2 es ex h h2 (by simp only [maxLen]; omega) (by show _ * 16 ≤ _; omega) hK
theorem stp_int {ops : Array Oper} {o : Oper} {a : Act} {K : Act → World → Prop} {Q : Exit → Act → World → Prop} {F : Prop} {w : World} (hgd : o.guard = none) {s x : Operand}
    (ho : o.op = .call { callee := .builtin .append, args := #[s, x], argTypes := #[34, 34] })
    {A A2 : Option Addr} {c c2 : Nat} {l l2 : List Int} (es : a.eval s = .slice A l.length c) (ex : a.eval x = .slice A2 l2.length c2)
    (h : Sl intE w A c l) (h2 : Rd intE w A2 c2 l2) (hm : l.length + l2.length ≤ 17592186044416)
    (hK : ∀ A' c' L w', Hid (L = l ++ l2) → Sl intE w' A' c' L → Touch (fun k => A.map Addr.block = some k) w w' → (A'.map Addr.block = A.map Addr.block ∨ A'.map Addr.block = some w.heap.size) →
      K (a.put o.dst (.slice A' L.length c')) w') : if Region.wanted o (yielded ops a.tmps) = true then Oper.wp Tryd.prog o a w K Q else F := by
  obtain ⟨i0, hi, hz0, hz1, hz2⟩ := info_parts Tryd.infoInt
  exact step_app intE hgd ho i0 Tryd.underlying34 hi hz0 hz1 hz2 es ex h h2 (by simp only [maxLen]; omega) (by show _ * 8 ≤ _; omega) hK
theorem stp_str {ops : Array Oper} {o : Oper} {a : Act} {K : Act → World → Prop} {Q : Exit → Act → World → Prop} {F : Prop} {w : World} (hgd : o.guard = none) {s x : Operand}
    (ho : o.op = .call { callee := .builtin .append, args := #[s, x], argTypes := #[110, 110] })
    {A A2 : Option Addr} {c c2 : Nat} {l l2 : List ByteArray} (es : a.eval s = .slice A l.length c) (ex : a.eval x = .slice A2 l2.length c2)
    (h : Sl strE w A c l) (h2 : Rd strE w A2 c2 l2) (hm : l.length + l2.length ≤ 8796093022208)
    (hK : ∀ A' c' L w', Hid (L = l ++ l2) → Sl strE w' A' c' L → Touch (fun k => A.map Addr.block = some k) w w' → (A'.map Addr.block = A.map Addr.block ∨ A'.map Addr.block = some w.heap.size) →
      K (a.put o.dst (.slice A' L.length c')) w') : if Region.wanted o (yielded ops a.tmps) = true then Oper.wp Tryd.prog o a w K Q else F := by
  obtain ⟨i0, hi, hz0, hz1, hz2⟩ := info_parts Tryd.infoStr
  exact step_app strE hgd ho i0 Tryd.underlying110 hi hz0 hz1 hz2 es ex h h2 (by simp only [maxLen]; omega) (by show _ * 16 ≤ _; omega) hK
theorem mk_int {ops : Array Oper} {rest : List Oper} {o : Oper} {a : Act} {Q : Exit → Act → World → Prop} {w : World} (hgd : o.guard = none) {x y : Operand} (ho : o.op = Op.makeSlice 34 x y)
    (n : Nat) {kx ky : IntKind} (ex : a.eval x = .int kx n) (ey : a.eval y = .int ky n) (hm : n ≤ 17592186044416)
    (hK : ∀ L w', Hid (L = List.replicate n intE.zel) → Hid (L.length = n) → Sl intE w' (some ⟨w.heap.size, 0, none⟩) n L → Fresh w w' →
      wpList Tryd.prog ops Q rest (a.put o.dst (.slice (some ⟨w.heap.size, 0, none⟩) n n)) w') : wpList Tryd.prog ops Q (o :: rest) a w := by
  obtain ⟨i0, hi, hz0, hz1, hz2⟩ := info_parts Tryd.infoInt
  exact wpList_mk intE hgd ho i0 Tryd.underlying34 hi hz0 hz1 hz2 n ex ey (by simp only [maxLen]; omega) (by show 8 * n ≤ _; omega) hK
theorem cp_int {ops : Array Oper} {rest : List Oper} {o : Oper} {a : Act} {Q : Exit → Act → World → Prop} {w : World} (hgd : o.guard = none) {x y : Operand}
    (ho : o.op = .call { callee := .builtin .copy, args := #[x, y], argTypes := #[34, 34] })
    {A A2 : Option Addr} {c c2 n n2 : Nat} {l l2 : List Int} (ex : a.eval x = .slice A n c) (ey : a.eval y = .slice A2 n2 c2) (hn : Hid (l.length = n)) (hn2 : Hid (l2.length = n2)) (h : Sl intE w A c l) (h2 : Rd intE w A2 c2 l2)
    (hK : ∀ L w', Hid (L = l2.take l.length ++ l.drop l2.length) → Hid (L.length = n) → Sl intE w' A c L → Touch (fun k => A.map Addr.block = some k) w w' →
      wpList Tryd.prog ops Q rest (a.put o.dst (.int .i64 (Nat.min n2 n))) w') : wpList Tryd.prog ops Q (o :: rest) a w := by
  obtain ⟨i0, hi, _, hz1, _⟩ := info_parts Tryd.infoInt
  exact wpList_cpn intE hgd ho i0 Tryd.underlying34 hi hz1 ex ey hn hn2 h h2 hK
theorem mk_str {ops : Array Oper} {rest : List Oper} {o : Oper} {a : Act} {Q : Exit → Act → World → Prop} {w : World} (hgd : o.guard = none) {x y : Operand} (ho : o.op = Op.makeSlice 110 x y)
    (n : Nat) {kx ky : IntKind} (ex : a.eval x = .int kx n) (ey : a.eval y = .int ky n) (hm : n ≤ 8796093022208)
    (hK : ∀ L w', Hid (L = List.replicate n strE.zel) → Hid (L.length = n) → Sl strE w' (some ⟨w.heap.size, 0, none⟩) n L → Fresh w w' →
      wpList Tryd.prog ops Q rest (a.put o.dst (.slice (some ⟨w.heap.size, 0, none⟩) n n)) w') : wpList Tryd.prog ops Q (o :: rest) a w := by
  obtain ⟨i0, hi, hz0, hz1, hz2⟩ := info_parts Tryd.infoStr
  exact wpList_mk strE hgd ho i0 Tryd.underlying110 hi hz0 hz1 hz2 n ex ey (by simp only [maxLen]; omega) (by show 16 * n ≤ _; omega) hK
theorem cp_str {ops : Array Oper} {rest : List Oper} {o : Oper} {a : Act} {Q : Exit → Act → World → Prop} {w : World} (hgd : o.guard = none) {x y : Operand}
    (ho : o.op = .call { callee := .builtin .copy, args := #[x, y], argTypes := #[110, 110] })
    {A A2 : Option Addr} {c c2 n n2 : Nat} {l l2 : List ByteArray} (ex : a.eval x = .slice A n c) (ey : a.eval y = .slice A2 n2 c2) (hn : Hid (l.length = n)) (hn2 : Hid (l2.length = n2)) (h : Sl strE w A c l) (h2 : Rd strE w A2 c2 l2)
    (hK : ∀ L w', Hid (L = l2.take l.length ++ l.drop l2.length) → Hid (L.length = n) → Sl strE w' A c L → Touch (fun k => A.map Addr.block = some k) w w' →
      wpList Tryd.prog ops Q rest (a.put o.dst (.int .i64 (Nat.min n2 n))) w') : wpList Tryd.prog ops Q (o :: rest) a w := by
  obtain ⟨i0, hi, _, hz1, _⟩ := info_parts Tryd.infoStr
  exact wpList_cpn strE hgd ho i0 Tryd.underlying110 hi hz1 ex ey hn hn2 h h2 hK
end Go.Proofs.YtpifgpmjnjbecaaDoor

/-
  polliwoglaw03: the arguments opened, the fixed fact, and SpanOf, SpanTwo.
-/
import Derived.Test.YtlfapnapkdnldaaFew
import Derived.Test.YtlfapnapkdnldaaSpanA
import Derived.Test.YtlfapnapkdnldaaSpanG
import Derived.Test.YtlfapnapkdnldaaSpanH
import Derived.Test.YtlfapnapkdnldaaIs03
import Derived.Test.YtlfapnapkdnldaaOpen
namespace Go.Proofs.Ytlfapnapkdnldaa
open Go.RowKit Go.ChangeShapes Go.WideShapes Go.ChangeAt

theorem dec_span {H : Type} {enc : TypeId × Value → H} {W : World} (n : Nat) (cs : List Value) (y : DataW H × List MemPlace) (hy : DataW.trod enc Try.prog W 0 (fun _ => true) true n spanE.e cs = some y) : ∃ a, cs = spanE.enc a ∧ True := by
  obtain ⟨hl, m, hf⟩ := open_fields Try.underlying45 (by kernel_rfl) (by kernel_rfl) hy
  match cs, hl with
  | [a0, a1], _ =>
    obtain ⟨y0, f0⟩ := hf 0 _ rfl
    obtain ⟨y1, f1⟩ := hf 1 _ rfl
    obtain ⟨x0, e0, _, _⟩ := DataW.trod_int Try.underlying3 f0
    obtain ⟨x1, e1, _, _⟩ := DataW.trod_int Try.underlying3 f1
    simp at e0 e1
    subst e0 e1
    exact ⟨(x0, x1), rfl, trivial⟩
theorem open_spans {H : Type} {enc : TypeId × Value → H} {W : World} {base : Nat} {v : Value} {d : DataW H} {p : List MemPlace} (hv : Value.okWide Try.prog W .any base 23 v) (h : DataW.Trod enc Try.prog W 0 (fun _ => true) true 23 v d p) :
    ∃ A c l, v = .slice A l.length c ∧ Rd spanE W A c l := by
  obtain ⟨A, c, l, e, hr, _⟩ := open_rd spanE Try.underlying23 (by kernel_rfl) (Good := fun _ => True) dec_span hv h
  exact ⟨A, c, l, e, hr⟩
theorem open_span {H : Type} {enc : TypeId × Value → H} {W : World} {base : Nat} {v : Value} {d : DataW H} {p : List MemPlace} (hv : Value.okWide Try.prog W .any base 45 v) (h : DataW.Trod enc Try.prog W 0 (fun _ => true) true 45 v d p) :
    ∃ x : Int × Int, v = .agg #[.int .i64 x.1, .int .i64 x.2] := by
  obtain ⟨cs, rfl, _⟩ := okWide_struct Try.underlying45 hv
  obtain ⟨n, hn⟩ := h
  obtain ⟨x, hx, _⟩ := dec_span n _ _ hn
  refine ⟨x, ?_⟩
  have : cs.toList = [.int .i64 x.1, .int .i64 x.2] := hx
  rw [← Array.toArray_toList (xs := cs), this]

theorem app_span_g {T : TypeId} (hT : Try.prog.underlying T = some (.slice 45)) {ops : Array Oper} {rest : List Oper} {o : Oper} {a : Act} {Q : Exit → Act → World → Prop} {w : World} (hw : Region.wanted o (yielded ops a.tmps) = true) {s x : Operand}
    (ho : o.op = .call { callee := .builtin .append, args := #[s, x], argTypes := #[T, T] })
    {A A2 : Option Addr} {c c2 : Nat} {l l2 : List (Int × Int)} (es : a.eval s = .slice A l.length c) (ex : a.eval x = .slice A2 l2.length c2)
    (h : Sl spanE w A c l) (h2 : Rd spanE w A2 c2 l2) (hm : l.length + l2.length ≤ 8796093022208)
    (hK : ∀ A' c' L w', Hid (L = l ++ l2) → Sl spanE w' A' c' L → Touch (fun k => A.map Addr.block = some k) w w' → (A'.map Addr.block = A.map Addr.block ∨ A'.map Addr.block = some w.heap.size) →
      wpList Try.prog ops Q rest (a.put o.dst (.slice A' L.length c')) w') : wpList Try.prog ops Q (o :: rest) a w := by
  obtain ⟨i0, hi, hz0, hz1, hz2⟩ := info_parts Try.infoSpan
  exact wpList_step fun K hk => by
    rw [if_pos hw]
    exact wp_app spanE ho i0 hT hi hz0 hz1 hz2 es ex h h2 (by simp only [maxLen]; omega) (by show _ * 16 ≤ _; omega) fun A' c' L w' a1 a2 a3 a4 => hk _ _ (hK A' c' L w' a1 a2 a3 a4)

theorem setSame_any (A : Option Addr) (c : Nat) (l : List (Int × Int)) (B : Option Addr) (d : Nat) (m : List (Int × Int)) (w : World) (h : Rd spanE w A c l) (h2 : Rd spanE w B d m) :
    Calls Try.prog 25 #[.slice A l.length c, .slice B m.length d] w fun e w' => e = .returned (.bool (decide (l = m))) ∧ Fresh w w' := by
  have HC := Lib.hid (equal_any A c l B d m w h h2)
  clear h h2
  generalize decide (l = m) = b at *
  go_enter Try.func25, Try.ntmps25
  go_wp2_with fail
  refine HC.out.mono ?_
  rintro e w2 ⟨rfl, f2⟩
  go_wp2
  go_ret
  exact ⟨rfl, f2⟩

theorem awake03 (w : World) : Calls Try.prog 21 #[] w fun e w' => e = .returned (.bool true) ∧ Fresh w w' := by
  go_enter Try.func21, Try.ntmps21
  go_wp2_with fail
  refine (of_any _ 3 [(5, 7), (1, 3), (6, 9)] _ (Sl.rd (Sl.lit spanE w _ rfl #[.int .i64 5, .int .i64 7, .int .i64 1, .int .i64 3, .int .i64 6, .int .i64 9] [(5, 7), (1, 3), (6, 9)] rfl 3 rfl (by decide))) (by decide)).mono ?_
  rintro e w2 ⟨B, d, S, rfl, M2, hof, _⟩
  obtain rfl : S = [(1, 3), (5, 9)] := Sp.Canon.uniq hof.1 ⟨by simp, by simp⟩ (fun n => by
    rw [hof.mem]
    simp only [List.mem_cons, List.not_mem_nil, or_false, exists_eq_or_imp, exists_eq_left, show Sp.near (5, 7) = (5, 7) by decide, show Sp.near (1, 3) = (1, 3) by decide, show Sp.near (6, 9) = (6, 9) by decide, Sp.In, Sp.mem_cons, Sp.mem_nil]
    omega)
  have HM := Lib.hid M2
  have HF : Hid (Fresh w w2) := ((Touch.refl _ w).alloc _).trans M2.fresh (fun _ _ h => h)
  have HL := Lib.hid (len_any B d _ w2 M2.sl.rd hof.good)
  obtain ⟨g, o, rfl, _, c0, c1⟩ := M2.sl.span_at 0 (by decide)
  obtain ⟨g2, o2, e2, _, c2, c3⟩ := M2.sl.span_at 1 (by decide)
  cases e2
  simp at c0 c1 c2 c3
  clear M2 hof
  simp only [List.length_cons, List.length_nil] at HL ⊢
  go_wp2_with fail
  refine HL.out.mono ?_
  rintro e w3 ⟨rfl, f3⟩
  have F3 := Lib.hid (HF.out.trans f3 (fun _ _ h => h))
  rw [show ((Sp.nums [(1, 3), (5, 9)]).length : Int) = 6 by decide]
  clear f3 c0 c1 c2 c3
  go_wp2
  go_ret
  exact ⟨rfl, F3.out⟩
end Go.Proofs.Ytlfapnapkdnldaa

/-
  span: Add: a set with one span.
-/
import Derived.Test.YtlfapnapkdnldaaSpanB
import Derived.Test.YtlfapnapkdnldaaSpanD
namespace Go.Proofs.Ytlfapnapkdnldaa
open Go.RowKit

theorem stp_span {T : TypeId} (hT : Try.prog.underlying T = some (.slice 45)) {ops : Array Oper} {o : Oper} {a : Act} {K : Act → World → Prop} {Q : Exit → Act → World → Prop} {F : Prop} {w : World} (hgd : o.guard = none) {s x : Operand}
    (ho : o.op = .call { callee := .builtin .append, args := #[s, x], argTypes := #[T, T] })
    {A A2 : Option Addr} {c c2 : Nat} {l l2 : List (Int × Int)} (es : a.eval s = .slice A l.length c) (ex : a.eval x = .slice A2 l2.length c2)
    (h : Sl spanE w A c l) (h2 : Rd spanE w A2 c2 l2) (hm : l.length + l2.length ≤ 8796093022208)
    (hK : ∀ A' c' L w', Hid (L = l ++ l2) → Sl spanE w' A' c' L → Touch (fun k => A.map Addr.block = some k) w w' → (A'.map Addr.block = A.map Addr.block ∨ A'.map Addr.block = some w.heap.size) →
      K (a.put o.dst (.slice A' L.length c')) w') : if Region.wanted o (yielded ops a.tmps) = true then Oper.wp Try.prog o a w K Q else F := by
  obtain ⟨i0, hi, hz0, hz1, hz2⟩ := info_parts Try.infoSpan
  exact step_app spanE hgd ho i0 hT hi hz0 hz1 hz2 es ex h h2 (by simp only [maxLen]; omega) (by show _ * 16 ≤ _; omega) hK

def AddPost (s : List (Int × Int)) (x : Int × Int) (w : World) (e : Ending) (w' : World) : Prop :=
  ∃ B d S, e = .returned (.slice B S.length d) ∧ Mine spanE w w' B d S ∧ Sp.Good S ∧ ∀ n, Sp.mem S n ↔ Sp.mem s n ∨ Sp.In (Sp.near x) n

set_option maxHeartbeats 4000000 in
set_option maxRecDepth 4000 in
theorem add_any (A : Option Addr) (c : Nat) (s : List (Int × Int)) (x : Int × Int) (w : World) (h : Rd spanE w A c s) (hg : Sp.Good s) (hl : s.length ≤ 1000000) :
    Calls Try.prog 27 #[.slice A s.length c, .agg #[.int .i64 x.1, .int .i64 x.2]] w (AddPost s x w) := by
  have hlc := h.1
  have hcm := h.2.1
  unfold maxLen at hcm
  have H := Lib.hid h
  clear h
  obtain ⟨x1, x2⟩ := x
  simp only
  have B1 := Lib.hid (Blk.new w 45 [.int .i64 x1, .int .i64 x2])
  have T1 : Hid (Fresh w (w.alloc (.cells #[.int .i64 x1, .int .i64 x2] 45))) := (Touch.refl _ w).alloc _
  go_enter Try.func27, Try.ntmps27
  go_upto_region 1 with (fail)
  have hn1' : w.heap.size < (w.alloc (.cells #[.int .i64 x1, .int .i64 x2] 45)).heap.size := B1.out.lt
  generalize w.alloc (.cells #[.int .i64 x1, .int .i64 x2] 45) = w1 at *
  have e0 : w1.cell? ⟨w.heap.size, 0, none⟩ = some (.int .i64 x1) := B1.out.cell 0
  have e1 : w1.cell? ⟨w.heap.size, 1, none⟩ = some (.int .i64 x2) := B1.out.cell 1
  have R1 : Hid (Rd spanE w1 A c s) := H.out.touch T1.out (fun _ _ _ h => h)
  have hl1 : s.length ≤ 1099511627776 := by omega
  go_region_law (first
    | (go_simp; go_at_call 53; refine (clone_any A c s _ (by first | exact R1.out | exact R1.out.alloc _) hl1).mono ?_; rintro e w2 ⟨B2, d2, rfl, M2⟩; have b0 : w2.cell? ⟨w.heap.size, 0, none⟩ = some (.int .i64 x1) := (by first | exact (M2.fresh.blk B1.out (fun h => h)).cell 0 | exact (M2.fresh.blk (B1.out.alloc _) (fun h => h)).cell 0); have b1 : w2.cell? ⟨w.heap.size, 1, none⟩ = some (.int .i64 x2) := (by first | exact (M2.fresh.blk B1.out (fun h => h)).cell 1 | exact (M2.fresh.blk (B1.out.alloc _) (fun h => h)).cell 1))
    | (refine stp_span Try.underlying28 rfl rfl (l := s) (l2 := [(x1, x2)]) rfl rfl (by first | exact M2.sl | exact M2.sl.alloc _) (by first | exact Sl.rd (Sl.lit spanE _ _ rfl #[.int .i64 x1, .int .i64 x2] [(x1, x2)] rfl 1 rfl (by decide)) | exact M2.keepsR (Sl.rd (Sl.lit spanE _ _ rfl #[.int .i64 x1, .int .i64 x2] [(x1, x2)] rfl 1 rfl (by decide)))) (by simp; omega) ?_; intro B3 d3 L3 w3 hL3 hs3 ht3 hB3)
    | (go_simp; go_at_call 16; refine (of_any B3 d3 L3 _ (by exact hs3.rd) (by rw [hL3.out]; simp; omega)).mono ?_; rintro e w4 ⟨B4, d4, S4, rfl, M4, hof, _⟩))
  all_goals
    have F3 : Hid (Fresh w w3) := by
      first
        | exact T1.out.drew.trans ((M2.alloc _).app hs3 ht3 hB3).fresh (fun _ _ h => h)
        | exact (T1.out.drew.alloc _).trans (M2.app hs3 ht3 hB3).fresh (fun _ _ h => h)
        | exact (T1.out.alloc _).drew.trans (M2.app hs3 ht3 hB3).fresh (fun _ _ h => h)
    have MR := Lib.hid (M4.back F3.out)
    have HG := Lib.hid hof.good
    have HME : Hid (∀ n, Sp.mem S4 n ↔ Sp.mem s n ∨ Sp.In (Sp.near (x1, x2)) n) := fun n => by
      rw [hof.mem, hL3.out, hg.isOf.mem]
      simp [or_and_right, exists_or]
    clear M4 hof F3 hs3 ht3 hB3 M2 b0 b1
    go_wp2
    go_ret
    exact ⟨B4, d4, S4, rfl, MR.out, HG.out, HME.out⟩
end Go.Proofs.Ytlfapnapkdnldaa

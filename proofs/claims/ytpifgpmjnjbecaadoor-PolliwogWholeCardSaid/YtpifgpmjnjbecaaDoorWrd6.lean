/-
  pdu: fixed, words: how many words a unit has, and which.
-/
import Derived.Test.YtpifgpmjnjbecaaDoorPv6
import Derived.Test.YtpifgpmjnjbecaaDoorWd6
import Derived.Test.YtpifgpmjnjbecaaDoorMine
namespace Go.Proofs.YtpifgpmjnjbecaaDoor
open Go.RowKit

theorem ret_int6 {k : IntKind} {a b : Int} (h : a = b) : Ending.returned (.int k a) = .returned (.int k b) := by rw [h]
namespace Wh
def one (b : Bool) : Int := if b then 1 else 0
def fixedS (s : Sh) : Int := 1 + (one s.sq + one s.ps + one s.mr) + max s.list 0
end Wh

set_option maxRecDepth 10000 in
set_option maxHeartbeats 2000000 in
theorem fixed6_any (s : Wh.Sh) (w : World) (h0 : -1 ≤ s.list) (h1 : s.list ≤ 2) : Calls Tryd.prog 36 #[shV s] w fun e w' => e = .returned (.int .i64 (Wh.fixedS s)) ∧ Fresh w w' := by
  have HE : Hid (Wh.fixedS s = 1 + (Wh.one s.sq + Wh.one s.ps + Wh.one s.mr) + max s.list 0) := rfl
  generalize Wh.fixedS s = R at *
  obtain ⟨sd, ssq, sn, sl, sps, smr, sself, sis⟩ := s
  simp only at h0 h1 HE
  unfold shV
  have HB : Hid (Blk (w.alloc (.cells #[.int .i64 sd, .bool ssq, .bool sn, .int .i64 sl, .bool sps, .bool smr, .bool sself, .bool sis] 61)) w.heap.size 61 [.int .i64 sd, .bool ssq, .bool sn, .int .i64 sl, .bool sps, .bool smr, .bool sself, .bool sis]) := Blk.new _ _ _
  have HF : Hid (Fresh w (w.alloc (.cells #[.int .i64 sd, .bool ssq, .bool sn, .int .i64 sl, .bool sps, .bool smr, .bool sself, .bool sis] 61))) := (Touch.refl _ w).alloc _
  go_enter Tryd.func36, Tryd.ntmps36
  go_wp2
  generalize (w.alloc (.cells #[.int .i64 sd, .bool ssq, .bool sn, .int .i64 sl, .bool sps, .bool smr, .bool sself, .bool sis] 61)) = w1 at *
  have s1 : w1.cell? ⟨w.heap.size, 1, none⟩ = some (.bool ssq) := HB.out.cell 1
  have s3 : w1.cell? ⟨w.heap.size, 3, none⟩ = some (.int .i64 sl) := HB.out.cell 3
  have s4 : w1.cell? ⟨w.heap.size, 4, none⟩ = some (.bool sps) := HB.out.cell 4
  have s5 : w1.cell? ⟨w.heap.size, 5, none⟩ = some (.bool smr) := HB.out.cell 5
  have HBT : Hid (∀ W, Calls Tryd.prog 28 #[.bool true] W fun e w' => e = .returned (.int .u32 1) ∧ w' = W) := fun W => (bit6_any true W).mono fun _ _ h => ⟨h.1, h.2.symm⟩
  have HBF : Hid (∀ W, Calls Tryd.prog 28 #[.bool false] W fun e w' => e = .returned (.int .u32 0) ∧ w' = W) := fun W => (bit6_any false W).mono fun _ _ h => ⟨h.1, h.2.symm⟩
  cases ssq <;> cases sps <;> cases smr
  all_goals
    go_quiet ((go_at_call 28; first | with_reducible exact Calls.quiet_of_same (HBT.out _) | with_reducible exact Calls.quiet_of_same (HBF.out _)))
    go_wp2
    all_goals
      go_ret
      exact ⟨ret_int6 (by rw [HE.out]; simp only [Wh.one]; simp; omega), HF.out.drewN _⟩

def u32E : El Int := { e := 25, size := 1, bytes := 4, zero := .int .u32 0, zel := 0, enc := fun x => [.int .u32 x], len := fun _ => rfl, one := by simp [Value.oneCell'], pos := by decide, zsize := rfl, zenc := rfl }
theorem Tryd.infoU32 : (Tryd.prog.info? 25).map (fun i => (i.zero, i.size, i.bytes)) = some (some (.int .u32 0), 1, 4) := by kernel_rfl
theorem Sl.u32_at {w : World} {A : Option Addr} {c : Nat} {l : List Int} (h : Sl u32E w A c l) (k : Nat) (hk : k < l.length) : ∃ g o, A = some ⟨g, o, none⟩ ∧ g < w.heap.size ∧ w.cell? ⟨g, o + k, none⟩ = some (.int .u32 (l.getD k 0)) := by
  obtain ⟨g, o, hA, hg, hc⟩ := h.at_ k hk
  refine ⟨g, o, hA, hg, ?_⟩
  have := hc 0 (.int .u32 (l.getD k 0)) (by simp [u32E, List.getD, List.getElem?_eq_getElem hk])
  simpa [u32E] using this
theorem app_u32 {ops : Array Oper} {rest : List Oper} {o : Oper} {a : Act} {Q : Exit → Act → World → Prop} {w : World} (hgd : o.guard = none) {s x : Operand}
    (ho : o.op = .call { callee := .builtin .append, args := #[s, x], argTypes := #[73, 73] })
    {A A2 : Option Addr} {c c2 : Nat} {l l2 : List Int} (es : a.eval s = .slice A l.length c) (ex : a.eval x = .slice A2 l2.length c2)
    (h : Sl u32E w A c l) (h2 : Rd u32E w A2 c2 l2) (hm : l.length + l2.length ≤ 17592186044416)
    (hK : ∀ A' c' L w', Hid (L = l ++ l2) → Sl u32E w' A' c' L → Touch (fun k => A.map Addr.block = some k) w w' → (A'.map Addr.block = A.map Addr.block ∨ A'.map Addr.block = some w.heap.size) →
      wpList Tryd.prog ops Q rest (a.put o.dst (.slice A' L.length c')) w') : wpList Tryd.prog ops Q (o :: rest) a w := by
  obtain ⟨i0, hi, hz0, hz1, hz2⟩ := info_parts Tryd.infoU32
  exact wpList_app u32E hgd ho i0 Tryd.underlying73 hi hz0 hz1 hz2 es ex h h2 (by simp only [maxLen]; omega) (by show _ * 4 ≤ _; omega) hK
theorem Mine.snoc32 {W w : World} {A : Option Addr} {c : Nat} {L : List Int} (h : Mine u32E W w A c L) (x : Int) : Mine u32E W (w.alloc (.cells #[.int .u32 x] 25)) A c L ∧ Rd u32E (w.alloc (.cells #[.int .u32 x] 25)) (some ⟨w.heap.size, 0, none⟩) 1 [x] :=
  ⟨h.alloc _, (Sl.lit u32E w _ rfl #[.int .u32 x] [x] rfl 1 rfl (by unfold maxLen; omega)).rd⟩
end Go.Proofs.YtpifgpmjnjbecaaDoor

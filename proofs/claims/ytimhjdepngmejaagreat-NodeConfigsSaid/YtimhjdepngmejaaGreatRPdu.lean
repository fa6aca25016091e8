/-
  ring.Ring of units: New, Len, and a row of which nothing is taken. No conditions.
-/
import Derived.Test.YtimhjdepngmejaaGreatCn
import Derived.Test.YtimhjdepngmejaaGreatRingP
import Derived.RegionTactic
import Derived.ChangeAlike
import Derived.Deep.QuietTactic
import Derived.BigQuiet
namespace Go.Proofs.YtimhjdepngmejaaGreat
open Go.RowKit
set_option maxRecDepth 20000

/-- A row of units lies in block g, its slice in block b (if it has one): at most 'most', the elements q. -/
def RingPdu (w : World) (g : Nat) (b : Option Nat) (most : Nat) (q : List Cn.Pd) : Prop :=
  ∃ (A : Option Addr) (c a : Nat) (buf : List Cn.Pd), Blk w g 136 [.slice A buf.length c, .int .i64 a, .int .i64 q.length, .int .i64 most] ∧ Sl pduE w A c buf ∧ A.map Addr.block = b ∧
    buf.length ≤ most ∧ most ≤ 4096 ∧ Gone buf a q

section
variable {w w' : World} {g : Nat} {b : Option Nat} {most : Nat} {q : List Cn.Pd}
theorem RingPdu.touch {S : Nat → Prop} (h : RingPdu w g b most q) (ht : Touch S w w') (hg : ¬ S g) (hb : ∀ k, b = some k → ¬ S k) : RingPdu w' g b most q := by
  obtain ⟨A, c, a, buf, h1, h2, h3, h4⟩ := h
  refine ⟨A, c, a, buf, ht.blk h1 hg, h2.touch ht (fun ad ha => hb _ ?_), h3, h4⟩
  rw [← h3, ha]; rfl
theorem RingPdu.lt (h : RingPdu w g b most q) : g < w.heap.size := by obtain ⟨A, c, a, buf, h1, _⟩ := h; exact h1.lt
theorem RingPdu.ltb (h : RingPdu w g b most q) : ∀ k, b = some k → k < w.heap.size := by
  obtain ⟨A, c, a, buf, h1, h2, rfl, _⟩ := h
  intro k hk
  cases A with
  | none => cases hk
  | some ad => have := h2.lt ad rfl; simp at hk; omega
theorem RingPdu.len_le (h : RingPdu w g b most q) : q.length ≤ most ∧ most ≤ 4096 := by
  obtain ⟨A, c, a, buf, h1, h2, h3, h4, h5, h6⟩ := h
  exact ⟨Nat.le_trans h6.len h4, h5⟩
theorem RingPdu.ne (h : RingPdu w g b most q) : b ≠ some g := by
  obtain ⟨A, c, a, buf, h1, h2, rfl, _⟩ := h
  intro e
  cases A with
  | none => cases e
  | some ad => have := h2.blk_ne h1 (by decide) ad rfl; simp at e; exact this e
end

/-- New. -/
theorem ringPdu_new (n : Int) (w : World) :
    Calls Tryz.prog 26 #[.int .i64 n] w fun e w' => e = .returned (.pointer (some ⟨w.heap.size, 0, none⟩)) ∧ RingPdu w' w.heap.size none (max 0 (min n 4096)).toNat [] ∧ Fresh w w' := by
  have hmm : ∀ m : Int, 0 ≤ m → m ≤ 4096 → RingPdu (w.alloc (.cells #[.slice none 0 0, .int .i64 0, .int .i64 0, .int .i64 m] 136)) w.heap.size none m.toNat [] := fun m h0 h1 => by
    refine ⟨none, 0, 0, [], ?_, Sl.nil _ _, rfl, by simp, by omega, Gone.nil⟩
    have := Blk.new w 136 [.slice none 0 0, .int .i64 0, .int .i64 0, .int .i64 m]
    rw [Int.toNat_of_nonneg h0]
    exact this
  have HM := Lib.hid hmm
  clear hmm
  have hf : ∀ o, Hid (Fresh w (w.alloc o)) := fun o => (Touch.refl _ _).alloc _
  have HF := Lib.hid hf
  clear hf
  obtain ⟨m, hm⟩ : ∃ m, (if 4096 < n then (4096 : Int) else n) = m := ⟨_, rfl⟩
  obtain ⟨m', hm'⟩ : ∃ m', (if 0 < m then m else 0) = m' := ⟨_, rfl⟩
  have hx : Hid (max 0 (min n 4096) = m' ∧ 0 ≤ m' ∧ m' ≤ 4096) := by
    rw [← hm', ← hm]; refine ⟨?_, ?_, ?_⟩ <;> (split <;> (try split) <;> omega)
  go_enter Tryz.func26, Tryz.ntmps26
  go_wp2
  go_ret
  exact ⟨rfl, by rw [hx.out.1]; exact HM.out m' hx.out.2.1 hx.out.2.2, HF.out _⟩

section
variable {w w' : World} {g : Nat} {b : Option Nat} {most : Nat} {q : List Cn.Pd}
theorem RingPdu.same (h : RingPdu w g b most q) (he : w'.heap = w.heap) : RingPdu w' g b most q := by
  obtain ⟨A, c, a, buf, h1, h2, h3, h4⟩ := h
  exact ⟨A, c, a, buf, by unfold Blk at h1 ⊢; rw [he]; exact h1, h2.keep (fun _ _ => by rw [he]), h3, h4⟩
end

theorem ringPdu_len (g : Nat) (b : Option Nat) (most : Nat) (q : List Cn.Pd) (w : World) (h : RingPdu w g b most q) :
    Calls Tryz.prog 53 #[.pointer (some ⟨g, 0, none⟩)] w fun e w' => e = .returned (.int .i64 q.length) ∧ w' = w := by
  obtain ⟨A, c, a, buf, hb, _⟩ := h
  have c2 : w.cell? ⟨g, 2, none⟩ = some (.int .i64 q.length) := hb.cell 2
  go_enter Tryz.func53, Tryz.ntmps53
  go_wp2
  go_ret
  exact ⟨rfl, rfl⟩


theorem Blk.set8 {w : World} {g : Nat} {t : TypeId} {a0 a1 a2 a3 a4 a5 a6 a7 : Value} (h : Blk w g t [a0, a1, a2, a3, a4, a5, a6, a7]) (v0 v1 v2 v3 v4 v5 v6 v7 : Value) : Blk ((((((((w.setCell ⟨g, 0, none⟩ v0).setCell ⟨g, 1, none⟩ v1).setCell ⟨g, 2, none⟩ v2).setCell ⟨g, 3, none⟩ v3).setCell ⟨g, 4, none⟩ v4).setCell ⟨g, 5, none⟩ v5).setCell ⟨g, 6, none⟩ v6).setCell ⟨g, 7, none⟩ v7) g t [v0, v1, v2, v3, v4, v5, v6, v7] :=
  ((((((((h.set 0 v0).set 1 v1).set 2 v2).set 3 v3).set 4 v4).set 5 v5).set 6 v6).set 7 v7)
theorem Fresh.st8 {w w' : World} {g : Nat} (h : Fresh w w') (hg : w.heap.size ≤ g) (v0 v1 v2 v3 v4 v5 v6 v7 : Value) : Fresh w ((((((((w'.setCell ⟨g, 0, none⟩ v0).setCell ⟨g, 1, none⟩ v1).setCell ⟨g, 2, none⟩ v2).setCell ⟨g, 3, none⟩ v3).setCell ⟨g, 4, none⟩ v4).setCell ⟨g, 5, none⟩ v5).setCell ⟨g, 6, none⟩ v6).setCell ⟨g, 7, none⟩ v7) := by
  have k : ∀ i, (⟨g, i, none⟩ : Addr).block < w.heap.size → False := fun i e => by have e : g < w.heap.size := e; omega
  exact (((((((h.setCell (k 0) v0).setCell (k 1) v1).setCell (k 2) v2).setCell (k 3) v3).setCell (k 4) v4).setCell (k 5) v5).setCell (k 6) v6).setCell (k 7) v7

set_option maxHeartbeats 1000000 in
theorem ringPdu_first0 (g : Nat) (b : Option Nat) (most : Nat) (w : World) (h : RingPdu w g b most []) :
    Calls Tryz.prog 81 #[.pointer (some ⟨g, 0, none⟩)] w fun e w' => e = .returned (.tuple #[.agg #[.int .i64 0, .int .i64 0, .int .u32 0, .int .u32 0, .int .u32 0, .slice none 0 0, .bool false, .string ByteArray.empty], .int .i64 9]) ∧ Fresh w w' := by
  obtain ⟨A, c, a, buf, hb, _⟩ := h
  have c2 : w.cell? ⟨g, 2, none⟩ = some (.int .i64 0) := hb.cell 2
  have hlt := hb.lt
  go_enter Tryz.func81, Tryz.ntmps81
  go_wp2
  exact bodyPost_ret (v := _) (by simp [results, Tryz.results81, go_sem]; rfl) rfl ⟨rfl, ((Touch.refl _ _).alloc _).alloc _⟩
theorem ringPdu_take0 (g : Nat) (b : Option Nat) (most : Nat) (w : World) (h : RingPdu w g b most []) :
    Calls Tryz.prog 44 #[.pointer (some ⟨g, 0, none⟩)] w fun e w' => e = .returned (.tuple #[.agg #[.int .i64 0, .int .i64 0, .int .u32 0, .int .u32 0, .int .u32 0, .slice none 0 0, .bool false, .string ByteArray.empty], .int .i64 9]) ∧ Fresh w w' := by
  have HF := Lib.hid (fun W hW => ringPdu_first0 g b most W hW)
  have H := Lib.hid h
  clear h
  go_enter Tryz.func44, Tryz.ntmps44
  go_wp2_with fail
  refine (HF.out _ (H.out.touch ((Touch.refl (fun _ => False) _).alloc _) (fun e => e) (fun _ _ e => e))).mono ?_
  rintro e w1 ⟨rfl, f1⟩
  have B1 := f1.blk (Blk.new w 67 [.int .i64 0, .int .i64 0, .int .u32 0, .int .u32 0, .int .u32 0, .slice none 0 0, .bool false, .string ByteArray.empty]) (fun e => e)
  have F1 : Hid (Fresh w w1) := ((Touch.refl _ _).alloc _).trans f1 (fun _ _ e => e)
  obtain ⟨g2, hg2⟩ : ∃ g2, w.heap.size = g2 := ⟨_, rfl⟩
  rw [hg2] at B1 ⊢
  have c0 : ∀ o, (w1.alloc o).cell? ⟨g2, 0, none⟩ = some (.int .i64 0) := fun o => (B1.alloc o).cell 0
  have c1 : ∀ o, (w1.alloc o).cell? ⟨g2, 1, none⟩ = some (.int .i64 0) := fun o => (B1.alloc o).cell 1
  have c2 : ∀ o, (w1.alloc o).cell? ⟨g2, 2, none⟩ = some (.int .u32 0) := fun o => (B1.alloc o).cell 2
  have c3 : ∀ o, (w1.alloc o).cell? ⟨g2, 3, none⟩ = some (.int .u32 0) := fun o => (B1.alloc o).cell 3
  have c4 : ∀ o, (w1.alloc o).cell? ⟨g2, 4, none⟩ = some (.int .u32 0) := fun o => (B1.alloc o).cell 4
  have c5 : ∀ o, (w1.alloc o).cell? ⟨g2, 5, none⟩ = some (.slice none 0 0) := fun o => (B1.alloc o).cell 5
  have c6 : ∀ o, (w1.alloc o).cell? ⟨g2, 6, none⟩ = some (.bool false) := fun o => (B1.alloc o).cell 6
  have c7 : ∀ o, (w1.alloc o).cell? ⟨g2, 7, none⟩ = some (.string ByteArray.empty) := fun o => (B1.alloc o).cell 7
  have z0 : ∀ o, (w1.alloc o).frozen? ⟨g2, 0, none⟩ = false := fun o => (B1.alloc o).frozen 0
  have z1 : ∀ o, (w1.alloc o).frozen? ⟨g2, 1, none⟩ = false := fun o => (B1.alloc o).frozen 1
  have z2 : ∀ o, (w1.alloc o).frozen? ⟨g2, 2, none⟩ = false := fun o => (B1.alloc o).frozen 2
  have z3 : ∀ o, (w1.alloc o).frozen? ⟨g2, 3, none⟩ = false := fun o => (B1.alloc o).frozen 3
  have z4 : ∀ o, (w1.alloc o).frozen? ⟨g2, 4, none⟩ = false := fun o => (B1.alloc o).frozen 4
  have z5 : ∀ o, (w1.alloc o).frozen? ⟨g2, 5, none⟩ = false := fun o => (B1.alloc o).frozen 5
  have z6 : ∀ o, (w1.alloc o).frozen? ⟨g2, 6, none⟩ = false := fun o => (B1.alloc o).frozen 6
  have z7 : ∀ o, (w1.alloc o).frozen? ⟨g2, 7, none⟩ = false := fun o => (B1.alloc o).frozen 7
  have BF := Lib.hid ((B1.alloc (.cells #[.int .i64 0, .int .i64 0, .int .u32 0, .int .u32 0, .int .u32 0, .slice none 0 0, .bool false, .string ByteArray.empty] 67)).set8 (.int .i64 0) (.int .i64 0) (.int .u32 0) (.int .u32 0) (.int .u32 0) (.slice none 0 0) (.bool false) (.string ByteArray.empty))
  have FF := Lib.hid (Fresh.st8 (F1.out.alloc (.cells #[.int .i64 0, .int .i64 0, .int .u32 0, .int .u32 0, .int .u32 0, .slice none 0 0, .bool false, .string ByteArray.empty] 67)) (Nat.le_of_eq hg2) (.int .i64 0) (.int .i64 0) (.int .u32 0) (.int .u32 0) (.int .u32 0) (.slice none 0 0) (.bool false) (.string ByteArray.empty))
  clear f1 B1 hg2 HF H
  simp only
  go_wp2
  have e0 := BF.out.cell 0
  have e1 := BF.out.cell 1
  have e2 := BF.out.cell 2
  have e3 := BF.out.cell 3
  have e4 := BF.out.cell 4
  have e5 := BF.out.cell 5
  have e6 := BF.out.cell 6
  have e7 := BF.out.cell 7
  simp only [List.getElem?_cons_zero, List.getElem?_cons_succ] at e0 e1 e2 e3 e4 e5 e6 e7
  exact bodyPost_ret (v := _) (by simp [results, Tryz.results44, go_sem, e0, e1, e2, e3, e4, e5, e6, e7]) rfl ⟨rfl, FF.out⟩
end Go.Proofs.YtimhjdepngmejaaGreat

/-
  polliwoglaw15: ticks that may be; pace.New, pace.Clone.
-/
import Derived.Test.YtimhjdepngmejaaGreatPace2
import Derived.Test.YtimhjdepngmejaaGreatOpen
import Derived.BigRegion
namespace Go.Proofs.YtimhjdepngmejaaGreat
open Go.RowKit
set_option maxRecDepth 20000

def GoodC (c0 c1 c2 c3 c4 : Int) : Prop := (1 ≤ c0 ∧ c0 ≤ 41) ∧ (1 ≤ c1 ∧ c1 ≤ 41) ∧ (1 ≤ c2 ∧ c2 ≤ 41) ∧ (1 ≤ c3 ∧ c3 ≤ 41) ∧ (1 ≤ c4 ∧ c4 ≤ 41) ∧ c1 < c3 ∧ c2 < c3

theorem Sl.int_set {w : World} {g c : Nat} {X : List Int} (h : Sl intE w (some ⟨g, 0, none⟩) c X) (k : Nat) (x : Int) : Sl intE (w.setCell ⟨g, k, none⟩ (.int .i64 x)) (some ⟨g, 0, none⟩) c (X.set k x) := by
  have := h.set1 (by rfl) (g := g) (o := 0) rfl (i := k) (x := x) (u := .int .i64 x) rfl
  rw [Nat.zero_add] at this
  exact this
theorem Sl.int_at0 {w : World} {g c : Nat} {X : List Int} (h : Sl intE w (some ⟨g, 0, none⟩) c X) (k : Nat) (hk : k < X.length) : w.cell? ⟨g, k, none⟩ = some (.int .i64 (X.getD k 0)) := by
  obtain ⟨g', o', e, _, hc⟩ := h.int_at k hk
  injection e with e
  injection e with e1 e2
  subst e1 e2
  rw [Nat.zero_add] at hc
  exact hc

def RightPost (w : World) (e : Ending) (w' : World) : Prop := ∃ g c0 c1 c2 c3 c4, e = .returned (.slice (some ⟨g, 0, none⟩) 5 5) ∧ Sl intE w' (some ⟨g, 0, none⟩) 5 [c0, c1, c2, c3, c4] ∧ GoodC c0 c1 c2 c3 c4 ∧ Fresh w w' ∧ w.heap.size ≤ g

set_option maxHeartbeats 1000000 in
theorem right_any (A : Option Addr) (c : Nat) (L : List Int) (w : World) (h : Rd intE w A c L) :
    Calls Tryz.prog 36 #[.slice A L.length c] w (RightPost w) := by
  have hlc := h.1
  have hcm := h.2.1
  unfold maxLen at hcm
  have H := Lib.hid h
  clear h
  have HI : Hid (Sl intE (w.alloc (.cells #[.int .i64 3, .int .i64 2, .int .i64 5, .int .i64 9, .int .i64 4] 3)) (some ⟨w.heap.size, 0, none⟩) 5 [3, 2, 5, 9, 4]) := Sl.lit intE w _ rfl _ _ rfl _ rfl (by decide)
  go_enter Tryz.func36, Tryz.ntmps36
  go_wp2_with fail
  have hgw : w.heap.size ≤ w.heap.size := Nat.le_refl _
  have HF : Hid (Fresh w (w.alloc (.cells #[.int .i64 3, .int .i64 2, .int .i64 5, .int .i64 9, .int .i64 4] 3))) := (Touch.refl _ w).alloc _
  generalize w.alloc (.cells #[.int .i64 3, .int .i64 2, .int .i64 5, .int .i64 9, .int .i64 4] 3) = w1 at *
  have hg0 : ∃ g, g = w.heap.size := ⟨_, rfl⟩
  obtain ⟨g, hg⟩ := hg0
  rw [← hg] at HI hgw ⊢
  have HG := Lib.hid hg
  clear hg
  go_loopw [4] (fun i wr => ∃ (k : Nat) (X : List Int), k ≤ 5 ∧ k ≤ L.length ∧ i = .int .i64 k ∧ X.length = 5 ∧ Hid (∀ x ∈ X, 1 ≤ x ∧ x ≤ 40) ∧ Hid (Sl intE wr (some ⟨g, 0, none⟩) 5 X) ∧ Hid (Fresh w wr)) (fun i _ => 5 - (intOf i).toNat)
  case atStart => exact ⟨0, _, by omega, by omega, rfl, rfl, by simp [Hid], HI, HF⟩
  case round =>
    obtain ⟨k, X, hk5, hkL, rfl, hX, hXb, hs, ht⟩ := hrel
    have HX := Lib.hid hX
    by_cases hkl : k < L.length ∧ k < 5
    · have hk1 : (k : Int) < (L.length : Int) := by omega
      have hk2 : (k : Int) < 5 := by omega
      obtain ⟨gA, oA, rfl, hgA, hc⟩ := (H.out.touch ht.out (fun _ _ _ h => h)).int_at k hkl.1
      have hf := hs.out.frozen g 0 rfl k
      have hc2 := hs.out.int_at0 k (by omega)
      have hd1 : decide ((k : Int) < (L.length : Int)) = true := decide_eq_true hk1
      have hd2 : decide ((k : Int) < 5) = true := decide_eq_true hk2
      have HS : Hid (∀ x, 1 ≤ x → x ≤ 40 → Sl intE (wr.setCell ⟨g, k, none⟩ (.int .i64 x)) (some ⟨g, 0, none⟩) 5 (X.set k x) ∧ (∀ y ∈ X.set k x, 1 ≤ y ∧ y ≤ 40) ∧ Fresh w (wr.setCell ⟨g, k, none⟩ (.int .i64 x))) := fun x h0 h1 =>
        ⟨hs.out.int_set k x, fun y hy => by rcases List.mem_or_eq_of_mem_set hy with hy | rfl; exact hXb.out y hy; exact ⟨h0, h1⟩, ht.out.setCell (fun hl => by have := HG.out; simp at hl; omega) _⟩
      generalize L.getD k 0 = v at *
      generalize X.getD k 0 = v2 at *
      clear hX hs ht hXb
      go_wp2
      all_goals
        go_roundw
        case rel => exact ⟨k + 1, X.set k _, by omega, by omega, by go_num, by rw [List.length_set]; exact HX.out, (HS.out _ (by omega) (by omega)).2.1, (HS.out _ (by omega) (by omega)).1, (HS.out _ (by omega) (by omega)).2.2⟩
        case measure => simp [intOf]; omega
    · match X, HX with
      | [x0, x1, x2, x3, x4], HX =>
      have b0 := hXb.out x0 (by simp)
      have b1 := hXb.out x1 (by simp)
      have b2 := hXb.out x2 (by simp)
      have b3 := hXb.out x3 (by simp)
      have b4 := hXb.out x4 (by simp)
      have k1 : wr.cell? ⟨g, 1, none⟩ = some (.int .i64 x1) := hs.out.int_at0 1 (by simp)
      have k2 : wr.cell? ⟨g, 2, none⟩ = some (.int .i64 x2) := hs.out.int_at0 2 (by simp)
      have k3 : wr.cell? ⟨g, 3, none⟩ = some (.int .i64 x3) := hs.out.int_at0 3 (by simp)
      have hf : wr.frozen? ⟨g, 3, none⟩ = false := hs.out.frozen g 0 rfl 3
      have s1 : IntKind.i64.wrap (x1 + 1) = x1 + 1 := IntWalk.i64_in _ (by omega)
      have s2 : IntKind.i64.wrap (x2 + 1) = x2 + 1 := IntWalk.i64_in _ (by omega)
      have HS : Hid (∀ x nq, Sl intE ((wr.setCell ⟨g, 3, none⟩ (.int .i64 x)).drewN nq) (some ⟨g, 0, none⟩) 5 [x0, x1, x2, x, x4] ∧ Fresh w ((wr.setCell ⟨g, 3, none⟩ (.int .i64 x)).drewN nq)) := fun x nq =>
        ⟨hs.out.int_set 3 x, (ht.out.setCell (fun hl => by have := HG.out; simp at hl; omega) _).drewN _⟩
      clear hX hXb hs ht
      have hmax : (x3 < x1 + 1 ∧ x1 + 1 < x2 + 1) ∨ (x3 < x1 + 1 ∧ ¬ (x1 + 1 < x2 + 1)) ∨ (¬ (x3 < x1 + 1) ∧ x3 < x2 + 1) ∨ (¬ (x3 < x1 + 1) ∧ ¬ (x3 < x2 + 1)) := by omega
      rcases (show ¬ ((k : Int) < (L.length : Int)) ∨ ((k : Int) < (L.length : Int) ∧ ¬ ((k : Int) < 5)) by omega) with hk1 | ⟨hk1, hk2⟩
      all_goals
        rcases hmax with ⟨m1, m2⟩ | ⟨m1, m2⟩ | ⟨m1, m2⟩ | ⟨m1, m2⟩
        all_goals
          go_wp2
          go_still_tail 14, (by kernel_rfl)
          go_wp2
          go_ret
          exact ⟨g, x0, x1, x2, _, x4, rfl, (HS.out _ 1).1, ⟨by omega, by omega, by omega, by omega, by omega, by omega, by omega⟩, (HS.out _ 1).2, by rw [HG.out]; exact Nat.le_refl _⟩
end Go.Proofs.YtimhjdepngmejaaGreat

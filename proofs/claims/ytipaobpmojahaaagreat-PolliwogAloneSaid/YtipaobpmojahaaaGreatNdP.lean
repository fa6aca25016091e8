/-
  polliwoglaw15: ticks that may be; pace.New, pace.Clone · node: which configs may be, as the program says it and as the document says it. pace.Config.Check, pace.New at any ticks. No conditions.
-/
import Derived.Test.YtipaobpmojahaaaGreatPace2
import Derived.Test.YtipaobpmojahaaaGreatOpenC
import Derived.BigRegion
namespace Go.Proofs.YtipaobpmojahaaaGreat
open Go.RowKit
set_option maxRecDepth 20000

def GoodC (c0 c1 c2 c3 c4 : Int) : Prop := (1 ≤ c0 ∧ c0 ≤ 41) ∧ (1 ≤ c1 ∧ c1 ≤ 41) ∧ (1 ≤ c2 ∧ c2 ≤ 41) ∧ (1 ≤ c3 ∧ c3 ≤ 41) ∧ (1 ≤ c4 ∧ c4 ≤ 41) ∧ c1 < c3 ∧ c2 < c3

theorem Sl.int_set {w : World} {g c : Nat} {X : List Int} (h : Sl intE w (some ⟨g, 0, none⟩) c X) (k : Nat) (x : Int) : Sl intE (w.setCell ⟨g, k, none⟩ (.int .i64 x)) (some ⟨g, 0, none⟩) c (X.set k x) := by
  have := h.set1 (by rfl) (g := g) (o := 0) rfl (i := k) (x := x) (u := .int .i64 x) rfl
  rw [Nat.zero_add] at this
  exact this
theorem Sl.int_at0 {w : World} {g c : Nat} {X : List Int} (h : Sl intE w (some ⟨g, 0, none⟩) c X) (k : Nat) (hk : k < X.length) : w.cell? ⟨g, k, none⟩ = some (.int .i64 (X.getD k 0)) := by
  obtain ⟨g', o', e, _, hc⟩ := h.int_at k hk
  injection e with e
  injection e with e1 e2
  subst e1 e2
  rw [Nat.zero_add] at hc
  exact hc

def RightPost (w : World) (e : Ending) (w' : World) : Prop := ∃ g c0 c1 c2 c3 c4, e = .returned (.slice (some ⟨g, 0, none⟩) 5 5) ∧ Sl intE w' (some ⟨g, 0, none⟩) 5 [c0, c1, c2, c3, c4] ∧ GoodC c0 c1 c2 c3 c4 ∧ Fresh w w' ∧ w.heap.size ≤ g

set_option maxHeartbeats 1000000 in
theorem right_any (A : Option Addr) (c : Nat) (L : List Int) (w : World) (h : Rd intE w A c L) :
    Calls Tryz.prog 27 #[.slice A L.length c] w (RightPost w) := by
  have hlc := h.1
  have hcm := h.2.1
  unfold maxLen at hcm
  have H := Lib.hid h
  clear h
  have HI : Hid (Sl intE (w.alloc (.cells #[.int .i64 3, .int .i64 2, .int .i64 5, .int .i64 9, .int .i64 4] 3)) (some ⟨w.heap.size, 0, none⟩) 5 [3, 2, 5, 9, 4]) := Sl.lit intE w _ rfl _ _ rfl _ rfl (by decide)
  go_enter Tryz.func27, Tryz.ntmps27
  go_wp2_with fail
  have hgw : w.heap.size ≤ w.heap.size := Nat.le_refl _
  have HF : Hid (Fresh w (w.alloc (.cells #[.int .i64 3, .int .i64 2, .int .i64 5, .int .i64 9, .int .i64 4] 3))) := (Touch.refl _ w).alloc _
  generalize w.alloc (.cells #[.int .i64 3, .int .i64 2, .int .i64 5, .int .i64 9, .int .i64 4] 3) = w1 at *
  have hg0 : ∃ g, g = w.heap.size := ⟨_, rfl⟩
  obtain ⟨g, hg⟩ := hg0
  rw [← hg] at HI hgw ⊢
  have HG := Lib.hid hg
  clear hg
  go_loopw [4] (fun i wr => ∃ (k : Nat) (X : List Int), k ≤ 5 ∧ k ≤ L.length ∧ i = .int .i64 k ∧ X.length = 5 ∧ Hid (∀ x ∈ X, 1 ≤ x ∧ x ≤ 40) ∧ Hid (Sl intE wr (some ⟨g, 0, none⟩) 5 X) ∧ Hid (Fresh w wr)) (fun i _ => 5 - (intOf i).toNat)
  case atStart => exact ⟨0, _, by omega, by omega, rfl, rfl, by simp [Hid], HI, HF⟩
  case round =>
    obtain ⟨k, X, hk5, hkL, rfl, hX, hXb, hs, ht⟩ := hrel
    have HX := Lib.hid hX
    by_cases hkl : k < L.length ∧ k < 5
    · have hk1 : (k : Int) < (L.length : Int) := by omega
      have hk2 : (k : Int) < 5 := by omega
      obtain ⟨gA, oA, rfl, hgA, hc⟩ := (H.out.touch ht.out (fun _ _ _ h => h)).int_at k hkl.1
      have hf := hs.out.frozen g 0 rfl k
      have hc2 := hs.out.int_at0 k (by omega)
      have hd1 : decide ((k : Int) < (L.length : Int)) = true := decide_eq_true hk1
      have hd2 : decide ((k : Int) < 5) = true := decide_eq_true hk2
      have HS : Hid (∀ x, 1 ≤ x → x ≤ 40 → Sl intE (wr.setCell ⟨g, k, none⟩ (.int .i64 x)) (some ⟨g, 0, none⟩) 5 (X.set k x) ∧ (∀ y ∈ X.set k x, 1 ≤ y ∧ y ≤ 40) ∧ Fresh w (wr.setCell ⟨g, k, none⟩ (.int .i64 x))) := fun x h0 h1 =>
        ⟨hs.out.int_set k x, fun y hy => by rcases List.mem_or_eq_of_mem_set hy with hy | rfl; exact hXb.out y hy; exact ⟨h0, h1⟩, ht.out.setCell (fun hl => by have := HG.out; simp at hl; omega) _⟩
      generalize L.getD k 0 = v at *
      generalize X.getD k 0 = v2 at *
      clear hX hs ht hXb
      go_wp2
      all_goals
        go_roundw
        case rel => exact ⟨k + 1, X.set k _, by omega, by omega, by go_num, by rw [List.length_set]; exact HX.out, (HS.out _ (by omega) (by omega)).2.1, (HS.out _ (by omega) (by omega)).1, (HS.out _ (by omega) (by omega)).2.2⟩
        case measure => simp [intOf]; omega
    · match X, HX with
      | [x0, x1, x2, x3, x4], HX =>
      have b0 := hXb.out x0 (by simp)
      have b1 := hXb.out x1 (by simp)
      have b2 := hXb.out x2 (by simp)
      have b3 := hXb.out x3 (by simp)
      have b4 := hXb.out x4 (by simp)
      have k1 : wr.cell? ⟨g, 1, none⟩ = some (.int .i64 x1) := hs.out.int_at0 1 (by simp)
      have k2 : wr.cell? ⟨g, 2, none⟩ = some (.int .i64 x2) := hs.out.int_at0 2 (by simp)
      have k3 : wr.cell? ⟨g, 3, none⟩ = some (.int .i64 x3) := hs.out.int_at0 3 (by simp)
      have hf : wr.frozen? ⟨g, 3, none⟩ = false := hs.out.frozen g 0 rfl 3
      have s1 : IntKind.i64.wrap (x1 + 1) = x1 + 1 := IntWalk.i64_in _ (by omega)
      have s2 : IntKind.i64.wrap (x2 + 1) = x2 + 1 := IntWalk.i64_in _ (by omega)
      have HS : Hid (∀ x nq, Sl intE ((wr.setCell ⟨g, 3, none⟩ (.int .i64 x)).drewN nq) (some ⟨g, 0, none⟩) 5 [x0, x1, x2, x, x4] ∧ Fresh w ((wr.setCell ⟨g, 3, none⟩ (.int .i64 x)).drewN nq)) := fun x nq =>
        ⟨hs.out.int_set 3 x, (ht.out.setCell (fun hl => by have := HG.out; simp at hl; omega) _).drewN _⟩
      clear hX hXb hs ht
      have hmax : (x3 < x1 + 1 ∧ x1 + 1 < x2 + 1) ∨ (x3 < x1 + 1 ∧ ¬ (x1 + 1 < x2 + 1)) ∨ (¬ (x3 < x1 + 1) ∧ x3 < x2 + 1) ∨ (¬ (x3 < x1 + 1) ∧ ¬ (x3 < x2 + 1)) := by omega
      rcases (show ¬ ((k : Int) < (L.length : Int)) ∨ ((k : Int) < (L.length : Int) ∧ ¬ ((k : Int) < 5)) by omega) with hk1 | ⟨hk1, hk2⟩
      all_goals
        rcases hmax with ⟨m1, m2⟩ | ⟨m1, m2⟩ | ⟨m1, m2⟩ | ⟨m1, m2⟩
        all_goals
          go_wp2
          go_still_tail 14, (by kernel_rfl)
          go_wp2
          go_ret
          exact ⟨g, x0, x1, x2, _, x4, rfl, (HS.out _ 1).1, ⟨by omega, by omega, by omega, by omega, by omega, by omega, by omega⟩, (HS.out _ 1).2, by rw [HG.out]; exact Nat.le_refl _⟩
set_option maxRecDepth 20000

namespace Nd
def inb (x m : Int) : Bool := decide (1 ≤ x) && decide (x ≤ m)
theorem inb_true {x m : Int} (h : inb x m = true) : 1 ≤ x ∧ x ≤ m := by
  unfold inb at h
  rw [Bool.and_eq_true, decide_eq_true_eq, decide_eq_true_eq] at h
  exact h
theorem inb_false {x m : Int} (h : ¬ inb x m = true) : x < 1 ∨ (¬ x < 1 ∧ m < x) := by
  unfold inb at h
  rw [Bool.and_eq_true, decide_eq_true_eq, decide_eq_true_eq] at h
  omega
/-- May ticks be? -/
def okP (a b c d e : Int) : Bool := inb a 1048576 && inb b 1048576 && inb c 1048576 && inb d 1048576 && inb e 1048576 && decide (b < d) && decide (c < d)
theorem okP_at {a b c d e : Int} (h : okP a b c d e = true) : inb a 1048576 = true ∧ inb b 1048576 = true ∧ inb c 1048576 = true ∧ inb d 1048576 = true ∧ inb e 1048576 = true ∧ b < d ∧ c < d := by
  unfold okP at h
  simp only [Bool.and_eq_true, decide_eq_true_eq] at h
  obtain ⟨⟨⟨⟨⟨⟨h1, h2⟩, h3⟩, h4⟩, h5⟩, h6⟩, h7⟩ := h
  exact ⟨h1, h2, h3, h4, h5, h6, h7⟩
theorem okP_of {a b c d e : Int} (h1 : inb a 1048576 = true) (h2 : inb b 1048576 = true) (h3 : inb c 1048576 = true) (h4 : inb d 1048576 = true) (h5 : inb e 1048576 = true) : okP a b c d e = (decide (b < d) && decide (c < d)) := by
  unfold okP
  rw [h1, h2, h3, h4, h5]
  simp
theorem okP_no {a b c d e : Int} {k : Nat} (hk : k < 5) (h : ¬ inb ([a, b, c, d, e].getD k 0) 1048576 = true) : okP a b c d e = false := by
  refine Bool.eq_false_iff.2 fun hc => ?_
  obtain ⟨h1, h2, h3, h4, h5, _⟩ := okP_at hc
  rcases (show k = 0 ∨ k = 1 ∨ k = 2 ∨ k = 3 ∨ k = 4 by omega) with rfl | rfl | rfl | rfl | rfl
  · exact h h1
  · exact h h2
  · exact h h3
  · exact h h4
  · exact h h5
end Nd

set_option maxHeartbeats 2000000 in
theorem pcheck_any (c0 c1 c2 c3 c4 : Int) (w : World) :
    Calls Tryz.prog 156 #[.agg #[.int .i64 c0, .int .i64 c1, .int .i64 c2, .int .i64 c3, .int .i64 c4]] w fun e w' => e = .returned (.int .i64 (if Nd.okP c0 c1 c2 c3 c4 then 0 else 1)) ∧ Fresh w w' := by
  obtain ⟨r, hr⟩ : ∃ r : Int, (if Nd.okP c0 c1 c2 c3 c4 then 0 else 1) = r := ⟨_, rfl⟩
  have HR := Lib.hid hr
  rw [hr]
  clear hr
  have i0 : ∀ w, (Instr.index 70 (.agg #[.int .i64 c0, .int .i64 c1, .int .i64 c2, .int .i64 c3, .int .i64 c4]) (.int .i64 0)).run Tryz.prog w = .ok (.int .i64 c0) w := fun _ => by kernel_rfl
  have i1 : ∀ w, (Instr.index 70 (.agg #[.int .i64 c0, .int .i64 c1, .int .i64 c2, .int .i64 c3, .int .i64 c4]) (.int .i64 1)).run Tryz.prog w = .ok (.int .i64 c1) w := fun _ => by kernel_rfl
  have i2 : ∀ w, (Instr.index 70 (.agg #[.int .i64 c0, .int .i64 c1, .int .i64 c2, .int .i64 c3, .int .i64 c4]) (.int .i64 2)).run Tryz.prog w = .ok (.int .i64 c2) w := fun _ => by kernel_rfl
  have i3 : ∀ w, (Instr.index 70 (.agg #[.int .i64 c0, .int .i64 c1, .int .i64 c2, .int .i64 c3, .int .i64 c4]) (.int .i64 3)).run Tryz.prog w = .ok (.int .i64 c3) w := fun _ => by kernel_rfl
  have i4 : ∀ w, (Instr.index 70 (.agg #[.int .i64 c0, .int .i64 c1, .int .i64 c2, .int .i64 c3, .int .i64 c4]) (.int .i64 4)).run Tryz.prog w = .ok (.int .i64 c4) w := fun _ => by kernel_rfl
  go_enter Tryz.func156, Tryz.ntmps156
  go_wp2
  go_loopw [16] (fun i wr => ∃ k : Nat, k ≤ 5 ∧ i = .int .i64 k ∧ Hid (∀ j, j < k → Nd.inb ([c0, c1, c2, c3, c4].getD j 0) 1048576 = true) ∧ Hid (Fresh w wr) ∧ Hid (Blk wr w.heap.size 86 [.int .i64 c0, .int .i64 c1, .int .i64 c2, .int .i64 c3, .int .i64 c4])) (fun i _ => 5 - (intOf i).toNat)
  case atStart => exact ⟨0, by omega, rfl, fun j h => absurd h (Nat.not_lt_zero j), (Touch.refl _ w).alloc _, Blk.new w _ _⟩
  case round =>
    obtain ⟨k, hk, rfl, HG, ht, hb⟩ := hrel
    rcases (show k = 0 ∨ k = 1 ∨ k = 2 ∨ k = 3 ∨ k = 4 ∨ k = 5 by omega) with rfl | rfl | rfl | rfl | rfl | rfl
    · by_cases hi : Nd.inb c0 1048576 = true
      · have HG2 : Hid (∀ j, j < 0 + 1 → Nd.inb ([c0, c1, c2, c3, c4].getD j 0) 1048576 = true) := fun j hj => by
          rcases Nat.lt_succ_iff_lt_or_eq.1 hj with h | rfl
          · exact HG.out j h
          · exact hi
        obtain ⟨hi1, hi2⟩ := Nd.inb_true hi
        have n1 : ¬ c0 < 1 := by omega
        have n2 : ¬ 1048576 < c0 := by omega
        have HI := Lib.hid hi
        clear hi HG hi1 hi2
        go_wp2
        go_roundw
        case rel => exact ⟨0 + 1, by omega, rfl, HG2, ht, hb⟩
        case measure => simp [intOf]
      · have hr0 : r = 1 := by rw [← HR.out, Nd.okP_no (k := 0) (by omega) hi]; rfl
        rcases Nd.inb_false hi with n1 | ⟨n1, n2⟩
        · clear hi HG
          go_wp2
          go_ret
          exact ⟨by first | rfl | (rw [hr0]; rfl), ht.out⟩
        · clear hi HG
          go_wp2
          go_ret
          exact ⟨by first | rfl | (rw [hr0]; rfl), ht.out⟩
    · by_cases hi : Nd.inb c1 1048576 = true
      · have HG2 : Hid (∀ j, j < 1 + 1 → Nd.inb ([c0, c1, c2, c3, c4].getD j 0) 1048576 = true) := fun j hj => by
          rcases Nat.lt_succ_iff_lt_or_eq.1 hj with h | rfl
          · exact HG.out j h
          · exact hi
        obtain ⟨hi1, hi2⟩ := Nd.inb_true hi
        have n1 : ¬ c1 < 1 := by omega
        have n2 : ¬ 1048576 < c1 := by omega
        have HI := Lib.hid hi
        clear hi HG hi1 hi2
        go_wp2
        go_roundw
        case rel => exact ⟨1 + 1, by omega, rfl, HG2, ht, hb⟩
        case measure => simp [intOf]
      · have hr0 : r = 1 := by rw [← HR.out, Nd.okP_no (k := 1) (by omega) hi]; rfl
        rcases Nd.inb_false hi with n1 | ⟨n1, n2⟩
        · clear hi HG
          go_wp2
          go_ret
          exact ⟨by first | rfl | (rw [hr0]; rfl), ht.out⟩
        · clear hi HG
          go_wp2
          go_ret
          exact ⟨by first | rfl | (rw [hr0]; rfl), ht.out⟩
    · by_cases hi : Nd.inb c2 1048576 = true
      · have HG2 : Hid (∀ j, j < 2 + 1 → Nd.inb ([c0, c1, c2, c3, c4].getD j 0) 1048576 = true) := fun j hj => by
          rcases Nat.lt_succ_iff_lt_or_eq.1 hj with h | rfl
          · exact HG.out j h
          · exact hi
        obtain ⟨hi1, hi2⟩ := Nd.inb_true hi
        have n1 : ¬ c2 < 1 := by omega
        have n2 : ¬ 1048576 < c2 := by omega
        have HI := Lib.hid hi
        clear hi HG hi1 hi2
        go_wp2
        go_roundw
        case rel => exact ⟨2 + 1, by omega, rfl, HG2, ht, hb⟩
        case measure => simp [intOf]
      · have hr0 : r = 1 := by rw [← HR.out, Nd.okP_no (k := 2) (by omega) hi]; rfl
        rcases Nd.inb_false hi with n1 | ⟨n1, n2⟩
        · clear hi HG
          go_wp2
          go_ret
          exact ⟨by first | rfl | (rw [hr0]; rfl), ht.out⟩
        · clear hi HG
          go_wp2
          go_ret
          exact ⟨by first | rfl | (rw [hr0]; rfl), ht.out⟩
    · by_cases hi : Nd.inb c3 1048576 = true
      · have HG2 : Hid (∀ j, j < 3 + 1 → Nd.inb ([c0, c1, c2, c3, c4].getD j 0) 1048576 = true) := fun j hj => by
          rcases Nat.lt_succ_iff_lt_or_eq.1 hj with h | rfl
          · exact HG.out j h
          · exact hi
        obtain ⟨hi1, hi2⟩ := Nd.inb_true hi
        have n1 : ¬ c3 < 1 := by omega
        have n2 : ¬ 1048576 < c3 := by omega
        have HI := Lib.hid hi
        clear hi HG hi1 hi2
        go_wp2
        go_roundw
        case rel => exact ⟨3 + 1, by omega, rfl, HG2, ht, hb⟩
        case measure => simp [intOf]
      · have hr0 : r = 1 := by rw [← HR.out, Nd.okP_no (k := 3) (by omega) hi]; rfl
        rcases Nd.inb_false hi with n1 | ⟨n1, n2⟩
        · clear hi HG
          go_wp2
          go_ret
          exact ⟨by first | rfl | (rw [hr0]; rfl), ht.out⟩
        · clear hi HG
          go_wp2
          go_ret
          exact ⟨by first | rfl | (rw [hr0]; rfl), ht.out⟩
    · by_cases hi : Nd.inb c4 1048576 = true
      · have HG2 : Hid (∀ j, j < 4 + 1 → Nd.inb ([c0, c1, c2, c3, c4].getD j 0) 1048576 = true) := fun j hj => by
          rcases Nat.lt_succ_iff_lt_or_eq.1 hj with h | rfl
          · exact HG.out j h
          · exact hi
        obtain ⟨hi1, hi2⟩ := Nd.inb_true hi
        have n1 : ¬ c4 < 1 := by omega
        have n2 : ¬ 1048576 < c4 := by omega
        have HI := Lib.hid hi
        clear hi HG hi1 hi2
        go_wp2
        go_roundw
        case rel => exact ⟨4 + 1, by omega, rfl, HG2, ht, hb⟩
        case measure => simp [intOf]
      · have hr0 : r = 1 := by rw [← HR.out, Nd.okP_no (k := 4) (by omega) hi]; rfl
        rcases Nd.inb_false hi with n1 | ⟨n1, n2⟩
        · clear hi HG
          go_wp2
          go_ret
          exact ⟨by first | rfl | (rw [hr0]; rfl), ht.out⟩
        · clear hi HG
          go_wp2
          go_ret
          exact ⟨by first | rfl | (rw [hr0]; rfl), ht.out⟩
    · have hP : Nd.okP c0 c1 c2 c3 c4 = (decide (c1 < c3) && decide (c2 < c3)) := Nd.okP_of (HG.out 0 (by omega)) (HG.out 1 (by omega)) (HG.out 2 (by omega)) (HG.out 3 (by omega)) (HG.out 4 (by omega))
      have k1 : wr.cell? ⟨w.heap.size, 1, none⟩ = some (.int .i64 c1) := hb.out.cell 1
      have k2 : wr.cell? ⟨w.heap.size, 2, none⟩ = some (.int .i64 c2) := hb.out.cell 2
      have k3 : wr.cell? ⟨w.heap.size, 3, none⟩ = some (.int .i64 c3) := hb.out.cell 3
      by_cases h1 : c1 < c3
      · by_cases h2 : c2 < c3
        · have hr0 : r = 0 := by rw [← HR.out, hP, decide_eq_true h1, decide_eq_true h2]; rfl
          have m1 : ¬ c3 ≤ c1 := by omega
          have m2 : ¬ c3 ≤ c2 := by omega
          clear HG hP
          go_wp2
          go_ret
          exact ⟨by first | rfl | (rw [hr0]; rfl), ht.out⟩
        · have hr0 : r = 1 := by rw [← HR.out, hP, decide_eq_false h2, Bool.and_false]; rfl
          have m1 : ¬ c3 ≤ c1 := by omega
          have m2 : c3 ≤ c2 := by omega
          clear HG hP
          go_wp2
          go_ret
          exact ⟨by first | rfl | (rw [hr0]; rfl), ht.out⟩
      · have hr0 : r = 1 := by rw [← HR.out, hP, decide_eq_false h1]; rfl
        have m1 : c3 ≤ c1 := by omega
        clear HG hP
        go_wp2
        go_ret
        exact ⟨by first | rfl | (rw [hr0]; rfl), ht.out⟩

set_option maxHeartbeats 1000000 in
theorem pnew_ok (c0 c1 c2 c3 c4 : Int) (w : World) (h : Nd.okP c0 c1 c2 c3 c4 = true) :
    Calls Tryz.prog 69 #[.agg #[.int .i64 c0, .int .i64 c1, .int .i64 c2, .int .i64 c3, .int .i64 c4]] w fun e w' => ∃ g, e = .returned (.tuple #[.pointer (some ⟨g, 0, none⟩), .int .i64 0]) ∧ Pk w' g [0, 0, 0, 0, 0] c0 c1 c2 c3 c4 ∧ Fresh w w' ∧ w.heap.size ≤ g := by
  have HC := Lib.hid (fun W => pcheck_any c0 c1 c2 c3 c4 W)
  rw [h] at HC
  go_enter Tryz.func69, Tryz.ntmps69
  go_wp2_with fail
  refine (HC.out _).mono ?_
  rintro e w1 ⟨rfl, t1⟩
  have B1 := t1.blk (Blk.new w 86 [.int .i64 c0, .int .i64 c1, .int .i64 c2, .int .i64 c3, .int .i64 c4]) (fun h => h)
  have k0 : w1.cell? ⟨w.heap.size, 0, none⟩ = some (.int .i64 c0) := B1.cell 0
  have k1 : w1.cell? ⟨w.heap.size, 1, none⟩ = some (.int .i64 c1) := B1.cell 1
  have k2 : w1.cell? ⟨w.heap.size, 2, none⟩ = some (.int .i64 c2) := B1.cell 2
  have k3 : w1.cell? ⟨w.heap.size, 3, none⟩ = some (.int .i64 c3) := B1.cell 3
  have k4 : w1.cell? ⟨w.heap.size, 4, none⟩ = some (.int .i64 c4) := B1.cell 4
  have T1 := Lib.hid (((Touch.refl _ w).alloc _).trans t1 (fun _ _ h => h))
  have hs := T1.out.size
  clear t1 B1
  go_wp2
  go_ret2
  exact ⟨_, rfl, ⟨rfl, by simp, Blk.new _ _ [.int .i64 0, .int .i64 0, .int .i64 0, .int .i64 0, .int .i64 0, .int .i64 c0, .int .i64 c1, .int .i64 c2, .int .i64 c3, .int .i64 c4]⟩, T1.out.alloc _, hs⟩
end Go.Proofs.YtipaobpmojahaaaGreat

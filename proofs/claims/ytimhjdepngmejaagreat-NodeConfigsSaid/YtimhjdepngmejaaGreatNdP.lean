/-
  node: which configs may be, as the program says it and as the document says it. pace.Config.Check, pace.New at any ticks. No conditions.
-/
import Derived.Test.YtimhjdepngmejaaGreatPace4
namespace Go.Proofs.YtimhjdepngmejaaGreat
open Go.RowKit
set_option maxRecDepth 20000

namespace Nd
def inb (x m : Int) : Bool := decide (1 ≤ x) && decide (x ≤ m)
theorem inb_true {x m : Int} (h : inb x m = true) : 1 ≤ x ∧ x ≤ m := by
  unfold inb at h
  rw [Bool.and_eq_true, decide_eq_true_eq, decide_eq_true_eq] at h
  exact h
theorem inb_false {x m : Int} (h : ¬ inb x m = true) : x < 1 ∨ (¬ x < 1 ∧ m < x) := by
  unfold inb at h
  rw [Bool.and_eq_true, decide_eq_true_eq, decide_eq_true_eq] at h
  omega
/-- May ticks be? -/
def okP (a b c d e : Int) : Bool := inb a 1048576 && inb b 1048576 && inb c 1048576 && inb d 1048576 && inb e 1048576 && decide (b < d) && decide (c < d)
theorem okP_at {a b c d e : Int} (h : okP a b c d e = true) : inb a 1048576 = true ∧ inb b 1048576 = true ∧ inb c 1048576 = true ∧ inb d 1048576 = true ∧ inb e 1048576 = true ∧ b < d ∧ c < d := by
  unfold okP at h
  simp only [Bool.and_eq_true, decide_eq_true_eq] at h
  obtain ⟨⟨⟨⟨⟨⟨h1, h2⟩, h3⟩, h4⟩, h5⟩, h6⟩, h7⟩ := h
  exact ⟨h1, h2, h3, h4, h5, h6, h7⟩
theorem okP_of {a b c d e : Int} (h1 : inb a 1048576 = true) (h2 : inb b 1048576 = true) (h3 : inb c 1048576 = true) (h4 : inb d 1048576 = true) (h5 : inb e 1048576 = true) : okP a b c d e = (decide (b < d) && decide (c < d)) := by
  unfold okP
  rw [h1, h2, h3, h4, h5]
  simp
theorem okP_no {a b c d e : Int} {k : Nat} (hk : k < 5) (h : ¬ inb ([a, b, c, d, e].getD k 0) 1048576 = true) : okP a b c d e = false := by
  refine Bool.eq_false_iff.2 fun hc => ?_
  obtain ⟨h1, h2, h3, h4, h5, _⟩ := okP_at hc
  rcases (show k = 0 ∨ k = 1 ∨ k = 2 ∨ k = 3 ∨ k = 4 by omega) with rfl | rfl | rfl | rfl | rfl
  · exact h h1
  · exact h h2
  · exact h h3
  · exact h h4
  · exact h h5
end Nd

set_option maxHeartbeats 2000000 in
theorem pcheck_any (c0 c1 c2 c3 c4 : Int) (w : World) :
    Calls Tryz.prog 30 #[.agg #[.int .i64 c0, .int .i64 c1, .int .i64 c2, .int .i64 c3, .int .i64 c4]] w fun e w' => e = .returned (.int .i64 (if Nd.okP c0 c1 c2 c3 c4 then 0 else 1)) ∧ Fresh w w' := by
  obtain ⟨r, hr⟩ : ∃ r : Int, (if Nd.okP c0 c1 c2 c3 c4 then 0 else 1) = r := ⟨_, rfl⟩
  have HR := Lib.hid hr
  rw [hr]
  clear hr
  have i0 : ∀ w, (Instr.index 79 (.agg #[.int .i64 c0, .int .i64 c1, .int .i64 c2, .int .i64 c3, .int .i64 c4]) (.int .i64 0)).run Tryz.prog w = .ok (.int .i64 c0) w := fun _ => by kernel_rfl
  have i1 : ∀ w, (Instr.index 79 (.agg #[.int .i64 c0, .int .i64 c1, .int .i64 c2, .int .i64 c3, .int .i64 c4]) (.int .i64 1)).run Tryz.prog w = .ok (.int .i64 c1) w := fun _ => by kernel_rfl
  have i2 : ∀ w, (Instr.index 79 (.agg #[.int .i64 c0, .int .i64 c1, .int .i64 c2, .int .i64 c3, .int .i64 c4]) (.int .i64 2)).run Tryz.prog w = .ok (.int .i64 c2) w := fun _ => by kernel_rfl
  have i3 : ∀ w, (Instr.index 79 (.agg #[.int .i64 c0, .int .i64 c1, .int .i64 c2, .int .i64 c3, .int .i64 c4]) (.int .i64 3)).run Tryz.prog w = .ok (.int .i64 c3) w := fun _ => by kernel_rfl
  have i4 : ∀ w, (Instr.index 79 (.agg #[.int .i64 c0, .int .i64 c1, .int .i64 c2, .int .i64 c3, .int .i64 c4]) (.int .i64 4)).run Tryz.prog w = .ok (.int .i64 c4) w := fun _ => by kernel_rfl
  go_enter Tryz.func30, Tryz.ntmps30
  go_wp2
  go_loopw [16] (fun i wr => ∃ k : Nat, k ≤ 5 ∧ i = .int .i64 k ∧ Hid (∀ j, j < k → Nd.inb ([c0, c1, c2, c3, c4].getD j 0) 1048576 = true) ∧ Hid (Fresh w wr) ∧ Hid (Blk wr w.heap.size 29 [.int .i64 c0, .int .i64 c1, .int .i64 c2, .int .i64 c3, .int .i64 c4])) (fun i _ => 5 - (intOf i).toNat)
  case atStart => exact ⟨0, by omega, rfl, fun j h => absurd h (Nat.not_lt_zero j), (Touch.refl _ w).alloc _, Blk.new w _ _⟩
  case round =>
    obtain ⟨k, hk, rfl, HG, ht, hb⟩ := hrel
    rcases (show k = 0 ∨ k = 1 ∨ k = 2 ∨ k = 3 ∨ k = 4 ∨ k = 5 by omega) with rfl | rfl | rfl | rfl | rfl | rfl
    · by_cases hi : Nd.inb c0 1048576 = true
      · have HG2 : Hid (∀ j, j < 0 + 1 → Nd.inb ([c0, c1, c2, c3, c4].getD j 0) 1048576 = true) := fun j hj => by
          rcases Nat.lt_succ_iff_lt_or_eq.1 hj with h | rfl
          · exact HG.out j h
          · exact hi
        obtain ⟨hi1, hi2⟩ := Nd.inb_true hi
        have n1 : ¬ c0 < 1 := by omega
        have n2 : ¬ 1048576 < c0 := by omega
        have HI := Lib.hid hi
        clear hi HG hi1 hi2
        go_wp2
        go_roundw
        case rel => exact ⟨0 + 1, by omega, rfl, HG2, ht, hb⟩
        case measure => simp [intOf]
      · have hr0 : r = 1 := by rw [← HR.out, Nd.okP_no (k := 0) (by omega) hi]; rfl
        rcases Nd.inb_false hi with n1 | ⟨n1, n2⟩
        · clear hi HG
          go_wp2
          go_ret
          exact ⟨by first | rfl | (rw [hr0]; rfl), ht.out⟩
        · clear hi HG
          go_wp2
          go_ret
          exact ⟨by first | rfl | (rw [hr0]; rfl), ht.out⟩
    · by_cases hi : Nd.inb c1 1048576 = true
      · have HG2 : Hid (∀ j, j < 1 + 1 → Nd.inb ([c0, c1, c2, c3, c4].getD j 0) 1048576 = true) := fun j hj => by
          rcases Nat.lt_succ_iff_lt_or_eq.1 hj with h | rfl
          · exact HG.out j h
          · exact hi
        obtain ⟨hi1, hi2⟩ := Nd.inb_true hi
        have n1 : ¬ c1 < 1 := by omega
        have n2 : ¬ 1048576 < c1 := by omega
        have HI := Lib.hid hi
        clear hi HG hi1 hi2
        go_wp2
        go_roundw
        case rel => exact ⟨1 + 1, by omega, rfl, HG2, ht, hb⟩
        case measure => simp [intOf]
      · have hr0 : r = 1 := by rw [← HR.out, Nd.okP_no (k := 1) (by omega) hi]; rfl
        rcases Nd.inb_false hi with n1 | ⟨n1, n2⟩
        · clear hi HG
          go_wp2
          go_ret
          exact ⟨by first | rfl | (rw [hr0]; rfl), ht.out⟩
        · clear hi HG
          go_wp2
          go_ret
          exact ⟨by first | rfl | (rw [hr0]; rfl), ht.out⟩
    · by_cases hi : Nd.inb c2 1048576 = true
      · have HG2 : Hid (∀ j, j < 2 + 1 → Nd.inb ([c0, c1, c2, c3, c4].getD j 0) 1048576 = true) := fun j hj => by
          rcases Nat.lt_succ_iff_lt_or_eq.1 hj with h | rfl
          · exact HG.out j h
          · exact hi
        obtain ⟨hi1, hi2⟩ := Nd.inb_true hi
        have n1 : ¬ c2 < 1 := by omega
        have n2 : ¬ 1048576 < c2 := by omega
        have HI := Lib.hid hi
        clear hi HG hi1 hi2
        go_wp2
        go_roundw
        case rel => exact ⟨2 + 1, by omega, rfl, HG2, ht, hb⟩
        case measure => simp [intOf]
      · have hr0 : r = 1 := by rw [← HR.out, Nd.okP_no (k := 2) (by omega) hi]; rfl
        rcases Nd.inb_false hi with n1 | ⟨n1, n2⟩
        · clear hi HG
          go_wp2
          go_ret
          exact ⟨by first | rfl | (rw [hr0]; rfl), ht.out⟩
        · clear hi HG
          go_wp2
          go_ret
          exact ⟨by first | rfl | (rw [hr0]; rfl), ht.out⟩
    · by_cases hi : Nd.inb c3 1048576 = true
      · have HG2 : Hid (∀ j, j < 3 + 1 → Nd.inb ([c0, c1, c2, c3, c4].getD j 0) 1048576 = true) := fun j hj => by
          rcases Nat.lt_succ_iff_lt_or_eq.1 hj with h | rfl
          · exact HG.out j h
          · exact hi
        obtain ⟨hi1, hi2⟩ := Nd.inb_true hi
        have n1 : ¬ c3 < 1 := by omega
        have n2 : ¬ 1048576 < c3 := by omega
        have HI := Lib.hid hi
        clear hi HG hi1 hi2
        go_wp2
        go_roundw
        case rel => exact ⟨3 + 1, by omega, rfl, HG2, ht, hb⟩
        case measure => simp [intOf]
      · have hr0 : r = 1 := by rw [← HR.out, Nd.okP_no (k := 3) (by omega) hi]; rfl
        rcases Nd.inb_false hi with n1 | ⟨n1, n2⟩
        · clear hi HG
          go_wp2
          go_ret
          exact ⟨by first | rfl | (rw [hr0]; rfl), ht.out⟩
        · clear hi HG
          go_wp2
          go_ret
          exact ⟨by first | rfl | (rw [hr0]; rfl), ht.out⟩
    · by_cases hi : Nd.inb c4 1048576 = true
      · have HG2 : Hid (∀ j, j < 4 + 1 → Nd.inb ([c0, c1, c2, c3, c4].getD j 0) 1048576 = true) := fun j hj => by
          rcases Nat.lt_succ_iff_lt_or_eq.1 hj with h | rfl
          · exact HG.out j h
          · exact hi
        obtain ⟨hi1, hi2⟩ := Nd.inb_true hi
        have n1 : ¬ c4 < 1 := by omega
        have n2 : ¬ 1048576 < c4 := by omega
        have HI := Lib.hid hi
        clear hi HG hi1 hi2
        go_wp2
        go_roundw
        case rel => exact ⟨4 + 1, by omega, rfl, HG2, ht, hb⟩
        case measure => simp [intOf]
      · have hr0 : r = 1 := by rw [← HR.out, Nd.okP_no (k := 4) (by omega) hi]; rfl
        rcases Nd.inb_false hi with n1 | ⟨n1, n2⟩
        · clear hi HG
          go_wp2
          go_ret
          exact ⟨by first | rfl | (rw [hr0]; rfl), ht.out⟩
        · clear hi HG
          go_wp2
          go_ret
          exact ⟨by first | rfl | (rw [hr0]; rfl), ht.out⟩
    · have hP : Nd.okP c0 c1 c2 c3 c4 = (decide (c1 < c3) && decide (c2 < c3)) := Nd.okP_of (HG.out 0 (by omega)) (HG.out 1 (by omega)) (HG.out 2 (by omega)) (HG.out 3 (by omega)) (HG.out 4 (by omega))
      have k1 : wr.cell? ⟨w.heap.size, 1, none⟩ = some (.int .i64 c1) := hb.out.cell 1
      have k2 : wr.cell? ⟨w.heap.size, 2, none⟩ = some (.int .i64 c2) := hb.out.cell 2
      have k3 : wr.cell? ⟨w.heap.size, 3, none⟩ = some (.int .i64 c3) := hb.out.cell 3
      by_cases h1 : c1 < c3
      · by_cases h2 : c2 < c3
        · have hr0 : r = 0 := by rw [← HR.out, hP, decide_eq_true h1, decide_eq_true h2]; rfl
          have m1 : ¬ c3 ≤ c1 := by omega
          have m2 : ¬ c3 ≤ c2 := by omega
          clear HG hP
          go_wp2
          go_ret
          exact ⟨by first | rfl | (rw [hr0]; rfl), ht.out⟩
        · have hr0 : r = 1 := by rw [← HR.out, hP, decide_eq_false h2, Bool.and_false]; rfl
          have m1 : ¬ c3 ≤ c1 := by omega
          have m2 : c3 ≤ c2 := by omega
          clear HG hP
          go_wp2
          go_ret
          exact ⟨by first | rfl | (rw [hr0]; rfl), ht.out⟩
      · have hr0 : r = 1 := by rw [← HR.out, hP, decide_eq_false h1]; rfl
        have m1 : c3 ≤ c1 := by omega
        clear HG hP
        go_wp2
        go_ret
        exact ⟨by first | rfl | (rw [hr0]; rfl), ht.out⟩

set_option maxHeartbeats 1000000 in
theorem pnew_no (c0 c1 c2 c3 c4 : Int) (w : World) (h : Nd.okP c0 c1 c2 c3 c4 = false) :
    Calls Tryz.prog 24 #[.agg #[.int .i64 c0, .int .i64 c1, .int .i64 c2, .int .i64 c3, .int .i64 c4]] w fun e w' => e = .returned (.tuple #[.pointer none, .int .i64 1]) ∧ Fresh w w' := by
  have HC := Lib.hid (fun W => pcheck_any c0 c1 c2 c3 c4 W)
  rw [h] at HC
  go_enter Tryz.func24, Tryz.ntmps24
  go_wp2_with fail
  refine (HC.out _).mono ?_
  rintro e w1 ⟨rfl, t1⟩
  have T1 := Lib.hid (((Touch.refl _ w).alloc _).trans t1 (fun _ _ h => h))
  clear t1
  simp only
  go_wp2
  go_ret2
  exact ⟨rfl, T1.out⟩
set_option maxHeartbeats 1000000 in
theorem pnew_ok (c0 c1 c2 c3 c4 : Int) (w : World) (h : Nd.okP c0 c1 c2 c3 c4 = true) :
    Calls Tryz.prog 24 #[.agg #[.int .i64 c0, .int .i64 c1, .int .i64 c2, .int .i64 c3, .int .i64 c4]] w fun e w' => ∃ g, e = .returned (.tuple #[.pointer (some ⟨g, 0, none⟩), .int .i64 0]) ∧ Pk w' g [0, 0, 0, 0, 0] c0 c1 c2 c3 c4 ∧ Fresh w w' ∧ w.heap.size ≤ g := by
  have HC := Lib.hid (fun W => pcheck_any c0 c1 c2 c3 c4 W)
  rw [h] at HC
  go_enter Tryz.func24, Tryz.ntmps24
  go_wp2_with fail
  refine (HC.out _).mono ?_
  rintro e w1 ⟨rfl, t1⟩
  have B1 := t1.blk (Blk.new w 29 [.int .i64 c0, .int .i64 c1, .int .i64 c2, .int .i64 c3, .int .i64 c4]) (fun h => h)
  have k0 : w1.cell? ⟨w.heap.size, 0, none⟩ = some (.int .i64 c0) := B1.cell 0
  have k1 : w1.cell? ⟨w.heap.size, 1, none⟩ = some (.int .i64 c1) := B1.cell 1
  have k2 : w1.cell? ⟨w.heap.size, 2, none⟩ = some (.int .i64 c2) := B1.cell 2
  have k3 : w1.cell? ⟨w.heap.size, 3, none⟩ = some (.int .i64 c3) := B1.cell 3
  have k4 : w1.cell? ⟨w.heap.size, 4, none⟩ = some (.int .i64 c4) := B1.cell 4
  have T1 := Lib.hid (((Touch.refl _ w).alloc _).trans t1 (fun _ _ h => h))
  have hs := T1.out.size
  clear t1 B1
  go_wp2
  go_ret2
  exact ⟨_, rfl, ⟨rfl, by simp, Blk.new _ _ [.int .i64 0, .int .i64 0, .int .i64 0, .int .i64 0, .int .i64 0, .int .i64 c0, .int .i64 c1, .int .i64 c2, .int .i64 c3, .int .i64 c4]⟩, T1.out.alloc _, hs⟩
end Go.Proofs.YtimhjdepngmejaaGreat

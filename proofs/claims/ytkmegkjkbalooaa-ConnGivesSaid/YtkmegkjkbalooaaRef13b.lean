/-
  rules.Name, polliwogref13.Letter, May; the fixed fact of polliwoglaw13.
-/
import Derived.Test.YtkmegkjkbalooaaRef13
namespace Go.Proofs.Ytkmegkjkbalooaa
open Go.RowKit Go.PlainAid

namespace Ru
def names11 : List ByteArray := ByteArray.empty :: namesB
theorem name_eq (s : Int) (h1 : 1 ≤ s) (h2 : s ≤ 10) : names11[s.toNat]? = some (name s) := by
  obtain ⟨n, rfl⟩ : ∃ n : Nat, s = (n : Int) + 1 := ⟨(s - 1).toNat, by omega⟩
  have hlen : n < namesB.length := by show _ < 10; omega
  have e1 : ((n : Int) + 1).toNat = n + 1 := by omega
  have e2 : ((n : Int) + 1).toNat - 1 = n := by omega
  unfold name names11
  rw [if_pos ⟨h1, h2⟩, e1, List.getElem?_cons_succ, List.getD_eq_getElem?_getD]
  have e3 : ((n : Int) + 1 - 1).toNat = n := by omega
  simp [e3, List.getElem?_eq_getElem hlen]
end Ru


theorem refLetter_any (k : Int) (w : World) : Calls Try.prog 75 #[.int .i64 k] w fun e w' => e = .returned (.int .u8 (Ru.letter k)) ∧ Fresh w w' := by
  by_cases h : 1 ≤ k ∧ k ≤ 15
  · obtain ⟨h1, h2⟩ := h
    have hc : (w.alloc (.cells #[Value.int .u8 66, Value.int .u8 67, Value.int .u8 69, Value.int .u8 70, Value.int .u8 74, Value.int .u8 75, Value.int .u8 68, Value.int .u8 65, Value.int .u8 76, Value.int .u8 71, Value.int .u8 72, Value.int .u8 73, Value.int .u8 0, Value.int .u8 0, Value.int .u8 77] 5)).cell? ⟨w.heap.size, k.toNat - 1, none⟩ = some (.int .u8 (Ru.letter k)) := by
      rw [World.cell?_alloc_new]
      have hl : Ru.letter k = bt Ru.orderB (k.toNat - 1) := by unfold Ru.letter; rw [if_pos ⟨h1, h2⟩]
      obtain ⟨a, rfl⟩ : ∃ a : Nat, k = (a : Int) + 1 := ⟨(k - 1).toNat, by omega⟩
      have e1 : ((a : Int) + 1).toNat - 1 = a := by omega
      rw [hl, e1]
      have : ∀ a, a < 15 → (#[Value.int .u8 66, Value.int .u8 67, Value.int .u8 69, Value.int .u8 70, Value.int .u8 74, Value.int .u8 75, Value.int .u8 68, Value.int .u8 65, Value.int .u8 76, Value.int .u8 71, Value.int .u8 72, Value.int .u8 73, Value.int .u8 0, Value.int .u8 0, Value.int .u8 77] : Array Value)[a]? = some (.int .u8 (bt Ru.orderB a)) := by
        intro a ha
        have hh : a = 0 ∨ a = 1 ∨ a = 2 ∨ a = 3 ∨ a = 4 ∨ a = 5 ∨ a = 6 ∨ a = 7 ∨ a = 8 ∨ a = 9 ∨ a = 10 ∨ a = 11 ∨ a = 12 ∨ a = 13 ∨ a = 14 := by omega
        rcases hh with rfl | rfl | rfl | rfl | rfl | rfl | rfl | rfl | rfl | rfl | rfl | rfl | rfl | rfl | rfl <;> rfl
      exact this a (by omega)
    have hf : Hid (Fresh w (w.alloc (.cells #[Value.int .u8 66, Value.int .u8 67, Value.int .u8 69, Value.int .u8 70, Value.int .u8 74, Value.int .u8 75, Value.int .u8 68, Value.int .u8 65, Value.int .u8 76, Value.int .u8 71, Value.int .u8 72, Value.int .u8 73, Value.int .u8 0, Value.int .u8 0, Value.int .u8 77] 5))) := (Touch.refl _ _).alloc _
    generalize Ru.letter k = x at *
    go_enter Try.func75, Try.ntmps75
    go_wp2
    go_ret
    exact ⟨rfl, hf.out⟩
  · have hl : Hid (Ru.letter k = 0) := by show _ = _; unfold Ru.letter; rw [if_neg h]
    by_cases h1 : k < 1
    · clear h
      go_enter Try.func75, Try.ntmps75
      go_wp2
      go_ret
      exact ⟨by rw [hl.out]; rfl, (Touch.refl _ _).alloc _⟩
    · have h2 : 15 < k := by omega
      clear h
      go_enter Try.func75, Try.ntmps75
      go_wp2
      go_ret
      exact ⟨by rw [hl.out]; rfl, (Touch.refl _ _).alloc _⟩

set_option maxHeartbeats 4000000 in
theorem refMay_one (s q : Int) (h1 : 1 ≤ s) (h2 : s ≤ 10) (q1 : 1 ≤ q) (q2 : q ≤ 7) (w : World) : Calls Try.prog 65 #[.int .i64 s, .int .i64 q] w fun e w' => e = .returned (.bool (Ru.refMay s q)) ∧ w = w' := by
  have hs : s = 1 ∨ s = 2 ∨ s = 3 ∨ s = 4 ∨ s = 5 ∨ s = 6 ∨ s = 7 ∨ s = 8 ∨ s = 9 ∨ s = 10 := by omega
  have hq : q = 1 ∨ q = 2 ∨ q = 3 ∨ q = 4 ∨ q = 5 ∨ q = 6 ∨ q = 7 := by omega
  clear h1 h2 q1 q2
  rcases hs with rfl | rfl | rfl | rfl | rfl | rfl | rfl | rfl | rfl | rfl <;> rcases hq with rfl | rfl | rfl | rfl | rfl | rfl | rfl
  all_goals
    go_enter Try.func65, Try.ntmps65
    go_wp2
    go_ret
    exact ⟨rfl, rfl⟩

theorem refMay_any (s q : Int) (w : World) : Calls Try.prog 65 #[.int .i64 s, .int .i64 q] w fun e w' => e = .returned (.bool (Ru.refMay s q)) ∧ w = w' := by
  by_cases h : 1 ≤ s ∧ s ≤ 10
  · by_cases hq : 1 ≤ q ∧ q ≤ 7
    · exact refMay_one s q h.1 h.2 hq.1 hq.2 w
    · obtain ⟨h1, h2⟩ := h
      have hl : Hid (Ru.refMay s q = decide (8 ≤ q ∧ q ≤ 11)) := by
        show _ = _; unfold Ru.refMay
        rw [if_pos ⟨h1, h2⟩, if_neg (by omega), if_neg (by omega), if_neg (by omega), if_neg (by omega), if_neg (by omega), if_neg (by omega), if_neg (by omega)]
      have b1 : (q == 1) = false := by simp; omega
      have b2 : (q == 2) = false := by simp; omega
      have b3 : (q == 3) = false := by simp; omega
      have b4 : (q == 4) = false := by simp; omega
      have b5 : (q == 5) = false := by simp; omega
      have b6 : (q == 6) = false := by simp; omega
      have b7 : (q == 7) = false := by simp; omega
      have hq' := Lib.hid hq
      clear hq
      by_cases q8 : 8 ≤ q
      · by_cases q11 : q ≤ 11
        · go_enter Try.func65, Try.ntmps65
          go_wp2
          go_ret
          exact ⟨by rw [hl.out]; simp [q8, q11], rfl⟩
        · go_enter Try.func65, Try.ntmps65
          go_wp2
          go_ret
          exact ⟨by rw [hl.out]; simp [q8, q11], rfl⟩
      · go_enter Try.func65, Try.ntmps65
        go_wp2
        go_ret
        exact ⟨by rw [hl.out, decide_eq_false (show ¬ (8 ≤ q ∧ q ≤ 11) by omega)]; rfl, rfl⟩
  · have hl : Hid (Ru.refMay s q = false) := by show _ = _; unfold Ru.refMay; rw [if_neg h]
    by_cases h1 : s < 1
    · clear h
      go_enter Try.func65, Try.ntmps65
      go_wp2
      go_ret
      exact ⟨by rw [hl.out]; rfl, rfl⟩
    · have h2 : 10 < s := by omega
      clear h
      go_enter Try.func65, Try.ntmps65
      go_wp2
      go_ret
      exact ⟨by rw [hl.out]; rfl, rfl⟩

end Go.Proofs.Ytkmegkjkbalooaa

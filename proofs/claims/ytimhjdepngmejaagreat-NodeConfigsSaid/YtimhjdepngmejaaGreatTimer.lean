/-
  timer.Bank: what each call does to a bank that lies at the head of a block.
-/
import Derived.Test.YtimhjdepngmejaaGreatRows
import Derived.Test.YtimhjdepngmejaaGreatMem
import Derived.RegionTactic
import Derived.ChangeAlike
namespace Go.Proofs.YtimhjdepngmejaaGreat
open Go.RowKit
set_option maxRecDepth 20000

/-- A bank: five counts, then what else lies in its block. -/
def Bk (w : World) (g : Nat) (t : TypeId) (l c : List Int) : Prop := l.length = 5 ∧ (∀ x ∈ l, 0 ≤ x ∧ x ≤ 1048576) ∧ Blk w g t ((l ++ c).map (Value.int .i64))

theorem Bk.cell {w : World} {g : Nat} {t : TypeId} {l c : List Int} (h : Bk w g t l c) {i : Nat} (hi : i < 5) : w.cell? ⟨g, i, none⟩ = some (.int .i64 (l.getD i 0)) := by
  rw [h.2.2.cell]
  have := h.1
  rw [List.map_append, List.getElem?_append_left (by simp; omega)]
  simp [List.getD, List.getElem?_eq_getElem (show i < l.length by omega)]
theorem Bk.frozen {w : World} {g : Nat} {t : TypeId} {l c : List Int} (h : Bk w g t l c) (i : Nat) : w.frozen? ⟨g, i, none⟩ = false := h.2.2.frozen i
theorem Bk.set {w : World} {g : Nat} {t : TypeId} {l c : List Int} (h : Bk w g t l c) {i : Nat} (hi : i < 5) {x : Int} (h0 : 0 ≤ x) (h1 : x ≤ 1048576) :
    Bk (w.setCell ⟨g, i, none⟩ (.int .i64 x)) g t (l.set i x) c := by
  refine ⟨by simpa using h.1, ?_, ?_⟩
  · intro y hy
    rcases List.mem_or_eq_of_mem_set hy with hy | rfl
    · exact h.2.1 y hy
    · exact ⟨h0, h1⟩
  · have := h.2.2.set i (.int .i64 x)
    rw [← List.map_set, List.set_append_left _ _ (by have := h.1; omega)] at this
    exact this
theorem Bk.bd {w : World} {g : Nat} {t : TypeId} {l c : List Int} (h : Bk w g t l c) (i : Nat) : 0 ≤ l.getD i 0 ∧ l.getD i 0 ≤ 1048576 := by
  by_cases hi : i < l.length
  · have := h.2.1 l[i] (List.getElem_mem hi)
    simpa [List.getD, List.getElem?_eq_getElem hi] using this
  · simp [List.getD, List.getElem?_eq_none (show l.length ≤ i by omega)]
theorem Bk.lt {w : World} {g : Nat} {t : TypeId} {l c : List Int} (h : Bk w g t l c) : g < w.heap.size := h.2.2.lt

theorem is_any (t : Int) (w : World) :
    Calls Tryz.prog 95 #[.int .i64 t] w fun e w' => e = .returned (.bool (decide (0 ≤ t ∧ t < 5))) ∧ w = w' := by
  by_cases h0 : 0 ≤ t
  · by_cases h5 : t < 5
    · go_enter Tryz.func95, Tryz.ntmps95
      go_wp2
      go_ret
      exact ⟨by simp [h0, h5], rfl⟩
    · go_enter Tryz.func95, Tryz.ntmps95
      go_wp2
      go_ret
      exact ⟨by simp [h0, h5], rfl⟩
  · go_enter Tryz.func95, Tryz.ntmps95
    go_wp2
    go_ret
    exact ⟨by simp; omega, rfl⟩

namespace Tm
def start (l : List Int) (t n : Int) : List Int := if 0 ≤ t ∧ t < 5 then l.set t.toNat (max 1 (min n 1048576)) else l
def stop (l : List Int) (t : Int) : List Int := if 0 ≤ t ∧ t < 5 then l.set t.toNat 0 else l
def left (l : List Int) (t : Int) : Int := if 0 ≤ t ∧ t < 5 then l.getD t.toNat 0 else 0
def dec (x : Int) : Int := if x = 0 then 0 else x - 1
def tickTo (l : List Int) (k : Nat) : List Int := (l.take k).map dec ++ l.drop k
def tick (l : List Int) : List Int := l.map dec
def overTo (l : List Int) (k : Nat) : List Int := ((List.range k).filter fun i => l.getD i 0 == 1).map fun i : Nat => (i : Int)
def over (l : List Int) : List Int := overTo l 5
def nextTo (l : List Int) (k : Nat) : Int := (l.take k).foldl (fun b n => if 0 < n ∧ (b = 0 ∨ n < b) then n else b) 0
def next (l : List Int) : Int := nextTo l 5
theorem tickTo_succ (l : List Int) (k : Nat) (hk : k < l.length) : tickTo l (k + 1) = (tickTo l k).set k (dec (l.getD k 0)) := by
  unfold tickTo
  have hm : (List.map dec (List.take k l)).length = k := by simp; omega
  rw [List.take_succ_eq_append_getElem hk, List.map_append, List.set_append_right _ _ (by omega), hm, Nat.sub_self, List.append_assoc]
  have hd : (List.drop k l).set 0 (dec (l.getD k 0)) = dec l[k] :: List.drop (k + 1) l := by
    rw [List.drop_eq_getElem_cons hk, List.set_cons_zero]
    simp [List.getD, List.getElem?_eq_getElem hk]
  rw [hd]
  simp
theorem tickTo_get (l : List Int) (k : Nat) : (tickTo l k).getD k 0 = l.getD k 0 := by
  unfold tickTo
  by_cases hk : k < l.length
  · simp [List.getD, List.getElem?_append_right, hk, Nat.min_eq_left (Nat.le_of_lt hk)]
  · have h1 : l.take k = l := List.take_of_length_le (by omega)
    have h2 : l.drop k = [] := List.drop_eq_nil_of_le (by omega)
    simp [List.getD, h1, h2, List.getElem?_eq_none (show l.length ≤ k by omega)]
theorem tickTo_all (l : List Int) (h : l.length = 5) : tickTo l 5 = tick l := by
  unfold tickTo tick
  rw [List.take_of_length_le (by omega), List.drop_eq_nil_of_le (by omega), List.append_nil]
theorem overTo_succ (l : List Int) (k : Nat) : overTo l (k + 1) = overTo l k ++ if l.getD k 0 = 1 then [(k : Int)] else [] := by
  unfold overTo
  rw [List.range_succ, List.filter_append, List.map_append]
  by_cases h : l.getD k 0 = 1
  · rw [if_pos h]; simp only [List.filter_cons, h]; rfl
  · rw [if_neg h]; simp only [List.filter_cons, beq_eq_false_iff_ne.2 h]; rfl
theorem overTo_len (l : List Int) (k : Nat) : (overTo l k).length ≤ k := by
  unfold overTo
  have := List.length_filter_le (fun i => l.getD i 0 == 1) (List.range k)
  simpa using this
theorem nextTo_succ (l : List Int) (k : Nat) (hk : k < l.length) : nextTo l (k + 1) = if 0 < l.getD k 0 ∧ (nextTo l k = 0 ∨ l.getD k 0 < nextTo l k) then l.getD k 0 else nextTo l k := by
  unfold nextTo
  rw [List.take_succ_eq_append_getElem hk, List.foldl_append]
  simp [List.getD, List.getElem?_eq_getElem hk]
end Tm

theorem start_any (g : Nat) (T : TypeId) (l c : List Int) (t n : Int) (w : World) (h : Bk w g T l c) :
    Calls Tryz.prog 88 #[.pointer (some ⟨g, 0, none⟩), .int .i64 t, .int .i64 n] w fun e w' => e = .returned (.tuple #[]) ∧ Bk w' g T (Tm.start l t n) c ∧ Touch (· = g) w w' := by
  by_cases h0 : 0 ≤ t ∧ t < 5
  · have hs : Hid (Bk (w.setCell ⟨g, t.toNat, none⟩ (.int .i64 (max 1 (min n 1048576)))) g T (Tm.start l t n) c) := by
      have := h.set (i := t.toNat) (by omega) (x := max 1 (min n 1048576)) (by omega) (by omega)
      unfold Tm.start
      rw [if_pos h0]
      exact this
    have hc := h.cell (i := t.toNat) (by omega)
    have hf := h.frozen t.toNat
    clear h
    obtain ⟨h0, h5⟩ := h0
    go_enter Tryz.func88, Tryz.ntmps88
    go_wp2
    all_goals go_end0
    · rename_i hn
      have e : max 1 (min n 1048576) = 1048576 := by omega
      exact ⟨rfl, by rw [e] at hs; exact hs.out, Touch.set1 _ _ _ _⟩
    · have e : max 1 (min n 1048576) = n := by omega
      exact ⟨rfl, by rw [e] at hs; exact hs.out, Touch.set1 _ _ _ _⟩
    · have e : max 1 (min n 1048576) = 1 := by omega
      exact ⟨rfl, by rw [e] at hs; exact hs.out, Touch.set1 _ _ _ _⟩
  · have hb : decide (0 ≤ t ∧ t < 5) = false := by simpa using h0
    have hl : Hid (Tm.start l t n = l) := by show Tm.start l t n = l; unfold Tm.start; rw [if_neg h0]
    clear h0
    go_enter Tryz.func88, Tryz.ntmps88
    go_wp2_with (go_at_call 95; refine (is_any _ _).mono ?_; rintro e w' ⟨rfl, rfl⟩)
    go_end0
    exact ⟨rfl, by rw [hl.out]; exact h, Touch.refl _ _⟩

theorem tmstop_any (g : Nat) (T : TypeId) (l c : List Int) (t : Int) (w : World) (h : Bk w g T l c) :
    Calls Tryz.prog 176 #[.pointer (some ⟨g, 0, none⟩), .int .i64 t] w fun e w' => e = .returned (.tuple #[]) ∧ Bk w' g T (Tm.stop l t) c ∧ Touch (· = g) w w' := by
  by_cases h0 : 0 ≤ t ∧ t < 5
  · have hs : Hid (Bk (w.setCell ⟨g, t.toNat, none⟩ (.int .i64 0)) g T (Tm.stop l t) c) := by
      have := h.set (i := t.toNat) (by omega) (x := 0) (by omega) (by omega)
      unfold Tm.stop
      rw [if_pos h0]
      exact this
    have hc := h.cell (i := t.toNat) (by omega)
    have hf := h.frozen t.toNat
    clear h
    obtain ⟨h0, h5⟩ := h0
    go_enter Tryz.func176, Tryz.ntmps176
    go_wp2
    go_end0
    exact ⟨rfl, hs.out, Touch.set1 _ _ _ _⟩
  · have hb : decide (0 ≤ t ∧ t < 5) = false := by simpa using h0
    have hl : Hid (Tm.stop l t = l) := by show Tm.stop l t = l; unfold Tm.stop; rw [if_neg h0]
    clear h0
    go_enter Tryz.func176, Tryz.ntmps176
    go_wp2_with (go_at_call 95; refine (is_any _ _).mono ?_; rintro e w' ⟨rfl, rfl⟩)
    go_end0
    exact ⟨rfl, by rw [hl.out]; exact h, Touch.refl _ _⟩

theorem left_any (g : Nat) (T : TypeId) (l c : List Int) (t : Int) (w : World) (h : Bk w g T l c) :
    Calls Tryz.prog 56 #[.pointer (some ⟨g, 0, none⟩), .int .i64 t] w fun e w' => e = .returned (.int .i64 (Tm.left l t)) ∧ w = w' := by
  by_cases h0 : 0 ≤ t ∧ t < 5
  · have hc := h.cell (i := t.toNat) (by omega)
    have hl : Hid (Tm.left l t = l.getD t.toNat 0) := by show Tm.left l t = _; unfold Tm.left; rw [if_pos h0]
    clear h
    obtain ⟨h0, h5⟩ := h0
    go_enter Tryz.func56, Tryz.ntmps56
    go_wp2
    go_ret
    exact ⟨by rw [hl.out]; simp, rfl⟩
  · have hb : decide (0 ≤ t ∧ t < 5) = false := by simpa using h0
    have hl : Hid (Tm.left l t = 0) := by show Tm.left l t = 0; unfold Tm.left; rw [if_neg h0]
    clear h0
    go_enter Tryz.func56, Tryz.ntmps56
    go_wp2_with (go_at_call 95; refine (is_any _ _).mono ?_; rintro e w' ⟨rfl, rfl⟩)
    go_ret
    exact ⟨by rw [hl.out]; rfl, rfl⟩

theorem runs_any (g : Nat) (T : TypeId) (l c : List Int) (t : Int) (w : World) (h : Bk w g T l c) :
    Calls Tryz.prog 139 #[.pointer (some ⟨g, 0, none⟩), .int .i64 t] w fun e w' => e = .returned (.bool (decide (0 < Tm.left l t))) ∧ w = w' := by
  go_enter Tryz.func139, Tryz.ntmps139
  go_wp2_with (go_at_call 56; refine (left_any _ _ _ _ _ _ h).mono ?_; rintro e w' ⟨rfl, rfl⟩)
  go_ret
  exact ⟨rfl, rfl⟩
end Go.Proofs.YtimhjdepngmejaaGreat

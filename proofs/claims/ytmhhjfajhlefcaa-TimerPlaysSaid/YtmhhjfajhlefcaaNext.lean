/-
  timer.Bank: Next, Clear.
-/
import Derived.Test.YtmhhjfajhlefcaaTimer
import Derived.Test.YtmhhjfajhlefcaaTy
namespace Go.Proofs.Ytmhhjfajhlefcaa
open Go.RowKit

theorem five {l : List Int} (h : l.length = 5) : ∃ a b c d e, l = [a, b, c, d, e] := by
  match l, h with
  | [a, b, c, d, e], _ => exact ⟨a, b, c, d, e, rfl⟩

theorem get5 {l : List Int} (h : l.length = 5) (k : Nat) (hk : k < 5) : (l.map (Value.int .i64)).toArray[((k : Int)).toNat]? = some (.int .i64 (l.getD k 0)) := by
  have e : ((k : Int)).toNat = k := by omega
  rw [e]
  simp [List.getD, List.getElem?_eq_getElem (show k < l.length by omega)]

theorem next_bd (l : List Int) (h : ∀ x ∈ l, 0 ≤ x ∧ x ≤ 1048576) (k : Nat) (hk : k ≤ l.length) : 0 ≤ Tm.nextTo l k ∧ Tm.nextTo l k ≤ 1048576 := by
  induction k with
  | zero => simp [Tm.nextTo]
  | succ k ih =>
    rw [Tm.nextTo_succ l k (by omega)]
    have h1 := ih (by omega)
    have h2 := h (l.getD k 0) (by simp [List.getD, List.getElem?_eq_getElem (show k < l.length by omega)])
    split <;> omega

set_option maxHeartbeats 1000000 in
theorem next_any (g : Nat) (T : TypeId) (l c : List Int) (w : World) (h : Bk w g T l c) :
    Calls Try.prog 16 #[.pointer (some ⟨g, 0, none⟩)] w fun e w' => e = .returned (.tuple #[.int .i64 (Tm.next l), .bool (decide (0 < Tm.next l))]) ∧ w = w' := by
  obtain ⟨i0, hi, hz0, hz1, hz2⟩ := info_parts Try.infoInt
  have hix : ∀ k : Nat, k < 5 → (Instr.index 23 (.agg (l.map (Value.int .i64)).toArray) (.int .i64 k)).run Try.prog w = .ok (.int .i64 (l.getD k 0)) w := fun k hk =>
    run_index_array w Try.underlying23 hi hz1 Try.underlying3 rfl (by omega) (by omega) (get5 h.1 k hk)
  have HX := Lib.hid hix
  clear hix hi hz0 hz1 hz2
  have hbd := Lib.hid h.2.1
  have hlen := Lib.hid h.1
  have hcell := h.2.2.cell
  have hfin : Hid (Tm.nextTo l 5 = Tm.next l) := rfl
  obtain ⟨x0, x1, x2, x3, x4, rfl⟩ := five h.1
  have c0 : w.cell? ⟨g, 0, none⟩ = some (.int .i64 x0) := hcell 0
  have c1 : w.cell? ⟨g, 1, none⟩ = some (.int .i64 x1) := hcell 1
  have c2 : w.cell? ⟨g, 2, none⟩ = some (.int .i64 x2) := hcell 2
  have c3 : w.cell? ⟨g, 3, none⟩ = some (.int .i64 x3) := hcell 3
  have c4 : w.cell? ⟨g, 4, none⟩ = some (.int .i64 x4) := hcell 4
  clear h hcell
  obtain ⟨L, HLL⟩ : ∃ L, Hid (L = [x0, x1, x2, x3, x4]) := ⟨_, rfl⟩
  rw [← HLL.out] at hbd hlen hfin HX
  have HE : Hid ((L.map (Value.int .i64)).toArray = #[.int .i64 x0, .int .i64 x1, .int .i64 x2, .int .i64 x3, .int .i64 x4]) := by rw [HLL.out]; rfl
  rw [HE.out] at HX
  rw [← HLL.out]
  go_enter Try.func16, Try.ntmps16
  go_wp2
  clear c0 c1 c2 c3 c4
  go_loop [4, 11] (fun b i => ∃ k : Nat, k ≤ 5 ∧ i = .int .i64 k ∧ b = .int .i64 (Tm.nextTo L k)) (fun _ i => 5 - (intOf i).toNat)
  case atStart => exact ⟨0, by omega, rfl, rfl⟩
  case round =>
    obtain ⟨k, hk, rfl, rfl⟩ := hrel
    by_cases hlt : k < 5
    · have hx := HX.out k hlt
      have hs := Tm.nextTo_succ L k (by rw [hlen.out]; exact hlt)
      have hb := next_bd L hbd.out k (by rw [hlen.out]; omega)
      have hb2 : 0 ≤ L.getD k 0 := by
        have := hbd.out (L.getD k 0) (by simp [List.getD, List.getElem?_eq_getElem (show k < L.length by rw [hlen.out]; exact hlt)])
        omega
      have HS := Lib.hid hs
      clear hs
      generalize L.getD k 0 = x at *
      generalize Tm.nextTo L k = y at *
      by_cases hx0 : 0 < x
      · by_cases hy0 : y = 0
        · have hyb : (y == 0) = true := by simp [hy0]
          have HY := Lib.hid hy0
          clear hy0
          go_wp2
          go_round
          case rel => exact ⟨k + 1, by omega, by go_num, by rw [HS.out, if_pos ⟨hx0, .inl HY.out⟩]⟩
          case measure => simp [intOf]; omega
        · have hyb : (y == 0) = false := by simp [hy0]
          by_cases hxy : x < y
          · go_wp2
            go_round
            case rel => exact ⟨k + 1, by omega, by go_num, by rw [HS.out, if_pos ⟨hx0, .inr hxy⟩]⟩
            case measure => simp [intOf]; omega
          · go_wp2
            go_round
            case rel => exact ⟨k + 1, by omega, by go_num, by rw [HS.out, if_neg (by omega)]⟩
            case measure => simp [intOf]; omega
      · go_wp2
        go_round
        case rel => exact ⟨k + 1, by omega, by go_num, by rw [HS.out, if_neg (by omega)]⟩
        case measure => simp [intOf]; omega
    · have e5 : k = 5 := by omega
      subst e5
      go_wp2
      go_ret2
      exact ⟨rfl, rfl⟩

theorem clear_any (g : Nat) (T : TypeId) (l : List Int) (w : World) (h : Bk w g T l []) :
    Calls Try.prog 19 #[.pointer (some ⟨g, 0, none⟩)] w fun e w' => e = .returned (.tuple #[]) ∧ Bk w' g T [0, 0, 0, 0, 0] [] ∧ Touch (· = g) w w' := by
  have hb := h
  obtain ⟨hl, _, hblk⟩ := h
  obtain ⟨a0, a1, a2, a3, a4, rfl⟩ := five hl
  have hc := hblk.cell
  have c0 := hc 0
  have c1 := hc 1
  have c2 := hc 2
  have c3 := hc 3
  have c4 := hc 4
  have f0 := hblk.frozen 0
  have f1 := hblk.frozen 1
  have f2 := hblk.frozen 2
  have f3 := hblk.frozen 3
  have f4 := hblk.frozen 4
  have HB := Lib.hid ((((((hb.set (i := 0) (by omega) (x := 0) (by omega) (by omega)).set (i := 1) (by omega) (x := 0) (by omega) (by omega)).set (i := 2) (by omega) (x := 0) (by omega) (by omega)).set (i := 3) (by omega) (x := 0) (by omega) (by omega)).set (i := 4) (by omega) (x := 0) (by omega) (by omega)))
  clear hb hl hblk hc
  simp at c0 c1 c2 c3 c4
  go_enter Try.func19, Try.ntmps19
  go_wp2
  go_end0
  refine ⟨rfl, HB.out, ?_⟩
  exact (((((Touch.refl (· = g) w).st rfl).st rfl).st rfl).st rfl).st rfl
end Go.Proofs.Ytmhhjfajhlefcaa

/-
  polliwoglaw08.TimerAlone: a timer that is let alone is over at its tick, and then only.
-/
import Derived.Test.YtmhhjfajhlefcaaAwakeT
import Derived.Test.YtmhhjfajhlefcaaNum
import Derived.Deep.DeepCutAuto
namespace Go.Proofs.Ytmhhjfajhlefcaa
open Go.RowKit

theorem over_count (l : List Int) (h : l.length = 5) (t : Int) (h0 : 0 ≤ t) (h5 : t < 5) : (Tm.over l).count t = if l.getD t.toNat 0 = 1 then 1 else 0 := by
  obtain ⟨a, b, c, d, e, rfl⟩ := five h
  have ht : t = 0 ∨ t = 1 ∨ t = 2 ∨ t = 3 ∨ t = 4 := by omega
  have hr : List.range 5 = [0, 1, 2, 3, 4] := rfl
  unfold Tm.over Tm.overTo
  rw [hr]
  by_cases ha : a = 1 <;> by_cases hb : b = 1 <;> by_cases hc : c = 1 <;> by_cases hd : d = 1 <;> by_cases he : e = 1 <;>
    rcases ht with rfl | rfl | rfl | rfl | rfl <;> simp [List.filter_cons, ha, hb, hc, hd, he]

/-- How many ticks timer t has, behind i - 1 rounds. -/
def leftAt (n i : Int) : Int := max 0 (n - (i - 1))

theorem set_get (l : List Int) (i j : Nat) (x : Int) (h : i ≠ j) : (l.set i x).getD j 0 = l.getD j 0 := by
  simp [List.getD, List.getElem?_set, h]
theorem tick_get (l : List Int) (j : Nat) : (Tm.tick l).getD j 0 = Tm.dec (l.getD j 0) := by
  unfold Tm.tick
  by_cases hj : j < l.length
  · simp [List.getD, List.getElem?_eq_getElem hj]
  · simp [List.getD, List.getElem?_eq_none (show l.length ≤ j by omega), Tm.dec]
theorem start_get (l : List Int) (t n : Int) (j : Nat) (h : t ≠ j) : (Tm.start l t n).getD j 0 = l.getD j 0 := by
  unfold Tm.start
  split
  · exact set_get _ _ _ _ (by omega)
  · rfl
theorem start_get_same (l : List Int) (hl : l.length = 5) (t n : Int) (h0 : 0 ≤ t) (h5 : t < 5) : (Tm.start l t n).getD t.toNat 0 = max 1 (min n 1048576) := by
  unfold Tm.start
  rw [if_pos ⟨h0, h5⟩]
  simp [List.getD, List.getElem?_set, show t.toNat < l.length by omega]
theorem leftAt_succ (n i : Int) : Tm.dec (leftAt n i) = leftAt n (i + 1) := by
  unfold Tm.dec leftAt
  split <;> omega

theorem start_zero (t n : Int) (h0 : 0 ≤ t) (h5 : t < 5) (hn1 : 1 ≤ n) (hn : n ≤ 300) : (Tm.start [0, 0, 0, 0, 0] t n).getD t.toNat 0 = n := by
  rw [start_get_same _ rfl _ _ h0 h5]; omega

set_option maxHeartbeats 4000000 in
theorem timerAlone.core (t n other : Int) (h0 : 0 ≤ t) (h5 : t < 5) (hn1 : 1 ≤ n) (hn : n ≤ 300) (a0 a1 : Int) (ha0 : (bits BinOp.and .i64 a0 255).tmod 5 = t)
    (m : Int) (hm : (if 300 < a1 then (300 : Int) else a1) = m) (hmn : (if 1 < m then m else 1) = n) (w : World) :
    Calls Try.prog 3 #[.int .i64 a0, .int .i64 a1, .int .i64 other] w fun e w' => e = .returned (.bool true) ∧ Below w.heap.size w w' := by
  have hb7 : 0 ≤ bits BinOp.and .i64 other 7 ∧ bits BinOp.and .i64 other 7 ≤ 7 := by rw [and_7]; omega
  go_enter Try.func3, Try.ntmps3
  go_wp2_with fail
  refine (awake_any _).mono ?_
  rintro e w1 ⟨rfl, t1⟩
  go_wp2_with fail
  clear ha0 hm hmn
  refine (start_any _ _ _ _ _ _ _ (Bk.zero w1 _)).mono ?_
  rintro e w2 ⟨rfl, b2, t2⟩
  have hget := start_zero t n h0 h5 hn1 hn
  generalize Tm.start [0, 0, 0, 0, 0] t n = l0 at b2 hget
  obtain ⟨x0, x1, x2, x3, x4, rfl⟩ := five b2.1
  have c0 : w2.cell? ⟨w1.heap.size, 0, none⟩ = some (.int .i64 x0) := b2.2.2.cell 0
  have c1 : w2.cell? ⟨w1.heap.size, 1, none⟩ = some (.int .i64 x1) := b2.2.2.cell 1
  have c2 : w2.cell? ⟨w1.heap.size, 2, none⟩ = some (.int .i64 x2) := b2.2.2.cell 2
  have c3 : w2.cell? ⟨w1.heap.size, 3, none⟩ = some (.int .i64 x3) := b2.2.2.cell 3
  have c4 : w2.cell? ⟨w1.heap.size, 4, none⟩ = some (.int .i64 x4) := b2.2.2.cell 4
  have HG := Lib.hid hget
  have HB := Lib.hid b2
  have HT : Hid (Fresh w w2) := (t1.alloc _).trans t2 (fun k hk hkg => by have := t1.size; have : k = w1.heap.size := hkg; omega)
  have hs1 := t1.size
  have hs2 : w1.heap.size < w2.heap.size := b2.lt
  clear hget b2 t1 t2
  go_wp2_with fail
  obtain ⟨wl, hwl⟩ : ∃ wl, Hid (wl = w2.alloc (.cells #[.int .i64 x0, .int .i64 x1, .int .i64 x2, .int .i64 x3, .int .i64 x4] 25)) := ⟨_, rfl⟩
  rw [← hwl.out]
  have HB' : Hid (Bk wl w1.heap.size 25 [x0, x1, x2, x3, x4] []) := by rw [hwl.out]; exact ⟨HB.out.1, HB.out.2.1, HB.out.2.2.alloc _⟩
  have HC : Hid (Bk wl w2.heap.size 25 [x0, x1, x2, x3, x4] []) := by rw [hwl.out]; exact ⟨HB.out.1, HB.out.2.1, Blk.new w2 _ _⟩
  have HT' : Hid (Fresh w wl) := by rw [hwl.out]; exact HT.out.alloc _
  clear hwl HB HT c0 c1 c2 c3 c4
  go_loopw [9] (fun i wr => ∃ (k : Int) (l : List Int), 1 ≤ k ∧ k ≤ n + 4 ∧ i = .int .i64 k ∧ Bk wr w1.heap.size 25 l [] ∧ l.getD t.toNat 0 = leftAt n k ∧ Touch (· = w1.heap.size) wl wr) (fun i _ => (n + 4 - intOf i).toNat)
  case atStart => exact ⟨1, _, by omega, by omega, rfl, HB'.out, by rw [HG.out]; unfold leftAt; omega, Touch.refl _ _⟩
  case round =>
    obtain ⟨k, l, hk1, hk4, rfl, hb, hg, ht⟩ := hrel
    have Hg := Lib.hid hg
    clear hg
    by_cases hlt : k ≤ n + 3
    · go_upto_region 10 with (fail)
      go_cut [36] (fun v wx => wx = wr ∧ ∃ q : Bool, v = .bool q ∧ Hid (q = true → t ≠ 1))
      case first =>
        by_cases ho : 0 < other
        · by_cases ht1 : t = 1
          · have hb1 : (t != 1) = false := by simpa using ht1
            have HT1 := Lib.hid ht1
            clear ht1
            go_wp2
            go_meet
            case rel => exact ⟨rfl, false, rfl, fun h => by cases h⟩
          · have hb1 : (t != 1) = true := by simpa using ht1
            go_wp2
            go_meet
            case rel => exact ⟨rfl, true, rfl, fun _ => ht1⟩
        · go_wp2
          go_meet
          case rel => exact ⟨rfl, false, rfl, fun h => by cases h⟩
      case rest =>
        obtain ⟨rfl, q, rfl, hq⟩ := hcut
        go_upto_if 36 with (fail)
        go_cut [] (fun wx => ∃ l3, Bk wx w1.heap.size 25 l3 [] ∧ Hid (l3.getD t.toNat 0 = leftAt n k) ∧ Touch (· = w1.heap.size) wl wx)
        case first =>
          cases q
          · go_wp2
            go_meet
            case rel => exact ⟨l, hb, Hg, ht⟩
          · go_wp2_with fail
            refine (start_any _ _ _ _ _ _ _ hb).mono ?_
            rintro e w3 ⟨rfl, b3, t3⟩
            have Hg3 : Hid ((Tm.start l 1 (1 + bits BinOp.and .i64 other 7)).getD t.toNat 0 = leftAt n k) := by
              show _ = _
              have := hq.out trivial
              rw [start_get _ _ _ _ (by omega)]; exact Hg.out
            go_wp2
            go_meet
            case rel => exact ⟨_, b3, Hg3, ht.trans t3 (fun _ _ h => h)⟩
        case rest =>
          obtain ⟨l3, b3, Hg3, t3⟩ := hcut
          clear hb Hg ht hb7
          go_wp2_with fail
          refine (tick_any _ _ (by decide) _ _ _ b3).mono ?_
          rintro e w4 ⟨A4, ca4, rfl, s4, b4, t4⟩
          have HN : Hid ((Tm.over l3).count t = (if leftAt n k = 1 then 1 else 0) ∧ Bk w4 w1.heap.size 25 (Tm.tick l3) [] ∧ (Tm.tick l3).getD t.toNat 0 = leftAt n (k + 1) ∧ Touch (· = w1.heap.size) wl w4) :=
            ⟨by rw [over_count _ b3.1 _ h0 h5, Hg3.out], b4, by rw [tick_get, Hg3.out, leftAt_succ], t3.trans t4 (fun _ _ h => h)⟩
          generalize Tm.over l3 = L at *
          clear b3 b4 t3 t4 Hg3
          go_wp2_with fail
          have hmx := s4.2.1
          have hlm := s4.1
          unfold maxLen at hmx
          go_loop [10, 43] (fun v i => ∃ j : Nat, j ≤ L.length ∧ i = .int .i64 j ∧ v = .int .i64 ((L.take j).count t : Nat)) (fun _ i => L.length - (intOf i).toNat)
          case atStart => exact ⟨0, by omega, rfl, by simp⟩
          case round =>
            obtain ⟨j, hj, rfl, rfl⟩ := hrel
            have hcl : (L.take j).count t ≤ j := Nat.le_trans List.count_le_length (by simp; omega)
            by_cases hjl : j < L.length
            · obtain ⟨g, o, rfl, hg, hc⟩ := s4.int_at j hjl
              have HC1 : Hid ((L.take (j + 1)).count t = (L.take j).count t + if L.getD j 0 = t then 1 else 0) := by
                show _ = _
                rw [List.take_succ_eq_append_getElem hjl, List.count_append]
                simp [List.getD, List.getElem?_eq_getElem hjl, List.count_cons]
              clear s4
              generalize (L.take j).count t = q0 at *
              generalize L.getD j 0 = x at *
              by_cases hx : x = t
              · have hb1 : (x == t) = true := by simp [hx]
                have hx2 := Lib.hid hx
                clear hx
                go_wp2
                go_round
                case rel => exact ⟨j + 1, by omega, by go_num, by rw [HC1.out, if_pos hx2.out]; go_num⟩
                case measure => simp [intOf]; omega
              · have hb1 : (x == t) = false := by simp [hx]
                go_wp2
                go_round
                case rel => exact ⟨j + 1, by omega, by go_num, by rw [HC1.out, if_neg hx]; go_num⟩
                case measure => simp [intOf]; omega
            · have hjj : j = L.length := by omega
              subst hjj
              have HC1 : Hid ((L.take L.length).count t = if leftAt n k = 1 then 1 else 0) := by show _ = _; rw [List.take_length]; exact HN.out.1
              rw [HC1.out]
              by_cases hk : k = n
              · have hl : leftAt n k = 1 := by unfold leftAt; omega
                rw [if_pos hl]
                have hkb : (k == n) = true := by simp [hk]
                have hk2 := Lib.hid hk
                clear hk hl HC1
                go_wp2
                go_roundw
                case rel => exact ⟨k + 1, _, by omega, by omega, by go_num, HN.out.2.1, HN.out.2.2.1, HN.out.2.2.2⟩
                case measure => simp [intOf]; omega
              · have hl : leftAt n k ≠ 1 := by unfold leftAt; omega
                rw [if_neg hl]
                have hkb : (k == n) = false := by simp [hk]
                clear HC1
                go_wp2
                go_roundw
                case rel => exact ⟨k + 1, _, by omega, by omega, by go_num, HN.out.2.1, HN.out.2.2.1, HN.out.2.2.2⟩
                case measure => simp [intOf]; omega
    · have hk4' : k = n + 4 := by omega
      subst hk4'
      have hge : ¬ (n + 4 ≤ n + 3) := by omega
      have HC2 : Hid (Bk wr w2.heap.size 25 [x0, x1, x2, x3, x4] []) := ⟨HC.out.1, HC.out.2.1, ht.blk HC.out.2.2 (by omega)⟩
      have HBel : Hid (Below w.heap.size w wr) := (HT'.out.trans ht (fun j hj hjg => by have : j = w1.heap.size := hjg; omega)).below (Nat.le_refl _) (fun _ _ h => h)
      have hz : Hid (l.getD t.toNat 0 = 0) := by show _ = _; rw [Hg.out]; unfold leftAt; omega
      have hl1 : Hid (Tm.left [x0, x1, x2, x3, x4] t = n) := by show _ = _; unfold Tm.left; rw [if_pos ⟨h0, h5⟩]; exact HG.out
      have hl2 : Hid (Tm.left l t = 0) := by show _ = _; unfold Tm.left; rw [if_pos ⟨h0, h5⟩]; exact hz.out
      have hB := Lib.hid hb
      clear hb ht
      go_wp2_with fail
      refine (left_any _ _ _ _ _ _ HC2.out).mono ?_
      rintro e w5 ⟨rfl, rfl⟩
      rw [hl1.out]
      go_wp2_with fail
      refine (runs_any _ _ _ _ _ _ hB.out).mono ?_
      rintro e w5 ⟨rfl, rfl⟩
      rw [hl2.out]
      go_wp2
      go_ret
      exact ⟨rfl, HBel.out⟩

theorem timerAlone.walk (a0 a1 a2 : Int) (w : World) (_h0 : (Lit.int .i64 a0).wf = true) (_h1 : (Lit.int .i64 a1).wf = true) (_h2 : (Lit.int .i64 a2).wf = true) :
    Calls Try.prog 3 #[.int .i64 a0, .int .i64 a1, .int .i64 a2] w fun e w' => e = .returned (.bool true) ∧ Below w.heap.size w w' := by
  have h1 : (bits BinOp.and .i64 a0 255).tmod 5 = a0 % 256 % 5 := by rw [and_255, Int.tmod_eq_emod_of_nonneg (by omega)]
  exact timerAlone.core (a0 % 256 % 5) _ a2 (by omega) (by omega) (by split <;> omega) (by split <;> (try split) <;> omega) a0 a1 h1 _ rfl rfl w
end Go.Proofs.Ytmhhjfajhlefcaa

/-
  span: Both: what is in two sets.
-/
import Derived.Test.YtngljhpplmbglaaSpanD
namespace Go.Proofs.Ytngljhpplmbglaa
open Go.RowKit

theorem mem_one (x : Int × Int) (n : Int) : Sp.mem [x] n ↔ Sp.In x n := by
  unfold Sp.mem Sp.In
  simp
theorem mem_take_succ (s : List (Int × Int)) (k : Nat) (hk : k < s.length) (n : Int) : Sp.mem (s.take (k + 1)) n ↔ Sp.mem (s.take k) n ∨ Sp.In (s.getD k (0, 0)) n := by
  rw [Sp.take_succ_getD s k hk, Sp.mem_append, mem_one]

def BothPost (s t : List (Int × Int)) (w : World) (e : Ending) (w' : World) : Prop :=
  ∃ B d S, e = .returned (.slice B S.length d) ∧ Mine spanE w w' B d S ∧ Sp.Good S ∧ ∀ n, Sp.mem S n ↔ Sp.mem s n ∧ Sp.mem t n

set_option maxHeartbeats 4000000 in
set_option maxRecDepth 4000 in
theorem both_any (A : Option Addr) (c : Nat) (s : List (Int × Int)) (B : Option Addr) (d : Nat) (t : List (Int × Int)) (w : World) (h : Rd spanE w A c s) (h2 : Rd spanE w B d t) (hgs : Sp.Good s) (hgt : Sp.Good t) (hls : s.length ≤ 1000000) (hlt : t.length ≤ 1000000) :
    Calls Try.prog 50 #[.slice A s.length c, .slice B t.length d] w (BothPost s t w) := by
  have hlc := h.1
  have hcm := h.2.1
  have hlc2 := h2.1
  have hcm2 := h2.2.1
  unfold maxLen at hcm hcm2
  have H := Lib.hid h
  have H2 := Lib.hid h2
  clear h h2
  go_enter Try.func50, Try.ntmps50
  go_wp2_with fail
  go_loopw [5, 12] (fun s5 i wr => ∃ (k : Nat) (C : Option Addr) (f : Nat) (M : List (Int × Int)), k ≤ s.length ∧ i = .int .i64 k ∧ s5 = .slice C M.length f ∧ Hid (M = Sp.cross (s.take k) t) ∧ Hid (Mine spanE w wr C f M)) (fun _ i _ => s.length - (intOf i).toNat)
  case atStart => exact ⟨0, none, 0, [], by omega, rfl, rfl, rfl, Mine.nil _ _⟩
  case round =>
    obtain ⟨k, C, f, M, hkL, rfl, rfl, HMe, HM⟩ := hrel
    by_cases hk : k < s.length
    · have hk1 : (k : Int) < (s.length : Int) := by omega
      have hd1 : decide ((k : Int) < (s.length : Int)) = true := decide_eq_true hk1
      have hk0 : (0 : Int) ≤ (k : Int) := by omega
      obtain ⟨g, o, rfl, _, c0, c1⟩ := (HM.out.keepsR H.out).span_at k hk
      have HS := Lib.hid (Sp.cross_succ s t k hk)
      rw [← HMe.out] at HS
      have hMl : Hid (M.length = k * t.length) := by unfold Hid; rw [HMe.out, Sp.cross_len, List.length_take, Nat.min_eq_left hkL]
      have hMb : M.length ≤ 1000000000000 := by
        rw [hMl.out]
        exact Nat.mul_le_mul (show k ≤ 1000000 by omega) hlt
      generalize s.getD k (0, 0) = y at *
      obtain ⟨p, q⟩ := y
      simp only at c0 c1
      go_upto_region 5 with (fail)
      have B5 := Lib.hid (Blk.new wr 97 [.int .i64 p, .int .i64 q])
      have M5 := Lib.hid (HM.out.alloc (.cells #[.int .i64 p, .int .i64 q] 97))
      have hne5 : Hid (∀ ad, C = some ad → ad.block < wr.heap.size) := HM.out.sl.lt
      obtain ⟨n5, hn5⟩ : ∃ n5, n5 = wr.heap.size := ⟨_, rfl⟩
      rw [← hn5] at B5 hne5 ⊢
      generalize wr.alloc (.cells #[.int .i64 p, .int .i64 q] 97) = w5 at *
      clear c0 c1 HM hn5
      go_wp2_with fail
      go_loopw [5, 18] (fun s5 i wx => ∃ (j : Nat) (C : Option Addr) (f : Nat) (N : List (Int × Int)), j ≤ t.length ∧ i = .int .i64 j ∧ s5 = .slice C N.length f ∧ Hid (N = M ++ (t.take j).map (Sp.meet (p, q))) ∧ Hid (Mine spanE w wx C f N) ∧ Hid (Blk wx n5 97 [.int .i64 p, .int .i64 q]) ∧ Hid (Apart (some ⟨n5, 0, none⟩) C)) (fun _ i _ => t.length - (intOf i).toNat)
      case atStart => exact ⟨0, C, f, M, by omega, rfl, rfl, by simp [Hid], M5, B5, fun ad ad' e e' => by injection e with e; subst e; have := hne5.out ad' e'; simp only; omega⟩
      case round =>
        clear M5 B5 hne5
        obtain ⟨j, C, f, N, hjL, rfl, rfl, HNe, M5, B5, A5⟩ := hrel
        by_cases hj : j < t.length
        · have hj1 : (j : Int) < (t.length : Int) := by omega
          have hdj : decide ((j : Int) < (t.length : Int)) = true := decide_eq_true hj1
          have hj0 : (0 : Int) ≤ (j : Int) := by omega
          obtain ⟨g2, o2, rfl, _, c0, c1⟩ := (M5.out.keepsR H2.out).span_at j hj
          have HS2 := Lib.hid (Sp.meets_succ (p, q) t j hj)
          have hNl : Hid (N.length = M.length + j) := by unfold Hid; rw [HNe.out]; simp; omega
          have hNb : N.length + 1 ≤ 8796093022208 := by have := hNl.out; omega
          generalize t.getD j (0, 0) = z at *
          obtain ⟨u, v⟩ := z
          simp only at c0 c1
          go_upto_region 8 with (fail)
          have B6 := Lib.hid (B5.out.alloc (.cells #[.int .i64 u, .int .i64 v] 97))
          have C6 := Lib.hid (Blk.new wr 97 [.int .i64 u, .int .i64 v])
          have M6 := Lib.hid (M5.out.alloc (.cells #[.int .i64 u, .int .i64 v] 97))
          generalize wr.alloc (.cells #[.int .i64 u, .int .i64 v] 97) = w6 at *
          have b0 : w6.cell? ⟨n5, 0, none⟩ = some (.int .i64 p) := B6.out.cell 0
          have b1 : w6.cell? ⟨n5, 1, none⟩ = some (.int .i64 q) := B6.out.cell 1
          have e0 : w6.cell? ⟨wr.heap.size, 0, none⟩ = some (.int .i64 u) := C6.out.cell 0
          have e1 : w6.cell? ⟨wr.heap.size, 1, none⟩ = some (.int .i64 v) := C6.out.cell 1
          have R6 := Lib.hid (Sl.rd (Sl.lit spanE w6 _ rfl #[.int .i64 (max p u), .int .i64 (min q v)] [(max p u, min q v)] rfl 1 rfl (by decide)))
          have hn6 : n5 < w6.heap.size := B6.out.lt
          clear c0 c1 M5 B5 C6
          go_wp2_with (at_builtin; refine app_span Try.underlying79 rfl rfl (l := N) (l2 := [(max p u, min q v)]) rfl rfl (M6.out.sl.alloc _) R6.out (by simp; omega) ?_; intro C8 f8 N8 w8 hN8 hs8 ht8 hB8)
          have M8 := Lib.hid ((M6.out.alloc _).app hs8 ht8 hB8)
          have B8 : Hid (Blk w8 n5 97 [.int .i64 p, .int .i64 q]) := ht8.blk (B6.out.alloc _) (fun e => A5.out.not ⟨n5, 0, none⟩ rfl e)
          have A8 : Hid (Apart (some ⟨n5, 0, none⟩) C8) := A5.out.app (fun ad e => by injection e with e; subst e; simp; omega) hB8
          have HN8 : Hid (N8 = M ++ (t.take (j + 1)).map (Sp.meet (p, q))) := by unfold Hid; rw [hN8.out, HNe.out, HS2.out, List.append_assoc]; rfl
          clear hs8 ht8 hB8 hN8 R6 b0 b1 e0 e1 M6 B6 A5 HNe HS2 hn6 hNl
          go_roundw
          case rel => exact ⟨j + 1, C8, f8, N8, by omega, by go_num, rfl, HN8, M8, B8, A8⟩
          case measure => simp [intOf]; omega
        · have hjj : j = t.length := by omega
          have HN8 : Hid (N = Sp.cross (s.take (k + 1)) t) := by unfold Hid; rw [HS.out, HNe.out, hjj, List.take_length]
          have hj' : ¬ ((j : Int) < (t.length : Int)) := by omega
          have hkl : k + 1 ≤ s.length := hk
          clear hj HNe HS B5 A5 hjj
          go_wp2
          go_roundw
          case rel => exact ⟨k + 1, C, f, N, hkl, by go_num, rfl, HN8, M5⟩
          case measure => simp [intOf]; omega
    · have hkk : k = s.length := by omega
      have HR : Hid (M = Sp.cross s t) := by unfold Hid; rw [HMe.out, hkk, List.take_length]
      have hk' : ¬ ((k : Int) < (s.length : Int)) := by omega
      have hMb : M.length ≤ 1099511627776 := by
        rw [HR.out, Sp.cross_len]
        exact Nat.le_trans (Nat.mul_le_mul hls hlt) (by decide)
      clear hk HMe hkk
      go_wp2_with fail
      refine (of_any C f M wr HM.out.sl.rd hMb).mono ?_
      rintro e w9 ⟨B9, d9, S9, rfl, M9, hof, _⟩
      have MR := Lib.hid (M9.back HM.out.fresh)
      have HG := Lib.hid hof.good
      have HME : Hid (∀ n, Sp.mem S9 n ↔ Sp.mem s n ∧ Sp.mem t n) := fun n => by
        rw [hof.mem_small (by rw [HR.out]; exact Sp.cross_small hgs hgt), HR.out, Sp.mem_cross]
      clear M9 hof
      go_wp2
      go_ret
      exact ⟨B9, d9, S9, rfl, MR.out, HG.out, HME.out⟩
end Go.Proofs.Ytngljhpplmbglaa

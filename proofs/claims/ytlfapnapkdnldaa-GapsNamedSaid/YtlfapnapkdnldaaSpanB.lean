/-
  span: Len, List, Clone, Same (Equal) of sets.
-/
import Derived.Test.YtlfapnapkdnldaaSpanQ
import Derived.Test.YtlfapnapkdnldaaSpanV
import Derived.Deep.DeepCutAuto
import Derived.Deep.QuietTactic
import Derived.BigQuiet
namespace Go.Proofs.Ytlfapnapkdnldaa
open Go.RowKit

set_option maxHeartbeats 2000000 in
theorem len_any (A : Option Addr) (c : Nat) (l : List (Int × Int)) (w : World) (h : Rd spanE w A c l) (hg : Sp.Good l) :
    Calls Try.prog 39 #[.slice A l.length c] w fun e w' => e = .returned (.int .i64 (Sp.nums l).length) ∧ Fresh w w' := by
  have hlc := h.1
  have hcm := h.2.1
  unfold maxLen at hcm
  have H := Lib.hid h
  clear h
  have HN := Lib.hid (Sp.nums_total l hg.1.1)
  go_enter Try.func39, Try.ntmps39
  go_wp2_with fail
  go_loopw [3, 8] (fun s3 i wr => ∃ (k : Nat) (n : Int), k ≤ l.length ∧ i = .int .i64 k ∧ s3 = .int .i64 n ∧ Hid (n = Sp.total (l.take k)) ∧ Hid (Fresh w wr)) (fun _ i _ => l.length - (intOf i).toNat)
  case atStart => exact ⟨0, 0, by omega, rfl, rfl, rfl, Touch.refl _ _⟩
  case round =>
    obtain ⟨k, n, hkL, rfl, rfl, HT, HF⟩ := hrel
    by_cases hk : k < l.length
    · have hk1 : (k : Int) < (l.length : Int) := by omega
      have hk0 : (0 : Int) ≤ (k : Int) := by omega
      obtain ⟨g, o, rfl, _, c0, c1⟩ := (H.out.touch HF.out (fun _ _ _ h => h)).span_at k hk
      have HS := Lib.hid (Sp.total_succ l k hk)
      have b1 := (hg.take k).total_bd
      have b2 := (hg.take (k + 1)).total_bd
      rw [← HT.out] at b1 HS
      rw [HS.out] at b2
      generalize l.getD k (0, 0) = a at *
      obtain ⟨x, y⟩ := a
      simp only at c0 c1 HS b2
      have hb3 : -2199023255553 ≤ y - x ∧ y - x ≤ 2199023255553 := by omega
      have F2 : Hid (Fresh w (wr.alloc (.cells #[.int .i64 x, .int .i64 y] 45))) := HF.out.alloc _
      have HT2 : Hid (n + (y - x) = Sp.total (l.take (k + 1))) := HS.out.symm
      clear HS HT HF
      go_wp2
      go_roundw
      case rel => exact ⟨k + 1, n + (y - x), by omega, by go_num, rfl, HT2, F2⟩
      case measure => simp [intOf]; omega
    · have hkk : k = l.length := by omega
      have HR : Hid (n = ((Sp.nums l).length : Int)) := by unfold Hid; rw [HT.out, hkk, List.take_length, HN.out]
      have hk' : ¬ ((k : Int) < (l.length : Int)) := by omega
      clear hk HT hkk
      go_wp2
      go_ret
      exact ⟨by rw [HR.out]; rfl, HF.out⟩

set_option maxHeartbeats 4000000 in
set_option maxRecDepth 4000 in
theorem list_any (A : Option Addr) (c : Nat) (l : List (Int × Int)) (w : World) (h : Rd spanE w A c l) (hg : Sp.Good l) (hl : (Sp.nums l).length ≤ 65536) :
    Calls Try.prog 42 #[.slice A l.length c] w fun e w' => ∃ B d, e = .returned (.slice B (Sp.nums l).length d) ∧ Mine intE w w' B d (Sp.nums l) := by
  have hlc := h.1
  have hcm := h.2.1
  unfold maxLen at hcm
  have H := Lib.hid h
  clear h
  go_enter Try.func42, Try.ntmps42
  go_wp2_with fail
  go_loopw [3, 9] (fun s3 i wr => ∃ (k : Nat) (B : Option Addr) (d : Nat) (N : List Int), k ≤ l.length ∧ i = .int .i64 k ∧ s3 = .slice B N.length d ∧ Hid (N = Sp.nums (l.take k)) ∧ Hid (Mine intE w wr B d N)) (fun _ i _ => l.length - (intOf i).toNat)
  case atStart => exact ⟨0, none, 0, [], by omega, rfl, rfl, rfl, Mine.nil _ _⟩
  case round =>
    obtain ⟨k, B, d, N, hkL, rfl, rfl, HN, HM⟩ := hrel
    by_cases hk : k < l.length
    · have hk1 : (k : Int) < (l.length : Int) := by omega
      have hd1 : decide ((k : Int) < (l.length : Int)) = true := decide_eq_true hk1
      have hk0 : (0 : Int) ≤ (k : Int) := by omega
      obtain ⟨g, o, rfl, _, c0, c1⟩ := (HM.out.keepsR H.out).span_at k hk
      have HS := Lib.hid (Sp.nums_succ l k hk)
      have hlt := hg.1.1 (l.getD k (0, 0)) (by rw [List.getD_eq_getElem?_getD, List.getElem?_eq_getElem hk]; exact List.getElem_mem hk)
      have hbd := hg.2 (l.getD k (0, 0)) (by rw [List.getD_eq_getElem?_getD, List.getElem?_eq_getElem hk]; exact List.getElem_mem hk)
      have hle := Sp.nums_take_len l (k + 1)
      rw [HS.out, ← HN.out, List.length_append, Sp.run_len] at hle
      rw [← HN.out] at HS
      generalize l.getD k (0, 0) = a at *
      obtain ⟨x, y⟩ := a
      simp only at c0 c1 HS hlt hbd hle
      have HM0 : Hid (Mine intE w (wr.alloc (.cells #[.int .i64 x, .int .i64 y] 45)) B d N) := HM.out.alloc _
      have HB0 : Hid (Blk (wr.alloc (.cells #[.int .i64 x, .int .i64 y] 45)) wr.heap.size 45 [.int .i64 x, .int .i64 y]) := Blk.new wr _ _
      clear HM HN
      go_wp2_with fail
      go_loopw [3, 6] (fun s3 n wx => ∃ (j : Int) (B : Option Addr) (d : Nat) (M : List Int), x ≤ j ∧ j ≤ y ∧ n = .int .i64 j ∧ s3 = .slice B M.length d ∧ Hid (M = N ++ Sp.run (x, j)) ∧ Hid (Mine intE w wx B d M) ∧ Hid (Blk wx wr.heap.size 45 [.int .i64 x, .int .i64 y])) (fun _ n _ => (y - intOf n).toNat)
      case atStart => exact ⟨x, B, d, N, by omega, by omega, rfl, rfl, by unfold Hid; rw [Sp.run_nil, List.append_nil], HM0, HB0⟩
      case round =>
        clear HM0 HB0 c0 c1
        obtain ⟨j, B, d, M, hxj, hjy, rfl, rfl, HMe, HM, HB⟩ := hrel
        have hMl : Hid (M.length = N.length + (j - x).toNat) := by unfold Hid; rw [HMe.out, List.length_append, Sp.run_len]
        have b0 := HB.out.cell 0
        have b1 := HB.out.cell 1
        simp only [List.getElem?_cons_succ, List.getElem?_cons_zero] at b0 b1
        by_cases hj : j < y
        · have hlen : (M.length : Int) < 65536 := by have := hMl.out; omega
          have hlen2 : M.length + 1 ≤ 17592186044416 := by omega
          have hdj : decide (j < y) = true := decide_eq_true hj
          go_wp2_with (at_builtin; refine app_int rfl rfl (l := M) (l2 := [j]) rfl rfl (HM.out.sl.alloc _) (Sl.rd (Sl.lit intE _ _ rfl _ _ rfl _ rfl (by decide))) (by simp; omega) ?_; intro B4 d4 M4 w4 hM4 hs4 ht4 hB4)
          have HM5 := Lib.hid ((HM.out.alloc (.cells #[.int .i64 j] 3)).app hs4 ht4 hB4)
          have HB5 : Hid (Blk w4 _ 45 [.int .i64 x, .int .i64 y]) := ht4.blk (HB.out.alloc _) (fun e => by
            obtain ⟨ad, e1, e2⟩ := Option.map_eq_some_iff.1 e
            exact HM.out.sl.blk_ne HB.out (by decide) ad e1 e2)
          have HMe5 : Hid (M4 = N ++ Sp.run (x, j + 1)) := by unfold Hid; rw [hM4.out, HMe.out, Sp.run_succ x j hxj, List.append_assoc]
          clear hs4 ht4 hB4 hM4 HM HMe HB b0 b1
          go_roundw
          case rel => exact ⟨j + 1, B4, d4, M4, by omega, by omega, rfl, rfl, HMe5, HM5, HB5⟩
          case measure => simp [intOf]; omega
        · have hjj : j = y := by omega
          have hdj : decide (j < y) = false := decide_eq_false hj
          have HN2 : Hid (M = Sp.nums (l.take (k + 1))) := by unfold Hid; rw [HS.out, HMe.out, hjj]
          have hkl : k + 1 ≤ l.length := hk
          clear hj hjj HMe HS hjy hMl HB
          go_wp2
          go_roundw
          case rel => exact ⟨k + 1, B, d, M, hkl, by go_num, rfl, HN2, HM⟩
          case measure => simp [intOf]; omega
    · have hkk : k = l.length := by omega
      have HR : Hid (N = Sp.nums l) := by unfold Hid; rw [HN.out, hkk, List.take_length]
      have hk' : ¬ ((k : Int) < (l.length : Int)) := by omega
      clear hk HN hkk
      go_wp2
      go_ret
      exact ⟨B, d, by rw [← HR.out]; rfl, HR.out ▸ HM.out⟩

set_option maxRecDepth 4000 in
theorem clone_any (A : Option Addr) (c : Nat) (l : List (Int × Int)) (w : World) (h : Rd spanE w A c l) (hl : l.length ≤ 1099511627776) :
    Calls Try.prog 53 #[.slice A l.length c] w fun e w' => ∃ B d, e = .returned (.slice B l.length d) ∧ Mine spanE w w' B d l := by
  have hlc := h.1
  have H := Lib.hid h
  cases A with
  | none =>
    obtain rfl : c = 0 := h.2.2.1 rfl
    obtain rfl : l = [] := List.eq_nil_of_length_eq_zero (by omega)
    clear h hlc H hl
    go_enter Try.func53, Try.ntmps53
    go_wp2
    go_ret
    exact ⟨none, 0, rfl, Mine.nil _ _⟩
  | some ad =>
    clear h
    have HM0 := Lib.hid (Mine.lit spanE w #[] [] rfl 0 rfl (by decide))
    go_enter Try.func53, Try.ntmps53
    go_wp2_with (at_builtin; refine app_span Try.underlying28 rfl rfl (l := []) (l2 := l) rfl rfl HM0.out.sl (H.out.alloc _) (by simp; omega) ?_; intro B4 d4 M4 w4 hM4 hs4 ht4 hB4)
    have HM5 := Lib.hid (HM0.out.app hs4 ht4 hB4)
    have HR : Hid (M4 = l) := by unfold Hid; rw [hM4.out, List.nil_append]
    go_ret
    exact ⟨B4, d4, by rw [← HR.out]; rfl, HR.out ▸ HM5.out⟩

set_option maxHeartbeats 2000000 in
theorem equal_any (A : Option Addr) (c : Nat) (l : List (Int × Int)) (B : Option Addr) (d : Nat) (m : List (Int × Int)) (w : World) (h : Rd spanE w A c l) (h2 : Rd spanE w B d m) :
    Calls Try.prog 52 #[.slice A l.length c, .slice B m.length d] w fun e w' => e = .returned (.bool (decide (l = m))) ∧ Fresh w w' := by
  have H := Lib.hid h
  have H2 := Lib.hid h2
  have hlc := h.1
  have hcm := h.2.1
  unfold maxLen at hcm
  clear h h2
  by_cases hlm : l.length = m.length
  · have hlm' : (l.length : Int) = (m.length : Int) := by omega
    go_enter Try.func52, Try.ntmps52
    go_wp2_with fail
    go_loopw [13] (fun i wr => ∃ k : Nat, k ≤ l.length ∧ i = .int .i64 k ∧ Hid (l.take k = m.take k) ∧ Hid (Fresh w wr)) (fun i _ => l.length - (intOf i).toNat)
    case atStart => exact ⟨0, by omega, rfl, by simp [Hid], Touch.refl _ _⟩
    case round =>
      obtain ⟨k, hk, rfl, he, ht⟩ := hrel
      by_cases hlt : k < l.length
      · obtain ⟨g1, o1, rfl, hg1, p0, p1⟩ := (H.out.touch ht.out (fun _ _ _ h => h)).span_at k hlt
        obtain ⟨g2, o2, rfl, hg2, q0, q1⟩ := (H2.out.touch ht.out (fun _ _ _ h => h)).span_at k (by omega)
        have hkm : (k : Int) < (m.length : Int) := by omega
        have hk0 : (0 : Int) ≤ (k : Int) := by omega
        have hkl : (k : Int) < (l.length : Int) := by omega
        have HS : Hid (l.take (k + 1) = m.take (k + 1) ↔ l.getD k (0, 0) = m.getD k (0, 0)) := by
          unfold Hid
          rw [Sp.take_succ_getD l k hlt, Sp.take_succ_getD m k (by omega), he.out]
          simp
        generalize l.getD k (0, 0) = x at *
        generalize m.getD k (0, 0) = y at *
        obtain ⟨x1, x2⟩ := x
        obtain ⟨y1, y2⟩ := y
        simp only at p0 p1 q0 q1
        by_cases hx1 : x1 = y1
        · subst hx1
          by_cases hx2 : x2 = y2
          · subst hx2
            have hT := Lib.hid (HS.out.2 rfl)
            clear he HS
            go_upto_region 6 with (fail)
            go_quiet (fail)
            go_wp2
            go_roundw
            case rel => exact ⟨k + 1, by omega, by go_num, hT, ht.out.drewN _⟩
            case measure => simp [intOf]; omega
          · have hb2 : (x2 == y2) = false := by simp [hx2]
            have hne : Hid (decide (l = m) = false) := decide_eq_false (fun e => by have := HS.out.1 (by rw [e]); simp at this; omega)
            go_upto_region 6 with (fail)
            go_quiet (fail)
            go_wp2
            go_ret
            exact ⟨by rw [hne.out]; rfl, ht.out.drewN _⟩
        · have hb1 : (x1 == y1) = false := by simp [hx1]
          have hne : Hid (decide (l = m) = false) := decide_eq_false (fun e => by have := HS.out.1 (by rw [e]); simp at this; omega)
          go_upto_region 6 with (fail)
          go_quiet (fail)
          go_wp2
          go_ret
          exact ⟨by rw [hne.out]; rfl, ht.out.drewN _⟩
      · have hkk : k = l.length := by omega
        have hlm2 : Hid (decide (l = m) = true) := decide_eq_true (by
          have := he.out
          rwa [hkk, List.take_length, hlm, List.take_length] at this)
        have hk' : ¬ ((k : Int) < (m.length : Int)) := by omega
        have hk2 : ¬ ((k : Int) < (l.length : Int)) := by omega
        clear he hlt hkk
        go_wp2
        go_ret
        exact ⟨by rw [hlm2.out]; rfl, ht.out⟩
  · have hne : Hid (decide (l = m) = false) := decide_eq_false (fun e => hlm (by rw [e]))
    have hlm' : ¬ (l.length : Int) = (m.length : Int) := by omega
    rw [hne.out]
    go_enter Try.func52, Try.ntmps52
    go_wp2
    go_ret
    exact ⟨rfl, Touch.refl _ _⟩
end Go.Proofs.Ytlfapnapkdnldaa

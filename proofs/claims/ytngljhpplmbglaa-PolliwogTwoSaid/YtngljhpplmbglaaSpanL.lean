/-
  span: List of a set.
-/
import Derived.Test.YtngljhpplmbglaaSpanQ
import Derived.Test.YtngljhpplmbglaaSpanV
import Derived.Deep.DeepCutAuto
import Derived.Deep.QuietTactic
import Derived.BigQuiet
namespace Go.Proofs.Ytngljhpplmbglaa
open Go.RowKit

set_option maxHeartbeats 4000000 in
set_option maxRecDepth 4000 in
theorem list_any (A : Option Addr) (c : Nat) (l : List (Int × Int)) (w : World) (h : Rd spanE w A c l) (hg : Sp.Good l) (hl : (Sp.nums l).length ≤ 65536) :
    Calls Try.prog 57 #[.slice A l.length c] w fun e w' => ∃ B d, e = .returned (.slice B (Sp.nums l).length d) ∧ Mine intE w w' B d (Sp.nums l) := by
  have hlc := h.1
  have hcm := h.2.1
  unfold maxLen at hcm
  have H := Lib.hid h
  clear h
  go_enter Try.func57, Try.ntmps57
  go_wp2_with fail
  go_loopw [3, 9] (fun s3 i wr => ∃ (k : Nat) (B : Option Addr) (d : Nat) (N : List Int), k ≤ l.length ∧ i = .int .i64 k ∧ s3 = .slice B N.length d ∧ Hid (N = Sp.nums (l.take k)) ∧ Hid (Mine intE w wr B d N)) (fun _ i _ => l.length - (intOf i).toNat)
  case atStart => exact ⟨0, none, 0, [], by omega, rfl, rfl, rfl, Mine.nil _ _⟩
  case round =>
    obtain ⟨k, B, d, N, hkL, rfl, rfl, HN, HM⟩ := hrel
    by_cases hk : k < l.length
    · have hk1 : (k : Int) < (l.length : Int) := by omega
      have hd1 : decide ((k : Int) < (l.length : Int)) = true := decide_eq_true hk1
      have hk0 : (0 : Int) ≤ (k : Int) := by omega
      obtain ⟨g, o, rfl, _, c0, c1⟩ := (HM.out.keepsR H.out).span_at k hk
      have HS := Lib.hid (Sp.nums_succ l k hk)
      have hlt := hg.1.1 (l.getD k (0, 0)) (by rw [List.getD_eq_getElem?_getD, List.getElem?_eq_getElem hk]; exact List.getElem_mem hk)
      have hbd := hg.2 (l.getD k (0, 0)) (by rw [List.getD_eq_getElem?_getD, List.getElem?_eq_getElem hk]; exact List.getElem_mem hk)
      have hle := Sp.nums_take_len l (k + 1)
      rw [HS.out, ← HN.out, List.length_append, Sp.run_len] at hle
      rw [← HN.out] at HS
      generalize l.getD k (0, 0) = a at *
      obtain ⟨x, y⟩ := a
      simp only at c0 c1 HS hlt hbd hle
      have HM0 : Hid (Mine intE w (wr.alloc (.cells #[.int .i64 x, .int .i64 y] 97)) B d N) := HM.out.alloc _
      have HB0 : Hid (Blk (wr.alloc (.cells #[.int .i64 x, .int .i64 y] 97)) wr.heap.size 97 [.int .i64 x, .int .i64 y]) := Blk.new wr _ _
      clear HM HN
      go_wp2_with fail
      go_loopw [3, 6] (fun s3 n wx => ∃ (j : Int) (B : Option Addr) (d : Nat) (M : List Int), x ≤ j ∧ j ≤ y ∧ n = .int .i64 j ∧ s3 = .slice B M.length d ∧ Hid (M = N ++ Sp.run (x, j)) ∧ Hid (Mine intE w wx B d M) ∧ Hid (Blk wx wr.heap.size 97 [.int .i64 x, .int .i64 y])) (fun _ n _ => (y - intOf n).toNat)
      case atStart => exact ⟨x, B, d, N, by omega, by omega, rfl, rfl, by unfold Hid; rw [Sp.run_nil, List.append_nil], HM0, HB0⟩
      case round =>
        clear HM0 HB0 c0 c1
        obtain ⟨j, B, d, M, hxj, hjy, rfl, rfl, HMe, HM, HB⟩ := hrel
        have hMl : Hid (M.length = N.length + (j - x).toNat) := by unfold Hid; rw [HMe.out, List.length_append, Sp.run_len]
        have b0 := HB.out.cell 0
        have b1 := HB.out.cell 1
        simp only [List.getElem?_cons_succ, List.getElem?_cons_zero] at b0 b1
        by_cases hj : j < y
        · have hlen : (M.length : Int) < 65536 := by have := hMl.out; omega
          have hlen2 : M.length + 1 ≤ 17592186044416 := by omega
          have hdj : decide (j < y) = true := decide_eq_true hj
          go_wp2_with (at_builtin; refine app_int rfl rfl (l := M) (l2 := [j]) rfl rfl (HM.out.sl.alloc _) (Sl.rd (Sl.lit intE _ _ rfl _ _ rfl _ rfl (by decide))) (by simp; omega) ?_; intro B4 d4 M4 w4 hM4 hs4 ht4 hB4)
          have HM5 := Lib.hid ((HM.out.alloc (.cells #[.int .i64 j] 3)).app hs4 ht4 hB4)
          have HB5 : Hid (Blk w4 _ 97 [.int .i64 x, .int .i64 y]) := ht4.blk (HB.out.alloc _) (fun e => by
            obtain ⟨ad, e1, e2⟩ := Option.map_eq_some_iff.1 e
            exact HM.out.sl.blk_ne HB.out (by decide) ad e1 e2)
          have HMe5 : Hid (M4 = N ++ Sp.run (x, j + 1)) := by unfold Hid; rw [hM4.out, HMe.out, Sp.run_succ x j hxj, List.append_assoc]
          clear hs4 ht4 hB4 hM4 HM HMe HB b0 b1
          go_roundw
          case rel => exact ⟨j + 1, B4, d4, M4, by omega, by omega, rfl, rfl, HMe5, HM5, HB5⟩
          case measure => simp [intOf]; omega
        · have hjj : j = y := by omega
          have hdj : decide (j < y) = false := decide_eq_false hj
          have HN2 : Hid (M = Sp.nums (l.take (k + 1))) := by unfold Hid; rw [HS.out, HMe.out, hjj]
          have hkl : k + 1 ≤ l.length := hk
          clear hj hjj HMe HS hjy hMl HB
          go_wp2
          go_roundw
          case rel => exact ⟨k + 1, B, d, M, hkl, by go_num, rfl, HN2, HM⟩
          case measure => simp [intOf]; omega
    · have hkk : k = l.length := by omega
      have HR : Hid (N = Sp.nums l) := by unfold Hid; rw [HN.out, hkk, List.take_length]
      have hk' : ¬ ((k : Int) < (l.length : Int)) := by omega
      clear hk HN hkk
      go_wp2
      go_ret
      exact ⟨B, d, by rw [← HR.out]; rfl, HR.out ▸ HM.out⟩

end Go.Proofs.Ytngljhpplmbglaa

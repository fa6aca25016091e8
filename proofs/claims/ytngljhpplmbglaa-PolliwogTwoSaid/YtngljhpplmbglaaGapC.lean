/-
  gaps.Count: how many numbers pairs have.
-/
import Derived.Test.YtngljhpplmbglaaGapE
import Derived.Test.YtngljhpplmbglaaSeq
import Derived.Test.YtngljhpplmbglaaMine
import Derived.Test.YtngljhpplmbglaaGapV
import Derived.Deep.DeepCutAuto
import Derived.Deep.QuietTactic
import Derived.BigQuiet
namespace Go.Proofs.Ytngljhpplmbglaa
open Go.RowKit

theorem cnt_any (a n s : Int) (g : Nat) (w : World) (hb : Blk w g 3 [.int .i64 s]) (h1 : -4611686018427387904 ≤ s + n) (h2 : s + n < 4611686018427387904) :
    Calls Try.prog 42 #[.int .u32 a, .int .i64 n, .pointer (some ⟨g, 0, none⟩)] w fun e w' => e = .returned (.tuple #[]) ∧ Blk w' g 3 [.int .i64 (s + n)] ∧ Touch (· = g) w w' := by
  have c0 : w.cell? ⟨g, 0, none⟩ = some (.int .i64 s) := hb.cell 0
  have f0 := hb.frozen 0
  have HB := Lib.hid (hb.set 0 (.int .i64 (s + n)))
  have HT := Lib.hid (Touch.set1 w g 0 (.int .i64 (s + n)))
  clear hb
  go_enter Try.func42, Try.ntmps42
  go_wp2
  go_end0
  exact ⟨rfl, HB.out, HT.out⟩

set_option maxHeartbeats 2000000 in
theorem pairs_cnt (A : Option Addr) (c : Nat) (l : List Int) (g : Nat) (w : World) (h : Rd numE w A c l) (hA : ∀ ad, A = some ad → 0 < l.length → ad.block ≠ g) (hb : Blk w g 3 [.int .i64 0]) (hl : l.length ≤ 1000000) :
    Calls Try.prog 41 #[.slice A l.length c, .func (.func 42) #[] #[.pointer (some ⟨g, 0, none⟩)]] w fun e w' => e = .returned (.tuple #[]) ∧ Blk w' g 3 [.int .i64 (Gp.gc l (l.length / 2))] ∧ Touch (· = g) w w' := by
  have H := Lib.hid h
  have HA := Lib.hid hA
  have HB := Lib.hid hb
  clear h hA hb
  go_enter Try.func41, Try.ntmps41
  go_wp2_with fail
  go_loopw [4] (fun i wr => ∃ k : Nat, 2 * k ≤ l.length ∧ i = .int .i64 (2 * (k : Int)) ∧ Hid (Blk wr g 3 [.int .i64 (Gp.gc l k)]) ∧ Hid (Touch (· = g) w wr)) (fun i _ => (l.length - intOf i).toNat)
  case atStart => exact ⟨0, by omega, by go_num, HB, Touch.refl _ _⟩
  case round =>
    clear HB
    obtain ⟨k, hkl, rfl, HB, HT⟩ := hrel
    by_cases hk : 2 * k + 1 < l.length
    · have hk1 : 2 * (k : Int) + 1 < (l.length : Int) := by omega
      have hdk : decide (2 * (k : Int) + 1 < (l.length : Int)) = true := decide_eq_true hk1
      have hk2 : 2 * (k : Int) < (l.length : Int) := by omega
      have hk0 : (0 : Int) ≤ 2 * (k : Int) := by omega
      have hk3 : (0 : Int) ≤ 2 * (k : Int) + 1 := by omega
      have ht1 : (2 * (k : Int)).toNat = 2 * k := by omega
      have ht2 : (2 * (k : Int) + 1).toNat = 2 * k + 1 := by omega
      have HR := Lib.hid (H.out.touch HT.out (fun ad e hp => HA.out ad e hp))
      obtain ⟨ga, oa, rfl, _, c0⟩ := HR.out.num_at (2 * k) (by omega)
      obtain ⟨gb, ob, e2, _, c1⟩ := HR.out.num_at (2 * k + 1) (by omega)
      cases e2
      have HGS : Hid (Gp.gc l (k + 1) = Gp.gc l k + Gp.pv (l.getD (2 * k) 0) (l.getD (2 * k + 1) 0)) := rfl
      have hgb := Gp.gc_bd l k
      generalize l.getD (2 * k) 0 = a at *
      generalize l.getD (2 * k + 1) 0 = b at *
      generalize hs : Gp.gc l k = s at *
      clear HR
      go_upto_region 3 with (fail)
      go_quiet ((go_at_call 20; refine Calls.quiet_of_same (to_any _ _ _)))
      have HT2 := Lib.hid (HT.out.drewN nq)
      have HB2 := Lib.hid (HB.out.drewN nq)
      have c0' : (wr.drewN nq).cell? ⟨ga, oa + 2 * k, none⟩ = some (.int .u32 a) := c0
      clear c0 c1 HB HT
      generalize wr.drewN nq = w2 at *
      have HPV : Hid (Gp.pv a b = if (b - a) % 16777216 ≤ 8388608 then (b - a) % 16777216 else 0) := rfl
      have hn0 : 0 ≤ (b - a) % 16777216 := by omega
      generalize (b - a) % 16777216 = n at *
      by_cases hn8 : n ≤ 8388608
      · rw [if_pos hn8] at HPV
        rw [HPV.out] at HGS
        go_wp2_with fail
        refine (low_any a w2).mono ?_
        rintro e w3 ⟨rfl, rfl⟩
        simp only
        go_wp2_with fail
        refine (cnt_any _ n s g w3 HB2.out (by omega) (by omega)).mono ?_
        rintro e w4 ⟨rfl, hb4, ht4⟩
        have HB4 : Hid (Blk w4 g 3 [.int .i64 (Gp.gc l (k + 1))]) := by rw [HGS.out]; exact hb4
        have HT4 := Lib.hid (HT2.out.trans ht4 (fun _ _ h => h))
        clear hb4 ht4 HB2 HT2 c0'
        simp only
        go_wp2
        go_roundw
        case rel => exact ⟨k + 1, by omega, by first | go_num | (congr 1; omega), HB4, HT4⟩
        case measure => simp [intOf]; omega
      · rw [if_neg hn8] at HPV
        rw [HPV.out, Int.add_zero] at HGS
        have HB4 : Hid (Blk w2 g 3 [.int .i64 (Gp.gc l (k + 1))]) := by rw [HGS.out]; exact HB2.out
        clear HB2 c0'
        go_wp2
        go_roundw
        case rel => exact ⟨k + 1, by omega, by first | go_num | (congr 1; omega), HB4, HT2⟩
        case measure => simp [intOf]; omega
    · have hkk : k = l.length / 2 := by omega
      have hk1 : ¬ 2 * (k : Int) + 1 < (l.length : Int) := by omega
      have hdk : decide (2 * (k : Int) + 1 < (l.length : Int)) = false := decide_eq_false hk1
      rw [hkk] at HB
      clear hk
      go_wp2
      go_end0
      exact ⟨rfl, HB.out, HT.out⟩

theorem count_any (A : Option Addr) (c : Nat) (l : List Int) (w : World) (h : Rd numE w A c l) (hl : l.length ≤ 1000000) :
    Calls Try.prog 19 #[.slice A l.length c] w fun e w' => e = .returned (.int .i64 (Gp.gc l (l.length / 2))) ∧ Fresh w w' := by
  have H := Lib.hid h
  clear h
  go_enter Try.func19, Try.ntmps19
  go_wp2_with fail
  have B1 := Lib.hid (Blk.new w 3 [.int .i64 0])
  have F1 : Hid (Fresh w (w.alloc (.cells #[.int .i64 0] 3))) := (Touch.refl _ w).alloc _
  have HP := Lib.hid (pairs_cnt A c l w.heap.size _ (H.out.touch F1.out (fun _ _ _ h => h)) (fun ad e hp he => by
    have := H.out.lt hp ad e
    omega) B1.out hl)
  generalize w.alloc (.cells #[.int .i64 0] 3) = w1 at *
  refine HP.out.mono ?_
  rintro e w2 ⟨rfl, hb, ht⟩
  have F2 : Hid (Fresh w w2) := F1.out.trans ht (fun k hk e => by omega)
  have c0 : w2.cell? ⟨w.heap.size, 0, none⟩ = some (.int .i64 (Gp.gc l (l.length / 2))) := hb.cell 0
  obtain ⟨z, hz⟩ : ∃ z, z = Gp.gc l (l.length / 2) := ⟨_, rfl⟩
  rw [← hz] at c0
  have HZ := Lib.hid hz
  clear hb ht HP B1 F1 hz
  simp only
  go_wp2
  go_ret
  exact ⟨by rw [← HZ.out]; rfl, F2.out⟩
end Go.Proofs.Ytngljhpplmbglaa

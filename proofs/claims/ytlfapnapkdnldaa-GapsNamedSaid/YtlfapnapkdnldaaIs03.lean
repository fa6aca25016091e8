/-
  polliwoglaw03: is: a set that is just these numbers is told so.
-/
import Derived.Test.YtlfapnapkdnldaaSpanB
import Derived.Test.YtlfapnapkdnldaaRef03c
import Derived.Test.YtlfapnapkdnldaaSame
import Derived.Deep.DeepCutAuto
import Derived.Deep.QuietTactic
import Derived.BigQuiet
namespace Go.Proofs.Ytlfapnapkdnldaa
open Go.RowKit

/-- A good set and the rising list of its numbers. -/
structure Sp.IsNums (S : List (Int × Int)) (N : List Int) : Prop where
  good : Sp.Good S
  rising : Sp.Rising N
  same : ∀ n, n ∈ N ↔ Sp.mem S n
theorem Sp.IsNums.nums {S : List (Int × Int)} {N : List Int} (h : Sp.IsNums S N) : Sp.nums S = N :=
  Sp.Rising.uniq (Sp.nums_rising S h.good.1) h.rising fun n => by rw [Sp.mem_nums, h.same]
theorem Sp.IsNums.ends {S : List (Int × Int)} {N : List Int} (h : Sp.IsNums S N) : Sp.ends N N.length = S :=
  Sp.Canon.uniq (Sp.ends_ok N N.length h.rising).1 h.good.1 fun n => by rw [(Sp.ends_ok N N.length h.rising).2, List.take_length, h.same]

set_option maxHeartbeats 4000000 in
set_option maxRecDepth 4000 in
theorem is_true (A : Option Addr) (c : Nat) (S : List (Int × Int)) (B : Option Addr) (d : Nat) (N : List Int) (w : World) (h : Rd spanE w A c S) (h2 : Rd intE w B d N) (hn : Sp.IsNums S N) (hl : N.length ≤ 65536) :
    Calls Try.prog 23 #[.slice A S.length c, .slice B N.length d] w fun e w' => e = .returned (.bool true) ∧ Fresh w w' := by
  have hlc := h.1
  have hcm := h.2.1
  unfold maxLen at hcm
  have H := Lib.hid h
  have H2 := Lib.hid h2
  clear h h2
  have HB : Hid (∀ n ∈ N, -4611686018427387904 ≤ n ∧ n < 4611686018427387904) := fun n hm => by
    have := hn.good.mem_bd ((hn.same n).1 hm)
    omega
  have hSN : S.length ≤ N.length := by
    have := Sp.Canon.len_nums hn.good.1.1
    rwa [hn.nums] at this
  have HSp := Lib.hid (spans_any B d N w H2.out hn.rising (by omega) HB.out)
  rw [hn.ends] at HSp
  have HLe := Lib.hid (fun W h => len_any A c S W h hn.good)
  have HLi := Lib.hid (fun W h => list_any A c S W h hn.good (by rw [hn.nums]; exact hl))
  rw [hn.nums] at HLe HLi
  have HSa : Hid (∀ (W : World) (C : Option Addr) (f : Nat), Rd intE W C f N → Rd intE W B d N → Calls Try.prog 26 #[.slice C N.length f, .slice B N.length d] W fun e w' => e = .returned (.bool true) ∧ Fresh W w') := fun W C f h1 h2 => by
    have := same_any C B f d N N W h1 h2
    rwa [decide_eq_true rfl] at this
  have hfl := Sp.flat_len S
  have HG := Lib.hid (fun k hk => Sp.flat_getD S k hk)
  clear hn HB
  generalize Sp.flat S = E at *
  go_enter Try.func23, Try.ntmps23
  go_wp2_with fail
  refine HSp.out.mono ?_
  rintro e w2 ⟨C, f, rfl, M2⟩
  have HM2 := Lib.hid M2
  clear M2 HSp
  rw [hfl]
  have hle : ((2 * S.length : Nat) : Int) = 2 * (S.length : Int) := by omega
  simp only
  go_wp2_with fail
  have T2 := Lib.hid HM2.out.fresh
  refine (HLe.out w2 (H.out.touch T2.out (fun _ _ _ h => h))).mono ?_
  rintro e w3 ⟨rfl, f3⟩
  have F3 := Lib.hid f3
  have T3 := Lib.hid (T2.out.trans f3 (fun _ _ h => h))
  clear f3
  simp only
  go_wp2_with fail
  refine (HLi.out w3 (H.out.touch T3.out (fun _ _ _ h => h))).mono ?_
  rintro e w4 ⟨D, e4, rfl, M4⟩
  have HM4 := Lib.hid M4
  have T4 := Lib.hid (T3.out.trans M4.fresh (fun _ _ h => h))
  clear M4
  simp only
  go_wp2_with fail
  refine (HSa.out w4 D e4 HM4.out.sl.rd (H2.out.touch T4.out (fun _ _ _ h => h))).mono ?_
  rintro e w5 ⟨rfl, f5⟩
  have T5 := Lib.hid (T4.out.trans f5 (fun _ _ h => h))
  have HE : Hid (Rd intE w5 C f E) := HM2.out.sl.rd.touch ((F3.out.trans HM4.out.fresh (fun _ _ h => h)).trans f5 (fun _ _ h => h)) (fun _ _ _ h => h)
  clear f5 HM2 HM4 F3 T2 T3 T4 HLe HLi HSa
  have hEb := HE.out.2.1
  simp only
  go_wp2_with fail
  go_loopw [32] (fun i wr => ∃ (k : Nat), k ≤ S.length ∧ i = .int .i64 k ∧ Hid (Fresh w5 wr)) (fun i _ => S.length - (intOf i).toNat)
  case atStart => exact ⟨0, by omega, rfl, Touch.refl _ _⟩
  case round =>
    obtain ⟨k, hkL, rfl, HF⟩ := hrel
    by_cases hk : k < S.length
    · have hk1 : (k : Int) < (S.length : Int) := by omega
      have hk0 : (0 : Int) ≤ (k : Int) := by omega
      obtain ⟨g, o, rfl, _, c0, c1⟩ := (H.out.touch (T5.out.trans HF.out (fun _ _ h => h)) (fun _ _ _ h => h)).span_at k hk
      obtain ⟨hg1, hg2⟩ := HG.out k hk
      generalize S.getD k (0, 0) = y at *
      obtain ⟨a, b⟩ := y
      simp only at c0 c1 hg1 hg2
      go_upto_region 7 with (fail)
      have B6 := Lib.hid (Blk.new wr 45 [.int .i64 a, .int .i64 b])
      have F6 : Hid (Fresh w5 (wr.alloc (.cells #[.int .i64 a, .int .i64 b] 45))) := HF.out.alloc _
      generalize wr.alloc (.cells #[.int .i64 a, .int .i64 b] 45) = w6 at *
      obtain ⟨g2, o2, rfl, _, p0⟩ := (HE.out.touch F6.out (fun _ _ _ h => h)).int_at (2 * k) (by omega)
      obtain ⟨g3, o3, e3, _, p1⟩ := (HE.out.touch F6.out (fun _ _ _ h => h)).int_at (2 * k + 1) (by omega)
      cases e3
      rw [hg1] at p0
      rw [hg2] at p1
      have e0 : w6.cell? ⟨wr.heap.size, 0, none⟩ = some (.int .i64 a) := B6.out.cell 0
      have e1 : w6.cell? ⟨wr.heap.size, 1, none⟩ = some (.int .i64 b) := B6.out.cell 1
      have hE1 : (2 : Int) * (k : Int) < 2 * (S.length : Int) := by omega
      have hE2 : (2 : Int) * (k : Int) + 1 < 2 * (S.length : Int) := by omega
      have hE3 : (0 : Int) ≤ 2 * (k : Int) := by omega
      have hE4 : (0 : Int) ≤ 2 * (k : Int) + 1 := by omega
      have ht1 : (2 * (k : Int)).toNat = 2 * k := by omega
      have ht2 : (2 * (k : Int) + 1).toNat = 2 * k + 1 := by omega
      clear c0 c1 HF hg1 hg2
      go_quiet (fail)
      have F7 : Hid (Fresh w5 (w6.drewN nq)) := F6.out.drewN nq
      clear p0 p1 e0 e1 B6 HE
      go_wp2
      go_roundw
      case rel => exact ⟨k + 1, hk, by go_num, F7⟩
      case measure => simp [intOf]; omega
    · have hk' : ¬ ((k : Int) < (S.length : Int)) := by omega
      clear hk
      go_wp2
      go_ret
      exact ⟨rfl, T5.out.trans HF.out (fun _ _ h => h)⟩
end Go.Proofs.Ytlfapnapkdnldaa

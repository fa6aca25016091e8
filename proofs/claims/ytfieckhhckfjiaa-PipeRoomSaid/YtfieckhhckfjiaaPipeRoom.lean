/-
  polliwoglaw17.PipeRoom: as many frames are there as were put and not taken, never more than may be.
-/
import Derived.Test.YtfieckhhckfjiaaPipeA
import Derived.Test.YtfieckhhckfjiaaOpen
import Derived.Deep.DeepCutAuto
import Derived.Deep.CutBlock
namespace Go.Proofs.Ytfieckhhckfjiaa
open Go.RowKit

theorem and31_inp (y : Int) : 0 ≤ bits .and .i64 y 31 ∧ bits .and .i64 y 31 ≤ 31 := by rw [and_31]; omega

set_option maxRecDepth 100000 in
set_option maxHeartbeats 4000000 in
theorem pipeRoom.core (x : Int) (m : Nat) (hx : 1 + bits .and .i64 x 31 = (m : Int)) (hm : 1 ≤ m ∧ m ≤ 32) (A : Option Addr) (c : Nat) (L : List Int) (w : World) (hr : Rd intE w A c L) :
    Calls Try.prog 9 #[.int .i64 x, .slice A L.length c] w fun e w' => e = .returned (.bool true) ∧ Below w.heap.size w w' := by
  have hlc := hr.1
  have hcm := hr.2.1
  unfold maxLen at hcm
  have hx1 := and31_inp x
  have HR := Lib.hid hr
  clear hr
  go_enter Try.func9, Try.ntmps9
  go_wp2_with fail
  refine (awake17_any _).mono ?_
  rintro e w1 ⟨rfl, t1⟩
  go_wp2_with fail
  refine (pipe_new (m : Int) m (by show _ = _; omega) w w1 t1).mono ?_
  rintro e w2 ⟨gp, rfl, h2⟩
  have H2 := Lib.hid h2
  clear hx hx1 h2 t1
  go_wp2_with fail
  go_loopw [6, 7] (fun s6 i wr => ∃ (k n put came bad : Nat) (q : List ByteArray), k ≤ 60 ∧ k ≤ L.length ∧ s6 = .int .i64 n ∧ i = .int .i64 k ∧ q.length = n ∧ put = came + bad + n ∧ put ≤ k ∧ Hid (PlSt w wr gp m q put came bad none 0 [])) (fun _ i _ => 60 - (intOf i).toNat)
  case atStart => exact ⟨0, 0, 0, 0, 0, [], by omega, by omega, rfl, rfl, rfl, rfl, by omega, H2⟩
  case round =>
    clear H2
    obtain ⟨k, n, put, came, bad, q, hk60, hkL, rfl, rfl, hqn, hpc, hpk, HS⟩ := hrel
    rcases (show (k < L.length ∧ k < 60) ∨ ¬ ((k : Int) < (L.length : Int)) ∨ ((k : Int) < (L.length : Int) ∧ ¬ ((k : Int) < 60)) by omega) with ⟨hkl, hk2⟩ | hend
    · have hk1 : (k : Int) < (L.length : Int) := by omega
      have hk2 : (k : Int) < 60 := by omega
      have hd1 : decide ((k : Int) < (L.length : Int)) = true := decide_eq_true hk1
      have hd2 : decide ((k : Int) < 60) = true := decide_eq_true hk2
      have hqm := HS.out.len_le
      obtain ⟨gA, oA, rfl, hgA, hc⟩ := (HR.out.touch HS.out.fresh (fun _ _ _ h => h)).int_at k hkl
      generalize L.getD k 0 = y at *
      obtain ⟨y1, hy1⟩ : ∃ y1, bits .and .i64 y 1 = y1 := ⟨_, rfl⟩
      have hy01 : y1 = 0 ∨ y1 = 1 := by rw [← hy1, and_1]; omega
      clear hgA
      obtain ⟨y2, hy2⟩ : ∃ y2, bits .and .i64 (y / 2) 1 = y2 := ⟨_, rfl⟩
      have hy02 : y2 = 0 ∨ y2 = 1 := by rw [← hy2, and_1]; omega
      have HY := Lib.hid hy02
      clear hy02
      go_upto_if 38 with (fail)
      go_cut [6] (fun v wx => ∃ (n' put' came' bad' : Nat) (q' : List ByteArray), v = .int .i64 n' ∧ q'.length = n' ∧ put' = came' + bad' + n' ∧ put' ≤ k + 1 ∧ Hid (PlSt w wx gp m q' put' came' bad' none 0 []))
      case first =>
        rcases hy01 with rfl | rfl
        · by_cases hnm : n < m
          · have hn1 : (n : Int) < (m : Int) := by omega
            go_wp2_with fail
            refine (pipe_put ⟨#[120]⟩ HS.out (by omega)).mono ?_
            rintro e w3 ⟨rfl, h3⟩
            rw [hqn, if_pos hnm, if_pos hnm] at h3
            rw [hqn, if_pos hnm]
            have H3 := Lib.hid h3
            have hq3 : (q ++ [(⟨#[120]⟩ : ByteArray)]).length = n + 1 := by simp [hqn]
            have HQ := Lib.hid hqn
            clear h3 HS hqn
            go_wp2
            · go_meet
              case rel => exact ⟨n + 1, put + 1, came, bad, _, by first | go_num | (congr 1; omega), hq3, by omega, by omega, H3⟩
          · have hn1 : ¬ (n : Int) < (m : Int) := by omega
            go_wp2_with fail
            refine (pipe_put ⟨#[120]⟩ HS.out (by omega)).mono ?_
            rintro e w3 ⟨rfl, h3⟩
            rw [hqn, if_neg hnm, if_neg hnm] at h3
            rw [hqn, if_neg hnm]
            have H3 := Lib.hid h3
            have HQ := Lib.hid hqn
            clear h3 HS
            go_wp2
            · go_meet
              case rel => exact ⟨n, put, came, bad, q, by first | go_num | (congr 1; omega), HQ.out, by omega, by omega, H3⟩
        · match q, hqn with
          | [], hqn =>
            have hn0 : n = 0 := by simpa using hqn.symm
            subst hn0
            have HY2 := HY
            go_wp2_with fail
            refine (pipe_take_none _ 0 0 HS.out).mono ?_
            rintro e w3 ⟨rfl, h3⟩
            have H3 := Lib.hid h3
            clear h3 HS hqn
            go_wp2
            go_meet
            case rel => exact ⟨0, put, came, bad, [], rfl, rfl, by omega, by omega, H3⟩
          | s :: q, hqn =>
            have hn1 : 1 ≤ n := by simp at hqn; omega
            have hn2 : (0 : Int) < (n : Int) := by omega
            have hd4 : decide (0 < n) = true := decide_eq_true (by omega)
            have hd5 : decide ((0 : Int) < (n : Int)) = true := decide_eq_true hn2
            have HQ : Hid (q.length = n - 1) := by unfold Hid; simp at hqn; omega
            rcases HY.out with rfl | rfl
            · go_wp2_with fail
              refine (pipe_take_carry s 0 0 0 HS.out (by decide) (by decide) (by omega)).mono ?_
              rintro e w3 ⟨rfl, h3⟩
              have H3 := Lib.hid h3
              clear h3 HS hqn
              go_wp2
              all_goals
                go_meet
                case rel => exact ⟨n - 1, put, came + 1, bad, q, by first | (congr 1; omega) | (exfalso; omega), HQ.out, by omega, by omega, H3⟩
            · go_wp2_with fail
              refine (pipe_take_lose s 0 0 HS.out (by omega)).mono ?_
              rintro e w3 ⟨rfl, h3⟩
              have H3 := Lib.hid h3
              clear h3 HS hqn
              go_wp2
              all_goals
                go_meet
                case rel => exact ⟨n - 1, put, came, bad + 1, q, by first | (congr 1; omega) | (exfalso; omega), HQ.out, by omega, by omega, H3⟩
      case rest =>
        obtain ⟨n', put', came', bad', q', rfl, hq', hp', hpk', HS'⟩ := hcut
        have hqm' := HS'.out.len_le
        have HQ := Lib.hid hq'
        clear HS hqn hpc hpk hqm hy1 hy2 HY hc
        go_wp2_with fail
        refine (pipe_counts HS'.out).mono ?_
        rintro e w4 ⟨rfl, n4, rfl⟩
        have H4 := Lib.hid (HS'.out.drewN n4)
        clear HS'
        obtain ⟨gr, b, hpl⟩ := H4.out
        have c0 : (wc.drewN n4).cell? ⟨gp, 0, none⟩ = some (.pointer (some ⟨gr, 0, none⟩)) := hpl.pipe.blk.cell 0
        have HRg := Lib.hid hpl.pipe.ring
        generalize wc.drewN n4 = w5 at *
        obtain ⟨z1, hz1⟩ : ∃ z1 : Int, (put' : Int) - (came' : Int) = z1 := ⟨_, rfl⟩
        have hz2 : z1 - (bad' : Int) = (n' : Int) := by omega
        have hzb : 0 ≤ z1 ∧ z1 ≤ 100 := by omega
        have HP := Lib.hid hp'
        clear hpl hp'
        go_wp2_with fail
        refine (ringStr_len gr b m q' w5 HRg.out).mono ?_
        rintro e w6 ⟨rfl, rfl⟩
        rw [HQ.out]
        go_wp2_with fail
        refine (ringStr_room gr b m q' w6 HRg.out).mono ?_
        rintro e w7 ⟨rfl, n7, rfl⟩
        rw [HQ.out]
        have H7 := Lib.hid (H4.out.drewN n7)
        clear H4 HRg hq'
        go_wp2
        go_roundw
        case rel => exact ⟨k + 1, n', put', came', bad', q', by omega, by omega, rfl, by go_num, HQ.out, HP.out, by omega, H7⟩
        case measure => simp [intOf]; omega
    · rcases hend with hk1 | ⟨hk1, hk2⟩
      all_goals
        go_wp2
        go_ret
        exact ⟨rfl, HS.out.fresh.below (Nat.le_refl _) (fun _ _ h => h)⟩

theorem pipeRoom.walk (a0 : Int) (v : Value) (w : World) (_h0 : (Lit.int .i64 a0).wf = true) {H : Type} {enc : TypeId × Value → H} {base : Nat} {d : DataW H} {p : List MemPlace} (hv : Value.okWide Try.prog w .any base 22 v) (h : DataW.Trod enc Try.prog w 0 (fun _ => true) true 22 v d p) :
    Calls Try.prog 9 #[.int .i64 a0, v] w fun e w' => e = .returned (.bool true) ∧ Below w.heap.size w w' := by
  obtain ⟨A, c, l, rfl, hr, _⟩ := open_rd_int hv h
  have := and31_inp a0
  exact pipeRoom.core a0 (1 + bits .and .i64 a0 31).toNat (by omega) (by omega) A c l w hr
end Go.Proofs.Ytfieckhhckfjiaa

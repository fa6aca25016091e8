/-
  ConnNumbers: each beginning has the next SQ, round about; an answer to an elder one begins nothing.
-/
import Derived.Test.YtkmegkjkbalooaaCnW
namespace Go.Proofs.Ytkmegkjkbalooaa
open Go.RowKit Go.Shelf

namespace Cn
theorem may11 : Ru.may 1 1 = true := by decide +kernel
theorem of22 : Ru.of_ 2 2 = 1 := by decide +kernel
theorem of27 : Ru.of_ 2 7 = 1 := by decide +kernel
theorem n1 (sq cc : Int) : askErr ⟨1, 3, 1, sq, -1, cc, 3, no⟩ 1 no = 0 := by
  unfold askErr
  rw [if_neg (by decide), show bigAsk 1 no = false from by decide +kernel]
  rw [show (⟨1, 3, 1, sq, -1, cc, 3, no⟩ : S).state = 1 from rfl, may11]
  rfl
theorem n2 (sq cc q : Int) (hq : (sq + 1) % 256 = q) : askS ⟨1, 3, 1, sq, -1, cc, 3, no⟩ 1 no = (⟨1, 3, 2, q, -1, 1, 3, no⟩, ⟨[], [⟨1, q, 3, 0, 0, none, 0, 0, false, no⟩], false, false, 0, 1⟩) := by
  subst hq
  unfold askS
  rw [n1]
  rfl
theorem n3 (q x : Int) (h : ¬ x = q) : hearS ⟨1, 3, 2, q, -1, 1, 3, no⟩ ⟨2, x, 9, 0, 0, none, 0, 0, false, no⟩ = (⟨1, 3, 2, q, -1, 1, 3, no⟩, ⟨[], [], false, false, 0, 0⟩) := by
  unfold hearS
  rw [show Ru.of_ (⟨1, 3, 2, q, -1, 1, 3, no⟩ : S).state (⟨2, x, 9, 0, 0, none, 0, 0, false, no⟩ : Pd).kind = 1 from of22]
  unfold hear
  rw [if_pos rfl]
  unfold handle
  rw [if_neg (show ¬ (2 : Int) = 1 by decide), if_neg (show ¬ (2 : Int) = 3 by decide), if_neg (show ¬ (2 : Int) = 5 by decide), if_neg (show ¬ (2 : Int) = 9 by decide), if_neg h]
  rfl
theorem n4 (q : Int) : hearS ⟨1, 3, 2, q, -1, 1, 3, no⟩ ⟨7, q, 0, 0, 0, none, 0, 0, false, no⟩ = (⟨1, 3, 1, q, -1, 1, 3, no⟩, ⟨[⟨3, no, false, 0, 0⟩], [], false, false, 0, 2⟩) := by
  unfold hearS
  rw [show Ru.of_ (⟨1, 3, 2, q, -1, 1, 3, no⟩ : S).state (⟨7, q, 0, 0, 0, none, 0, 0, false, no⟩ : Pd).kind = 1 from of27]
  unfold hear
  rw [if_pos rfl]
  unfold handle
  rw [if_neg (show ¬ (7 : Int) = 1 by decide), if_neg (show ¬ (7 : Int) = 3 by decide), if_neg (show ¬ (7 : Int) = 5 by decide), if_neg (show ¬ (7 : Int) = 9 by decide), if_pos rfl]
  rfl
theorem n5 (q : Int) : expireS ⟨1, 3, 2, q, -1, 1, 3, no⟩ = (⟨1, 3, 1, q, -1, 1, 3, no⟩, ⟨[⟨12, no, false, 79, 0⟩, ⟨3, no, true, 0, 0⟩], [⟨3, q, 0, 0, 0, none, 0, 0, true, no⟩], false, false, 0, 2⟩) := rfl
end Cn

set_option maxHeartbeats 4000000 in
set_option maxRecDepth 100000 in
theorem connNumbers.walk (n : Int) (W : World) (_ : (Lit.int .i64 n).wf = true) : Calls Try.prog 4 #[.int .i64 n] W fun e w' => e = .returned (.bool true) ∧ Below W.heap.size W w' := by
  obtain ⟨m, hm⟩ : ∃ m, (if 300 < n then (300 : Int) else n) = m := ⟨_, rfl⟩
  obtain ⟨M, hM⟩ : ∃ M, (if 1 < m then m else 1) = M := ⟨_, rfl⟩
  have hb : 1 ≤ M ∧ M ≤ 300 := by
    rw [← hM, ← hm]
    split <;> (try split) <;> omega
  obtain ⟨hb1, hb2⟩ := hb
  obtain ⟨N, rfl⟩ := Int.eq_ofNat_of_zero_le (show 0 ≤ M by omega)
  have hmin : min n 300 = m := by rw [← hm]; split <;> omega
  have hmax : max 1 m = (N : Int) := by rw [← hM]; split <;> omega
  go_enter Try.func4, Try.ntmps4
  go_wp2_with fail
  refine (awake14 W).mono ?_
  rintro e w1 ⟨rfl, f1⟩
  have F1 := Lib.hid f1
  clear f1
  go_wp2_with fail
  refine (cnew_any 1 3 w1).mono ?_
  rintro e w2 ⟨c, rfl, hc, h2, o2, f2⟩
  have HC : Hid (W.heap.size ≤ c) := by have := F1.out.size; unfold Hid; omega
  have H2 : Hid (ConnAt w2 c ⟨1, 3, 1, ((1 : Nat) - 1 : Int) % 256, -1, 0, 3, Cn.no⟩) := h2
  have O2 : Hid (Cn.Ok ⟨1, 3, 1, ((1 : Nat) - 1 : Int) % 256, -1, 0, 3, Cn.no⟩) := o2
  have F2 : Hid (Fresh W w2) := F1.out.trans f2 (fun _ _ e => e)
  clear hc h2 o2 f2 F1
  clear hm hM hmin hmax
  go_wp2_with fail
  go_loopw [4] (fun i wr => ∃ k : Nat, 1 ≤ k ∧ k ≤ N + 1 ∧ i = .int .i64 k ∧ (∃ cc, Hid (ConnAt wr c ⟨1, 3, 1, ((k : Int) - 1) % 256, -1, cc, 3, Cn.no⟩) ∧ Hid (Cn.Ok ⟨1, 3, 1, ((k : Int) - 1) % 256, -1, cc, 3, Cn.no⟩)) ∧ Hid (Fresh W wr)) (fun i _ => N + 1 - (intOf i).toNat)
  case atStart => exact ⟨1, by omega, by omega, rfl, ⟨0, H2, O2⟩, F2⟩
  case round =>
    clear H2 O2 F2
    obtain ⟨k, hk1, hk2, rfl, ⟨cc, H1, O1⟩, F1⟩ := hrel
    by_cases hlt : k ≤ N
    · have hle : (k : Int) ≤ (N : Int) := by omega
      have hld : decide ((k : Int) ≤ (N : Int)) = true := decide_eq_true hle
      obtain ⟨q, hq⟩ : ∃ q, (k : Int) % 256 = q := ⟨_, rfl⟩
      have HQ : Hid ((((k : Int) - 1) % 256 + 1) % 256 = q) := by unfold Hid; omega
      go_wp2_with fail
      refine (crequest_any H1.out O1.out 1 ByteArray.empty (by unfold maxLen; decide)).mono ?_
      rw [show (ByteArray.empty) = Cn.no from rfl, Cn.n1]
      rintro e w3 ⟨v, rfl, hp⟩
      obtain ⟨A1, c1, A2, c2, rfl, h3, o3, _, s3, _, b3, t3⟩ := hp.ex (n1 := 0) (n2 := 1) (Cn.n2 _ cc q HQ.out) rfl rfl
      obtain ⟨gU, oU, rfl, hgU, hU⟩ := s3.pdu_at 0 (by simp)
      have hgc : gU ≠ c := s3.blk_ne h3 (by decide) _ rfl
      have u1 : ∀ o, (w3.alloc o).cell? ⟨gU, oU + 1, none⟩ = some (.int .i64 q) := fun o => (World.cell?_of_block (Below.heap_alloc w3 o gU hgU)).trans (hU 1 _ rfl)
      have H3 : Hid (∀ o, ConnAt (w3.alloc o) c ⟨1, 3, 2, q, -1, 1, 3, Cn.no⟩) := fun o => Blk.alloc h3 o
      have O3 := Lib.hid o3
      have F3 : Hid (Fresh W w3) := F1.out.trans t3 (fun j hj e => by have e : j = c := e; have := HC.out; omega)
      obtain ⟨x, hx⟩ : ∃ x, ((k : Int) + 255) % 256 = x := ⟨_, rfl⟩
      have HX : Hid (¬ x = q) := by unfold Hid; omega
      have hk0 : (k : Int) + 255 ≤ 1000 := by omega
      have HK : Hid ((((k + 1 : Nat) : Int) - 1) % 256 = q) := by unfold Hid; rw [← hq]; congr 1; omega
      clear hp h3 o3 s3 b3 t3 hU hgc hgU
      go_upto_region 14 with (first
        | (refine (creceive_any (H3.out _) O3.out ⟨2, x, 9, 0, 0, none, 0, 0, false, Cn.no⟩).mono ?_
           rintro e w5 ⟨v, rfl, hp⟩
           obtain ⟨A3, c3, A4, c4, rfl, h5, o5, _, _, _, _, t5⟩ := hp.ex (n1 := 0) (n2 := 0) (Cn.n3 q x HX.out) rfl rfl
           have F5 : Hid (Fresh W w5) := (F3.out.alloc _).trans t5 (fun j hj e => by have e : j = c := e; have := HC.out; omega)
           have H5 : Hid (∀ W, Fresh w5 W → ConnAt W c ⟨1, 3, 2, q, -1, 1, 3, Cn.no⟩) := fun W hf => hf.blk h5 (fun e => e)
           have O5 := Lib.hid o5
           clear hp h5 o5 t5))
      have HV := Lib.hid (vars_any (H5.out _ ((Touch.refl _ w5).alloc (.cells #[.slice A3 0 c3, .slice A4 0 c4, .bool false, .bool false, .int .u32 0, .int .i64 0] 41))))
      have F6 : Hid (Fresh w5 (w5.alloc (.cells #[.slice A3 0 c3, .slice A4 0 c4, .bool false, .bool false, .int .u32 0, .int .i64 0] 41))) := (Touch.refl _ w5).alloc _
      have hfs := field_state
      go_upto_region 16 with (first
        | (refine (HV.out).mono ?_
           rintro e w6 ⟨rfl, f6⟩
           have F7 := Lib.hid (F6.out.trans f6 (fun _ _ e => e))
           clear f6))
      have F8 : Hid (Fresh W w6) := F5.out.trans F7.out (fun _ _ e => e)
      have H8 : Hid (ConnAt w6 c ⟨1, 3, 2, q, -1, 1, 3, Cn.no⟩) := H5.out _ F7.out
      clear F6 F7 HV H5 H3 u1 F3 O3 H1 O1 F1 F5
      by_cases hk3 : (k : Int) % 3 = 0
      · have hk3b : ((k : Int) % 3 == 0) = true := by simpa using hk3
        clear hk3
        go_wp2_with fail
        refine (creceive_any H8.out O5.out ⟨7, q, 0, 0, 0, none, 0, 0, false, Cn.no⟩).mono ?_
        rintro e w7 ⟨v, rfl, hp⟩
        obtain ⟨A5, c5, A6, c6, rfl, h7, o7, _, _, _, _, t7⟩ := hp.ex (n1 := 1) (n2 := 0) (Cn.n4 q) rfl rfl
        have F9 : Hid (Fresh W w7) := F8.out.trans t7 (fun j hj e => by have e : j = c := e; have := HC.out; omega)
        have HV7 := Lib.hid (vars_any h7)
        have H9 : Hid (ConnAt w7 c ⟨1, 3, 1, (((k + 1 : Nat) : Int) - 1) % 256, -1, 1, 3, Cn.no⟩) := by unfold Hid; rw [HK.out]; exact h7
        have O9 : Hid (Cn.Ok ⟨1, 3, 1, (((k + 1 : Nat) : Int) - 1) % 256, -1, 1, 3, Cn.no⟩) := by unfold Hid; rw [HK.out]; exact o7
        clear hp h7 o7 t7
        go_wp2_with fail
        refine (HV7.out).mono ?_
        rintro e w8 ⟨rfl, f8⟩
        have H10 : Hid (ConnAt w8 c ⟨1, 3, 1, (((k + 1 : Nat) : Int) - 1) % 256, -1, 1, 3, Cn.no⟩) := f8.blk H9.out (fun e => e)
        have F10 : Hid (Fresh W w8) := F9.out.trans f8 (fun _ _ e => e)
        have HK2 : Hid (k + 1 ≤ N + 1) := by unfold Hid; omega
        clear f8 HX HK HQ hq hx
        go_wp2
        go_roundw
        case rel => exact ⟨k + 1, by omega, HK2.out, by go_num, ⟨1, H10, O9⟩, F10⟩
        case measure => simp [intOf]; omega
      · have hk3b : ((k : Int) % 3 == 0) = false := by simpa using hk3
        clear hk3
        go_wp2_with fail
        refine (expire_any H8.out O5.out).mono ?_
        rintro e w7 ⟨v, rfl, hp⟩
        obtain ⟨A5, c5, A6, c6, rfl, h7, o7, _, _, _, _, t7⟩ := hp.ex (n1 := 2) (n2 := 1) (Cn.n5 q) rfl rfl
        have F9 : Hid (Fresh W w7) := F8.out.trans t7 (fun j hj e => by have e : j = c := e; have := HC.out; omega)
        have HV7 := Lib.hid (vars_any h7)
        have H9 : Hid (ConnAt w7 c ⟨1, 3, 1, (((k + 1 : Nat) : Int) - 1) % 256, -1, 1, 3, Cn.no⟩) := by unfold Hid; rw [HK.out]; exact h7
        have O9 : Hid (Cn.Ok ⟨1, 3, 1, (((k + 1 : Nat) : Int) - 1) % 256, -1, 1, 3, Cn.no⟩) := by unfold Hid; rw [HK.out]; exact o7
        clear hp h7 o7 t7
        go_wp2_with fail
        refine (HV7.out).mono ?_
        rintro e w8 ⟨rfl, f8⟩
        have H10 : Hid (ConnAt w8 c ⟨1, 3, 1, (((k + 1 : Nat) : Int) - 1) % 256, -1, 1, 3, Cn.no⟩) := f8.blk H9.out (fun e => e)
        have F10 : Hid (Fresh W w8) := F9.out.trans f8 (fun _ _ e => e)
        have HK2 : Hid (k + 1 ≤ N + 1) := by unfold Hid; omega
        clear f8 HX HK HQ hq hx
        go_wp2
        go_roundw
        case rel => exact ⟨k + 1, by omega, HK2.out, by go_num, ⟨1, H10, O9⟩, F10⟩
        case measure => simp [intOf]; omega
    · have hkk : k = N + 1 := by omega
      have hld : decide ((k : Int) ≤ (N : Int)) = false := decide_eq_false (by omega)
      have HV7 : Hid (Calls Try.prog 13 #[.pointer (some ⟨c, 0, none⟩)] wr fun e w' => e = .returned (.agg #[.int .i64 1, .int .i64 ((N : Int) % 256), .int .i64 (-1), .int .i64 cc, .int .u32 3]) ∧ Fresh wr w') := by
        have := vars_any H1.out
        rw [show ((k : Int) - 1) % 256 = (N : Int) % 256 by rw [hkk]; congr 1; omega] at this
        exact this
      have hfs := field_sq
      clear H1 O1 hkk
      go_wp2_with fail
      refine (HV7.out).mono ?_
      rintro e w8 ⟨rfl, f8⟩
      have F10 : Hid (Fresh W w8) := F1.out.trans f8 (fun _ _ e => e)
      clear f8
      go_wp2
      go_ret
      exact ⟨rfl, F10.out.below (Nat.le_refl _) (fun _ _ e => e)⟩
end Go.Proofs.Ytkmegkjkbalooaa

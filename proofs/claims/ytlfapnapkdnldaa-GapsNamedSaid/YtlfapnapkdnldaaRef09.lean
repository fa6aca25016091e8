/-
  polliwogref09: Pairs.
-/
import Derived.Test.YtlfapnapkdnldaaRef03c
import Derived.Test.YtlfapnapkdnldaaRef01
import Derived.Test.YtlfapnapkdnldaaGapL
namespace Go.Proofs.Ytlfapnapkdnldaa
open Go.RowKit

set_option maxHeartbeats 4000000 in
set_option maxRecDepth 4000 in
theorem pairs09_any (base : Int) (A : Option Addr) (c : Nat) (N : List Int) (w : World) (h : Rd intE w A c N) (hN : Sp.Rising N) (hl : N.length ≤ 1000000) (hb : ∀ n ∈ N, -2305843009213693952 ≤ n ∧ n < 2305843009213693952) (hbase : 0 ≤ base ∧ base < 16777216) :
    Calls Try.prog 41 #[.int .i64 base, .slice A N.length c] w fun e w' => ∃ B d, e = .returned (.slice B (Gp.gl base (Sp.ends N N.length)).length d) ∧ Mine intE w w' B d (Gp.gl base (Sp.ends N N.length)) := by
  have hlc := h.1
  have hcm := h.2.1
  unfold maxLen at hcm
  have H := Lib.hid h
  clear h
  have HM0 := Lib.hid (Mine.lit intE w #[] [] rfl 0 rfl (by decide))
  have hgb : Hid (∀ i, i < N.length → -2305843009213693952 ≤ N.getD i 0 ∧ N.getD i 0 < 2305843009213693952) := fun i hi => hb _ (by rw [List.getD_eq_getElem?_getD, List.getElem?_eq_getElem hi]; exact List.getElem_mem hi)
  clear hb
  go_enter Try.func41, Try.ntmps41
  go_wp2_with fail
  go_loopw [5, 11] (fun s3 i wr => ∃ (k : Nat) (B : Option Addr) (d : Nat) (M : List Int), k ≤ N.length ∧ i = .int .i64 k ∧ s3 = .slice B M.length d ∧ Hid (M = Gp.gl base (Sp.ends N k)) ∧ Hid (Mine intE w wr B d M)) (fun _ i _ => N.length - (intOf i).toNat)
  case atStart => exact ⟨0, _, 0, [], by omega, rfl, rfl, rfl, HM0⟩
  case round =>
    clear HM0
    obtain ⟨k, B, d, M, hkL, rfl, rfl, HMe, HM⟩ := hrel
    by_cases hk : k < N.length
    · have hk1 : (k : Int) < (N.length : Int) := by omega
      have hk0 : (0 : Int) ≤ (k : Int) := by omega
      have hMl : Hid (M.length ≤ 2 * k) := by unfold Hid; rw [HMe.out, Gp.gl_len]; have := Sp.ends_len N k hkL; omega
      have hMb : M.length ≤ 2000000 := by have := hMl.out; omega
      have hxb := hgb.out k hk
      rcases (show (k = 0 ∨ ∃ j, k = j + 1 ∧ ¬ N.getD j 0 + 1 = N.getD k 0) ∨ (∃ j, k = j + 1 ∧ N.getD j 0 + 1 = N.getD k 0) by
        rcases Nat.eq_zero_or_pos k with h | h
        · exact .inl (.inl h)
        · by_cases h2 : N.getD (k - 1) 0 + 1 = N.getD k 0
          · exact .inr ⟨k - 1, by omega, h2⟩
          · exact .inl (.inr ⟨k - 1, by omega, h2⟩)) with happ | ⟨j, rfl, hjx⟩
      · have HE : Hid (Sp.ends N (k + 1) = Sp.ends N k ++ [(N.getD k 0, N.getD k 0 + 1)]) := by
          rcases happ with rfl | ⟨j, rfl, hjx⟩
          · exact Sp.ends_step0 N hk
          · obtain ⟨O, a, hO⟩ := Sp.ends_last N j hN (by omega)
            have := Sp.ends_next N j hN hk O a hO
            rw [if_neg hjx] at this
            exact this
        have HZ : Hid (M = Gp.gl base (Sp.ends N k)) := HMe
        have hRl : Hid (∀ (W : World) (x : Int), Rd intE (W.alloc (.cells #[.int .i64 x, .int .i64 0] 3)) (some ⟨W.heap.size, 0, none⟩) 2 [x, 0]) := fun W x => Sl.rd (Sl.lit intE W _ rfl #[.int .i64 x, .int .i64 0] [x, 0] rfl 2 rfl (by decide))
        rcases happ with rfl | ⟨j, rfl, hjx⟩
        · obtain ⟨g, o, rfl, _, c0⟩ := (HM.out.keepsR H.out).int_at 0 hk
          rw [Nat.add_zero] at c0
          generalize N.getD 0 0 = x at *
          have hbx : -4611686018427387904 ≤ base + x ∧ base + x < 4611686018427387904 := by omega
          go_upto_region 7 with (first | (go_at_call 31; refine (r01of_any _ _).mono ?_; rintro e w2 ⟨rfl, rfl⟩) | (at_builtin; refine app_int rfl rfl (l := M) (l2 := [(base + x) % 16777216, 0]) rfl rfl (HM.out.sl.alloc _) (hRl.out _ _) (by simp; omega) ?_; intro B7 d7 M7 w7 hM7 hs7 ht7 hB7))
          have W7 := Lib.hid ((HM.out.alloc _).app hs7 ht7 hB7)
          have hMZ : M7 = (M ++ [(base + x) % 16777216]) ++ [0] := by rw [hM7.out]; simp
          clear hs7 ht7 hB7 hM7
          have hlen : M7.length = (M ++ [(base + x) % 16777216]).length + 1 := by rw [hMZ]; simp
          obtain ⟨g7, o7, hB7, _, c7⟩ := W7.out.sl.int_at (M ++ [(base + x) % 16777216]).length (by omega)
          subst hB7
          have hfz := W7.out.sl.frozen g7 o7 rfl (o7 + (M ++ [(base + x) % 16777216]).length)
          have MS := Lib.hid (W7.out.set1 (M ++ [(base + x) % 16777216]).length ((base + x + 1) % 16777216))
          have hset : Hid (M7.set (M ++ [(base + x) % 16777216]).length ((base + x + 1) % 16777216) = Gp.gl base (Sp.ends N (0 + 1))) := by unfold Hid; rw [hMZ, Sp.set_last _ _ _ _ rfl, HE.out, Gp.gl_append, Gp.gl_one, ← HZ.out, List.append_assoc, Int.add_assoc]; rfl
          rw [hset.out] at MS
          have hfl : Hid ((Gp.gl base (Sp.ends N (0 + 1))).length = (M ++ [(base + x) % 16777216]).length + 1) := by unfold Hid; rw [← hset.out, List.length_set, hlen]
          have hzb : (M ++ [(base + x) % 16777216]).length ≤ 2000002 := by first | omega | (simp; omega)
          rw [hlen]
          clear hset hMZ HE hlen HZ HMe W7
          generalize (M ++ [(base + x) % 16777216]).length = m at *
          have hm1 : (m : Int) < (m : Int) + 1 := by omega
          go_wp2_with fail
          refine (r01of_any (base + x + 1) _).mono ?_
          rintro e w8 ⟨rfl, rfl⟩
          simp only
          go_wp2
          go_roundw
          case rel => exact ⟨0 + 1, some ⟨g7, o7, none⟩, d7, Gp.gl base (Sp.ends N (0 + 1)), by omega, by go_num, by rw [hfl.out], rfl, MS⟩
          case measure => simp [intOf]; omega
        · obtain ⟨g, o, rfl, _, c0⟩ := (HM.out.keepsR H.out).int_at (j + 1) hk
          obtain ⟨g2, o2, e2, _, c1⟩ := (HM.out.keepsR H.out).int_at j (by omega)
          cases e2
          have hpb := hgb.out j (by omega)
          generalize N.getD (j + 1) 0 = x at *
          generalize N.getD j 0 = y at *
          have hj0 : ((j : Int) + 1 == 0) = false := by simp; omega
          have hyx : (y + 1 != x) = true := by simp [hjx]
          have hbx : -4611686018427387904 ≤ base + x ∧ base + x < 4611686018427387904 := by omega
          go_upto_region 7 with (first | (go_at_call 31; refine (r01of_any _ _).mono ?_; rintro e w2 ⟨rfl, rfl⟩) | (at_builtin; refine app_int rfl rfl (l := M) (l2 := [(base + x) % 16777216, 0]) rfl rfl (HM.out.sl.alloc _) (hRl.out _ _) (by simp; omega) ?_; intro B7 d7 M7 w7 hM7 hs7 ht7 hB7))
          have W7 := Lib.hid ((HM.out.alloc _).app hs7 ht7 hB7)
          have hMZ : M7 = (M ++ [(base + x) % 16777216]) ++ [0] := by rw [hM7.out]; simp
          clear hs7 ht7 hB7 hM7
          have hlen : M7.length = (M ++ [(base + x) % 16777216]).length + 1 := by rw [hMZ]; simp
          obtain ⟨g7, o7, hB7, _, c7⟩ := W7.out.sl.int_at (M ++ [(base + x) % 16777216]).length (by omega)
          subst hB7
          have hfz := W7.out.sl.frozen g7 o7 rfl (o7 + (M ++ [(base + x) % 16777216]).length)
          have MS := Lib.hid (W7.out.set1 (M ++ [(base + x) % 16777216]).length ((base + x + 1) % 16777216))
          have hset : Hid (M7.set (M ++ [(base + x) % 16777216]).length ((base + x + 1) % 16777216) = Gp.gl base (Sp.ends N ((j + 1) + 1))) := by unfold Hid; rw [hMZ, Sp.set_last _ _ _ _ rfl, HE.out, Gp.gl_append, Gp.gl_one, ← HZ.out, List.append_assoc, Int.add_assoc]; rfl
          rw [hset.out] at MS
          have hfl : Hid ((Gp.gl base (Sp.ends N ((j + 1) + 1))).length = (M ++ [(base + x) % 16777216]).length + 1) := by unfold Hid; rw [← hset.out, List.length_set, hlen]
          have hzb : (M ++ [(base + x) % 16777216]).length ≤ 2000002 := by first | omega | (simp; omega)
          rw [hlen]
          clear hset hMZ HE hlen HZ HMe W7
          generalize (M ++ [(base + x) % 16777216]).length = m at *
          have hm1 : (m : Int) < (m : Int) + 1 := by omega
          go_wp2_with fail
          refine (r01of_any (base + x + 1) _).mono ?_
          rintro e w8 ⟨rfl, rfl⟩
          simp only
          go_wp2
          go_roundw
          case rel => exact ⟨(j + 1) + 1, some ⟨g7, o7, none⟩, d7, Gp.gl base (Sp.ends N ((j + 1) + 1)), by omega, by go_num, by rw [hfl.out], rfl, MS⟩
          case measure => simp [intOf]; omega
      · obtain ⟨O, a, hO⟩ := Sp.ends_last N j hN (by omega)
        have HE : Hid (Sp.ends N (j + 1 + 1) = O ++ [(a, N.getD (j + 1) 0 + 1)]) := by
          have := Sp.ends_next N j hN hk O a hO
          rwa [if_pos hjx] at this
        have HZ : Hid (M = Gp.gl base O ++ [(base + a) % 16777216, (base + N.getD (j + 1) 0) % 16777216]) := by unfold Hid; rw [HMe.out, hO, Gp.gl_append, Gp.gl_one, hjx]
        obtain ⟨g, o, rfl, _, c0⟩ := (HM.out.keepsR H.out).int_at (j + 1) hk
        obtain ⟨g2, o2, e2, _, c1⟩ := (HM.out.keepsR H.out).int_at j (by omega)
        cases e2
        have hpb := hgb.out j (by omega)
        clear hO
        generalize N.getD (j + 1) 0 = x at *
        generalize N.getD j 0 = y at *
        have hj0 : ((j : Int) + 1 == 0) = false := by simp; omega
        have hyx : (y + 1 != x) = false := by simp [hjx]
        have hbx : -4611686018427387904 ≤ base + x ∧ base + x < 4611686018427387904 := by omega
        go_upto_region 7 with (fail)
        have hMZ : M = (Gp.gl base O ++ [(base + a) % 16777216]) ++ [(base + x) % 16777216] := by rw [HZ.out]; simp
        clear hjx
        have hlen : M.length = (Gp.gl base O ++ [(base + a) % 16777216]).length + 1 := by rw [hMZ]; simp
        obtain ⟨g7, o7, hB7, _, c7⟩ := HM.out.sl.int_at (Gp.gl base O ++ [(base + a) % 16777216]).length (by omega)
        subst hB7
        have hfz := HM.out.sl.frozen g7 o7 rfl (o7 + (Gp.gl base O ++ [(base + a) % 16777216]).length)
        have MS := Lib.hid (HM.out.set1 (Gp.gl base O ++ [(base + a) % 16777216]).length ((base + x + 1) % 16777216))
        have hset : Hid (M.set (Gp.gl base O ++ [(base + a) % 16777216]).length ((base + x + 1) % 16777216) = Gp.gl base (Sp.ends N ((j + 1) + 1))) := by unfold Hid; rw [hMZ, Sp.set_last _ _ _ _ rfl, HE.out, Gp.gl_append, Gp.gl_one, Int.add_assoc]; simp
        rw [hset.out] at MS
        have hfl : Hid ((Gp.gl base (Sp.ends N ((j + 1) + 1))).length = (Gp.gl base O ++ [(base + a) % 16777216]).length + 1) := by unfold Hid; rw [← hset.out, List.length_set, hlen]
        have hzb : (Gp.gl base O ++ [(base + a) % 16777216]).length ≤ 2000002 := by first | omega | (simp; omega)
        rw [hlen]
        clear hset hMZ HE hlen HZ HMe HM
        generalize (Gp.gl base O ++ [(base + a) % 16777216]).length = m at *
        have hm1 : (m : Int) < (m : Int) + 1 := by omega
        go_wp2_with fail
        refine (r01of_any (base + x + 1) _).mono ?_
        rintro e w8 ⟨rfl, rfl⟩
        simp only
        go_wp2
        go_roundw
        case rel => exact ⟨(j + 1) + 1, some ⟨g7, o7, none⟩, d, Gp.gl base (Sp.ends N ((j + 1) + 1)), by omega, by go_num, by rw [hfl.out], rfl, MS⟩
        case measure => simp [intOf]; omega
    · have hkk : k = N.length := by omega
      have HR : Hid (M = Gp.gl base (Sp.ends N N.length)) := by unfold Hid; rw [HMe.out, hkk]
      have hk' : ¬ ((k : Int) < (N.length : Int)) := by omega
      clear hk HMe hkk
      go_wp2
      go_ret
      exact ⟨B, d, by rw [← HR.out]; rfl, HR.out ▸ HM.out⟩
end Go.Proofs.Ytlfapnapkdnldaa

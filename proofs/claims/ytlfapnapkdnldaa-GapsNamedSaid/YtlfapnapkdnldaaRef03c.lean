/-
  polliwogref03: Spans.
-/
import Derived.Test.YtlfapnapkdnldaaSpanQ
import Derived.Test.YtlfapnapkdnldaaRef03
import Derived.Deep.DeepCutAuto
namespace Go.Proofs.Ytlfapnapkdnldaa
open Go.RowKit

namespace Sp
def flat (s : List (Int × Int)) : List Int := s.flatMap fun x => [x.1, x.2]
theorem flat_append (s t : List (Int × Int)) : flat (s ++ t) = flat s ++ flat t := by simp [flat]
theorem flat_one (x : Int × Int) : flat [x] = [x.1, x.2] := by simp [flat]
theorem flat_len (s : List (Int × Int)) : (flat s).length = 2 * s.length := by
  induction s with
  | nil => rfl
  | cons x s ih =>
    show (List.flatMap _ (x :: s)).length = _
    rw [List.flatMap_cons, List.length_append]
    unfold flat at ih
    rw [ih]
    simp only [List.length_cons, List.length_nil]
    omega
theorem flat_getD (s : List (Int × Int)) (k : Nat) (hk : k < s.length) : (flat s).getD (2 * k) 0 = (s.getD k (0, 0)).1 ∧ (flat s).getD (2 * k + 1) 0 = (s.getD k (0, 0)).2 := by
  induction s generalizing k with
  | nil => simp at hk
  | cons x s ih =>
    cases k with
    | zero => exact ⟨rfl, rfl⟩
    | succ k =>
      have := ih k (by simpa using hk)
      exact this
/-- The spans of the first so many numbers of a rising list. -/
def ends (N : List Int) (k : Nat) : List (Int × Int) := ((N.take k).map fun x => (x, x + 1)).foldl mergeStep []
theorem ends_succ (N : List Int) (k : Nat) (hk : k < N.length) : ends N (k + 1) = mergeStep (ends N k) (N.getD k 0, N.getD k 0 + 1) := by
  unfold ends
  rw [List.take_succ_eq_append_getElem hk, List.map_append, List.foldl_append]
  simp [List.getD, List.getElem?_eq_getElem hk]
theorem ends_len (N : List Int) (k : Nat) (hk : k ≤ N.length) : (ends N k).length ≤ k := by
  have := merge_len ((N.take k).map fun x => (x, x + 1)) []
  rw [List.length_map, List.length_take] at this
  unfold ends
  simp only [List.length_nil] at this
  omega
theorem ends_ok (N : List Int) (k : Nat) (hN : Rising N) : Canon (ends N k) ∧ ∀ n, mem (ends N k) n ↔ n ∈ N.take k := by
  obtain ⟨h1, h2⟩ := merge_ok ((N.take k).map fun x => (x, x + 1)) [] Canon.nil (fun x hx => by
    obtain ⟨y, _, rfl⟩ := List.mem_map.1 hx
    simp only
    omega) (by
    rw [List.pairwise_map]
    exact (hN.sublist (List.take_sublist k N)).imp (fun {a b} (h : a < b) => Int.le_of_lt h)) (by simp)
  refine ⟨h1, fun n => ?_⟩
  rw [ends, h2]
  simp only [mem_nil, false_or]
  unfold mem
  constructor
  · rintro ⟨x, hx, e⟩
    obtain ⟨y, hy, rfl⟩ := List.mem_map.1 hx
    simp only at e
    rwa [show n = y by omega]
  · intro h
    exact ⟨(n, n + 1), List.mem_map.2 ⟨n, h, rfl⟩, by simp only; omega⟩
/-- The last pair ends behind the last number. -/
theorem ends_last (N : List Int) (k : Nat) (hN : Rising N) (hk : k < N.length) : ∃ O a, ends N (k + 1) = O ++ [(a, N.getD k 0 + 1)] := by
  rw [ends_succ N k hk]
  rcases List.eq_nil_or_concat (ends N k) with h | ⟨O, q, h⟩
  · rw [h]
    exact ⟨[], N.getD k 0, rfl⟩
  · rw [h, List.concat_eq_append, mergeStep_snoc]
    split
    · refine ⟨O, q.1, ?_⟩
      have hq : q.2 ≤ N.getD k 0 + 1 := by
        have h1 := (ends_ok N k hN).1.1 q (by rw [h]; simp)
        have h2 := ((ends_ok N k hN).2 (q.2 - 1)).1 ⟨q, by rw [h]; simp, by omega, by omega⟩
        obtain ⟨i, hi, e⟩ := List.getElem_of_mem h2
        rw [List.getElem_take] at e
        have hik : i < k := by simp at hi; omega
        have := List.pairwise_iff_getElem.1 hN i k (by omega) hk hik
        simp only [List.getD, List.getElem?_eq_getElem hk, Option.getD_some]
        omega
      rw [Int.max_eq_right hq]
    · exact ⟨O ++ [q], N.getD k 0, rfl⟩
theorem ends_step0 (N : List Int) (h : 0 < N.length) : ends N 1 = [(N.getD 0 0, N.getD 0 0 + 1)] := by
  rw [ends_succ N 0 h]
  rfl
theorem ends_next (N : List Int) (k : Nat) (hN : Rising N) (hk : k + 1 < N.length) (O : List (Int × Int)) (a : Int) (hO : ends N (k + 1) = O ++ [(a, N.getD k 0 + 1)]) :
    ends N (k + 2) = if N.getD k 0 + 1 = N.getD (k + 1) 0 then O ++ [(a, N.getD (k + 1) 0 + 1)] else ends N (k + 1) ++ [(N.getD (k + 1) 0, N.getD (k + 1) 0 + 1)] := by
  rw [ends_succ N (k + 1) hk, hO, mergeStep_snoc]
  have hlt : N.getD k 0 < N.getD (k + 1) 0 := by
    have := List.pairwise_iff_getElem.1 hN k (k + 1) (by omega) hk (by omega)
    simpa [List.getD, List.getElem?_eq_getElem hk, List.getElem?_eq_getElem (show k < N.length by omega)] using this
  simp only
  by_cases h : N.getD k 0 + 1 = N.getD (k + 1) 0
  · rw [if_pos (by omega), if_pos h, Int.max_eq_right (by omega)]
  · rw [if_neg (by omega), if_neg h]
theorem set_last (Z : List Int) (z v : Int) (n : Nat) (hn : n = Z.length) : (Z ++ [z]).set n v = Z ++ [v] := by
  subst hn
  simp
end Sp

theorem Mine.set1 {W w : World} {g o c : Nat} {l : List Int} (h : Mine intE W w (some ⟨g, o, none⟩) c l) (i : Nat) (x : Int) : Mine intE W (w.setCell ⟨g, o + i, none⟩ (.int .i64 x)) (some ⟨g, o, none⟩) c (l.set i x) :=
  ⟨h.sl.set1 rfl rfl rfl, h.fresh.setCell (fun e => by have := h.base _ rfl; simp only at this e; omega) _, h.base⟩

set_option maxHeartbeats 4000000 in
set_option maxRecDepth 4000 in
theorem spans_any (A : Option Addr) (c : Nat) (N : List Int) (w : World) (h : Rd intE w A c N) (hN : Sp.Rising N) (hl : N.length ≤ 1000000) (hb : ∀ n ∈ N, -4611686018427387904 ≤ n ∧ n < 4611686018427387904) :
    Calls Try.prog 51 #[.slice A N.length c] w fun e w' => ∃ B d, e = .returned (.slice B (Sp.flat (Sp.ends N N.length)).length d) ∧ Mine intE w w' B d (Sp.flat (Sp.ends N N.length)) := by
  have hlc := h.1
  have hcm := h.2.1
  unfold maxLen at hcm
  have H := Lib.hid h
  clear h
  have HM0 := Lib.hid (Mine.lit intE w #[] [] rfl 0 rfl (by decide))
  have hgb : Hid (∀ i, i < N.length → -4611686018427387904 ≤ N.getD i 0 ∧ N.getD i 0 < 4611686018427387904) := fun i hi => hb _ (by rw [List.getD_eq_getElem?_getD, List.getElem?_eq_getElem hi]; exact List.getElem_mem hi)
  clear hb
  go_enter Try.func51, Try.ntmps51
  go_wp2_with fail
  go_loopw [3, 9] (fun s3 i wr => ∃ (k : Nat) (B : Option Addr) (d : Nat) (M : List Int), k ≤ N.length ∧ i = .int .i64 k ∧ s3 = .slice B M.length d ∧ Hid (M = Sp.flat (Sp.ends N k)) ∧ Hid (Mine intE w wr B d M)) (fun _ i _ => N.length - (intOf i).toNat)
  case atStart => exact ⟨0, _, 0, [], by omega, rfl, rfl, rfl, HM0⟩
  case round =>
    clear HM0
    obtain ⟨k, B, d, M, hkL, rfl, rfl, HMe, HM⟩ := hrel
    by_cases hk : k < N.length
    · have hk1 : (k : Int) < (N.length : Int) := by omega
      have hk0 : (0 : Int) ≤ (k : Int) := by omega
      have hMl : Hid (M.length ≤ 2 * k) := by unfold Hid; rw [HMe.out, Sp.flat_len]; have := Sp.ends_len N k hkL; omega
      have hMb : M.length ≤ 2000000 := by have := hMl.out; omega
      have hxb := hgb.out k hk
      rcases (show (k = 0 ∨ ∃ j, k = j + 1 ∧ ¬ N.getD j 0 + 1 = N.getD k 0) ∨ (∃ j, k = j + 1 ∧ N.getD j 0 + 1 = N.getD k 0) by
        rcases Nat.eq_zero_or_pos k with h | h
        · exact .inl (.inl h)
        · by_cases h2 : N.getD (k - 1) 0 + 1 = N.getD k 0
          · exact .inr ⟨k - 1, by omega, h2⟩
          · exact .inl (.inr ⟨k - 1, by omega, h2⟩)) with happ | ⟨j, rfl, hjx⟩
      · have HE : Hid (Sp.ends N (k + 1) = Sp.ends N k ++ [(N.getD k 0, N.getD k 0 + 1)]) := by
          rcases happ with rfl | ⟨j, rfl, hjx⟩
          · exact Sp.ends_step0 N hk
          · obtain ⟨O, a, hO⟩ := Sp.ends_last N j hN (by omega)
            have := Sp.ends_next N j hN hk O a hO
            rw [if_neg hjx] at this
            exact this
        have HZ : Hid (M = Sp.flat (Sp.ends N k)) := HMe
        have hRl : Hid (∀ (W : World) (x : Int), Rd intE (W.alloc (.cells #[.int .i64 x, .int .i64 x] 3)) (some ⟨W.heap.size, 0, none⟩) 2 [x, x]) := fun W x => Sl.rd (Sl.lit intE W _ rfl #[.int .i64 x, .int .i64 x] [x, x] rfl 2 rfl (by decide))
        rcases happ with rfl | ⟨j, rfl, hjx⟩
        · obtain ⟨g, o, rfl, _, c0⟩ := (HM.out.keepsR H.out).int_at 0 hk
          rw [Nat.add_zero] at c0
          generalize N.getD 0 0 = x at *
          go_upto_region 7 with (at_builtin; refine app_int rfl rfl (l := M) (l2 := [x, x]) rfl rfl (HM.out.sl.alloc _) (hRl.out _ _) (by simp; omega) ?_; intro B7 d7 M7 w7 hM7 hs7 ht7 hB7)
          have W7 := Lib.hid ((HM.out.alloc _).app hs7 ht7 hB7)
          have hMZ : M7 = (M ++ [x]) ++ [x] := by rw [hM7.out]; simp
          clear hs7 ht7 hB7 hM7
          have hlen : M7.length = (M ++ [x]).length + 1 := by rw [hMZ]; simp
          obtain ⟨g7, o7, hB7, _, c7⟩ := W7.out.sl.int_at (M ++ [x]).length (by omega)
          subst hB7
          have hfz := W7.out.sl.frozen g7 o7 rfl (o7 + (M ++ [x]).length)
          have MS := Lib.hid (W7.out.set1 (M ++ [x]).length (x + 1))
          have hset : Hid (M7.set (M ++ [x]).length (x + 1) = Sp.flat (Sp.ends N (0 + 1))) := by unfold Hid; rw [hMZ, Sp.set_last _ _ _ _ rfl, HE.out, Sp.flat_append, Sp.flat_one]; rw [← HZ.out, List.append_assoc]; rfl
          rw [hset.out] at MS
          have hfl : Hid ((Sp.flat (Sp.ends N (0 + 1))).length = (M ++ [x]).length + 1) := by unfold Hid; rw [← hset.out, List.length_set, hlen]
          have hzb : (M ++ [x]).length ≤ 2000002 := by first | omega | (simp; omega)
          rw [hlen]
          clear hset hMZ HE hlen HZ HMe W7
          generalize (M ++ [x]).length = m at *
          have hm1 : (m : Int) < (m : Int) + 1 := by omega
          go_wp2
          go_roundw
          case rel => exact ⟨0 + 1, some ⟨g7, o7, none⟩, d7, Sp.flat (Sp.ends N (0 + 1)), by omega, by go_num, by rw [hfl.out], rfl, MS⟩
          case measure => simp [intOf]; omega
        · obtain ⟨g, o, rfl, _, c0⟩ := (HM.out.keepsR H.out).int_at (j + 1) hk
          obtain ⟨g2, o2, e2, _, c1⟩ := (HM.out.keepsR H.out).int_at j (by omega)
          cases e2
          have hpb := hgb.out j (by omega)
          generalize N.getD (j + 1) 0 = x at *
          generalize N.getD j 0 = y at *
          have hj0 : ((j : Int) + 1 == 0) = false := by simp; omega
          have hyx : (y + 1 != x) = true := by simp [hjx]
          go_upto_region 7 with (at_builtin; refine app_int rfl rfl (l := M) (l2 := [x, x]) rfl rfl (HM.out.sl.alloc _) (hRl.out _ _) (by simp; omega) ?_; intro B7 d7 M7 w7 hM7 hs7 ht7 hB7)
          have W7 := Lib.hid ((HM.out.alloc _).app hs7 ht7 hB7)
          have hMZ : M7 = (M ++ [x]) ++ [x] := by rw [hM7.out]; simp
          clear hs7 ht7 hB7 hM7
          have hlen : M7.length = (M ++ [x]).length + 1 := by rw [hMZ]; simp
          obtain ⟨g7, o7, hB7, _, c7⟩ := W7.out.sl.int_at (M ++ [x]).length (by omega)
          subst hB7
          have hfz := W7.out.sl.frozen g7 o7 rfl (o7 + (M ++ [x]).length)
          have MS := Lib.hid (W7.out.set1 (M ++ [x]).length (x + 1))
          have hset : Hid (M7.set (M ++ [x]).length (x + 1) = Sp.flat (Sp.ends N ((j + 1) + 1))) := by unfold Hid; rw [hMZ, Sp.set_last _ _ _ _ rfl, HE.out, Sp.flat_append, Sp.flat_one]; rw [← HZ.out, List.append_assoc]; rfl
          rw [hset.out] at MS
          have hfl : Hid ((Sp.flat (Sp.ends N ((j + 1) + 1))).length = (M ++ [x]).length + 1) := by unfold Hid; rw [← hset.out, List.length_set, hlen]
          have hzb : (M ++ [x]).length ≤ 2000002 := by first | omega | (simp; omega)
          rw [hlen]
          clear hset hMZ HE hlen HZ HMe W7
          generalize (M ++ [x]).length = m at *
          have hm1 : (m : Int) < (m : Int) + 1 := by omega
          go_wp2
          go_roundw
          case rel => exact ⟨(j + 1) + 1, some ⟨g7, o7, none⟩, d7, Sp.flat (Sp.ends N ((j + 1) + 1)), by omega, by go_num, by rw [hfl.out], rfl, MS⟩
          case measure => simp [intOf]; omega
      · obtain ⟨O, a, hO⟩ := Sp.ends_last N j hN (by omega)
        have HE : Hid (Sp.ends N (j + 1 + 1) = O ++ [(a, N.getD (j + 1) 0 + 1)]) := by
          have := Sp.ends_next N j hN hk O a hO
          rwa [if_pos hjx] at this
        have HZ : Hid (M = Sp.flat O ++ [a, N.getD (j + 1) 0]) := by unfold Hid; rw [HMe.out, hO, Sp.flat_append, Sp.flat_one, hjx]
        obtain ⟨g, o, rfl, _, c0⟩ := (HM.out.keepsR H.out).int_at (j + 1) hk
        obtain ⟨g2, o2, e2, _, c1⟩ := (HM.out.keepsR H.out).int_at j (by omega)
        cases e2
        have hpb := hgb.out j (by omega)
        clear hO
        generalize N.getD (j + 1) 0 = x at *
        generalize N.getD j 0 = y at *
        have hj0 : ((j : Int) + 1 == 0) = false := by simp; omega
        have hyx : (y + 1 != x) = false := by simp [hjx]
        go_upto_region 7 with (fail)
        have hMZ : M = (Sp.flat O ++ [a]) ++ [x] := by rw [HZ.out]; simp
        clear hjx
        have hlen : M.length = (Sp.flat O ++ [a]).length + 1 := by rw [hMZ]; simp
        obtain ⟨g7, o7, hB7, _, c7⟩ := HM.out.sl.int_at (Sp.flat O ++ [a]).length (by omega)
        subst hB7
        have hfz := HM.out.sl.frozen g7 o7 rfl (o7 + (Sp.flat O ++ [a]).length)
        have MS := Lib.hid (HM.out.set1 (Sp.flat O ++ [a]).length (x + 1))
        have hset : Hid (M.set (Sp.flat O ++ [a]).length (x + 1) = Sp.flat (Sp.ends N ((j + 1) + 1))) := by unfold Hid; rw [hMZ, Sp.set_last _ _ _ _ rfl, HE.out, Sp.flat_append, Sp.flat_one]; simp
        rw [hset.out] at MS
        have hfl : Hid ((Sp.flat (Sp.ends N ((j + 1) + 1))).length = (Sp.flat O ++ [a]).length + 1) := by unfold Hid; rw [← hset.out, List.length_set, hlen]
        have hzb : (Sp.flat O ++ [a]).length ≤ 2000002 := by first | omega | (simp; omega)
        rw [hlen]
        clear hset hMZ HE hlen HZ HMe HM
        generalize (Sp.flat O ++ [a]).length = m at *
        have hm1 : (m : Int) < (m : Int) + 1 := by omega
        go_wp2
        go_roundw
        case rel => exact ⟨(j + 1) + 1, some ⟨g7, o7, none⟩, d, Sp.flat (Sp.ends N ((j + 1) + 1)), by omega, by go_num, by rw [hfl.out], rfl, MS⟩
        case measure => simp [intOf]; omega
    · have hkk : k = N.length := by omega
      have HR : Hid (M = Sp.flat (Sp.ends N N.length)) := by unfold Hid; rw [HMe.out, hkk]
      have hk' : ¬ ((k : Int) < (N.length : Int)) := by omega
      clear hk HMe hkk
      go_wp2
      go_ret
      exact ⟨B, d, by rw [← HR.out]; rfl, HR.out ▸ HM.out⟩
end Go.Proofs.Ytlfapnapkdnldaa

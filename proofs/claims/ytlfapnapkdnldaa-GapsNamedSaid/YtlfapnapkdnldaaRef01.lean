/-
  polliwogref01: Of, To; polliwoglaw09: nums, same.
-/
import Derived.Test.YtlfapnapkdnldaaGapE
import Derived.Test.YtlfapnapkdnldaaSeq
import Derived.Test.YtlfapnapkdnldaaMine
import Derived.Test.YtlfapnapkdnldaaTy
import Derived.Deep.DeepCutAuto
import Derived.Deep.QuietTactic
import Derived.BigQuiet
namespace Go.Proofs.Ytlfapnapkdnldaa
open Go.RowKit

theorem r01of_any (x : Int) (w : World) : Calls Try.prog 31 #[.int .i64 x] w fun e w' => e = .returned (.int .i64 (x % 16777216)) ∧ w' = w := by
  obtain ⟨r, hr⟩ : ∃ r : Int, x.tmod 16777216 = r := ⟨_, rfl⟩
  have h1 := Int.tmod_lt_of_pos x (show (0 : Int) < 16777216 by decide)
  have h2 := Int.tmod_lt_of_pos (-x) (show (0 : Int) < 16777216 by decide)
  rw [Int.neg_tmod] at h2
  have h3 := Int.mul_tdiv_add_tmod x 16777216
  rw [hr] at h1 h2 h3
  by_cases hn : r < 0
  · have HR : Hid (x % 16777216 = r + 16777216) := by unfold Hid; omega
    clear h3
    go_enter Try.func31, Try.ntmps31
    go_wp2
    go_ret
    exact ⟨by rw [HR.out]; rfl, rfl⟩
  · have HR : Hid (x % 16777216 = r) := by unfold Hid; omega
    clear h3
    go_enter Try.func31, Try.ntmps31
    go_wp2
    go_ret
    exact ⟨by rw [HR.out]; rfl, rfl⟩

theorem r01to_any (a b : Int) (w : World) : Calls Try.prog 36 #[.int .i64 a, .int .i64 b] w fun e w' => e = .returned (.int .i64 ((b - a) % 16777216)) ∧ w' = w := by
  have h3 := r01of_any (b % 16777216 - a % 16777216)
  rw [show (b % 16777216 - a % 16777216) % 16777216 = (b - a) % 16777216 by omega] at h3
  have H3 := Lib.hid h3
  clear h3
  have hb1 : 0 ≤ a % 16777216 ∧ a % 16777216 < 16777216 := by omega
  have hb2 : 0 ≤ b % 16777216 ∧ b % 16777216 < 16777216 := by omega
  have HA := Lib.hid (r01of_any a)
  have HB := Lib.hid (r01of_any b)
  generalize a % 16777216 = a1 at *
  generalize b % 16777216 = b1 at *
  go_enter Try.func36, Try.ntmps36
  go_wp2_with fail
  refine (HB.out w).mono ?_
  rintro e w2 ⟨rfl, rfl⟩
  simp only
  go_wp2_with fail
  refine (HA.out w2).mono ?_
  rintro e w3 ⟨rfl, rfl⟩
  simp only
  go_wp2_with fail
  refine (H3.out w3).mono ?_
  rintro e w4 ⟨rfl, rfl⟩
  simp only
  go_wp2
  go_ret
  exact ⟨rfl, rfl⟩

theorem nums09_any (A : Option Addr) (c : Nat) (l : List Int) (w : World) (h : Rd intE w A c l) (hl : l.length ≤ 1000000) :
    Calls Try.prog 32 #[.slice A l.length c] w fun e w' => ∃ B d, e = .returned (.slice B (l.map fun x => x % 16777216).length d) ∧ Mine numE w w' B d (l.map fun x => x % 16777216) := by
  have H := Lib.hid h
  clear h
  go_enter Try.func32, Try.ntmps32
  go_wp2_with fail
  go_loopw [3, 8] (fun s3 i wr => ∃ (k : Nat) (B : Option Addr) (d : Nat) (M : List Int), k ≤ l.length ∧ i = .int .i64 k ∧ s3 = .slice B M.length d ∧ Hid (M = (l.take k).map fun x => x % 16777216) ∧ Hid (Mine numE w wr B d M) ∧ M.length ≤ k) (fun _ i _ => l.length - (intOf i).toNat)
  case atStart => exact ⟨0, none, 0, [], by omega, rfl, rfl, rfl, Mine.nil _ _, by simp⟩
  case round =>
    obtain ⟨k, B, d, M, hkl, rfl, rfl, HMe, HM, hMl⟩ := hrel
    by_cases hk : k < l.length
    · have hk1 : (k : Int) < (l.length : Int) := by omega
      have hdk1 : decide ((k : Int) < (l.length : Int)) = true := decide_eq_true hk1
      have hk0 : (0 : Int) ≤ (k : Int) := by omega
      obtain ⟨g, o, rfl, _, c0⟩ := (HM.out.keepsR H.out).int_at k hk
      have HS : Hid ((l.take (k + 1)).map (fun x => x % 16777216) = (l.take k).map (fun x => x % 16777216) ++ [l.getD k 0 % 16777216]) := by
        unfold Hid
        rw [List.take_succ_eq_append_getElem hk, List.map_append]
        simp [List.getD, List.getElem?_eq_getElem hk]
      rw [← HMe.out] at HS
      generalize l.getD k 0 = x at *
      go_wp2_with fail
      refine (sof_any x wr).mono ?_
      rintro e w2 ⟨rfl, rfl⟩
      generalize x % 16777216 = y at *
      simp only
      go_wp2_with (at_builtin; refine app_num rfl rfl (l := M) (l2 := [y]) rfl rfl (HM.out.sl.alloc _) (Sl.rd (Sl.lit numE _ _ rfl _ _ rfl _ rfl (by decide))) (by simp; omega) ?_; intro B4 d4 M4 w4 hM4 hs4 ht4 hB4)
      have HM5 := Lib.hid ((HM.out.alloc (.cells #[.int .u32 y] 30)).app hs4 ht4 hB4)
      rw [← hM4.out] at HS
      have hl4 : M4.length ≤ k + 1 := by rw [hM4.out]; simp; omega
      clear hs4 ht4 hB4 hM4 HM c0 HMe
      go_roundw
      case rel => exact ⟨k + 1, B4, d4, M4, by omega, by go_num, rfl, HS.out.symm, HM5, hl4⟩
      case measure => simp [intOf]; omega
    · have hkk : k = l.length := by omega
      have HR : Hid (M = l.map fun x => x % 16777216) := by unfold Hid; rw [HMe.out, hkk, List.take_length]
      have hk' : ¬ ((k : Int) < (l.length : Int)) := by omega
      clear hk HMe hkk
      go_wp2
      go_ret
      have hml : M.length = l.length := by rw [HR.out, List.length_map]
      exact ⟨B, d, by rw [← hml]; rfl, HR.out ▸ HM.out⟩

theorem same09_true (A : Option Addr) (c : Nat) (B : Option Addr) (d : Nat) (X : List Int) (w : World) (h : Rd numE w A c X) (h2 : Rd intE w B d X) (hb : ∀ x ∈ X, 0 ≤ x ∧ x < 16777216) :
    Calls Try.prog 34 #[.slice A X.length c, .slice B X.length d] w fun e w' => e = .returned (.bool true) ∧ Fresh w w' := by
  have H := Lib.hid h
  have H2 := Lib.hid h2
  have hcm := h.2.1
  have hlc := h.1
  unfold maxLen at hcm
  have HB : Hid (∀ i, i < X.length → 0 ≤ X.getD i 0 ∧ X.getD i 0 < 16777216) := fun i hi => hb _ (by rw [List.getD_eq_getElem?_getD, List.getElem?_eq_getElem hi]; exact List.getElem_mem hi)
  clear h h2 hb
  go_enter Try.func34, Try.ntmps34
  go_wp2_with fail
  go_loopw [13] (fun i wr => ∃ k : Nat, k ≤ X.length ∧ i = .int .i64 k ∧ Hid (Fresh w wr)) (fun i _ => X.length - (intOf i).toNat)
  case atStart => exact ⟨0, by omega, rfl, Touch.refl _ _⟩
  case round =>
    obtain ⟨k, hk, rfl, HF⟩ := hrel
    by_cases hlt : k < X.length
    · have hk1 : (k : Int) < (X.length : Int) := by omega
      have hk0 : (0 : Int) ≤ (k : Int) := by omega
      obtain ⟨g1, o1, rfl, _, c0⟩ := (H.out.touch HF.out (fun _ _ _ h => h)).num_at k hlt
      obtain ⟨g2, o2, rfl, _, c1⟩ := (H2.out.touch HF.out (fun _ _ _ h => h)).int_at k hlt
      have hx := HB.out k hlt
      generalize X.getD k 0 = x at *
      go_upto_region 6 with (fail)
      go_quiet (fail)
      have HF2 := Lib.hid (HF.out.drewN nq)
      clear c0 c1 HF
      go_wp2
      go_roundw
      case rel => exact ⟨k + 1, hlt, by go_num, HF2⟩
      case measure => simp [intOf]; omega
    · have hk' : ¬ ((k : Int) < (X.length : Int)) := by omega
      clear hlt
      go_wp2
      go_ret
      exact ⟨rfl, HF.out⟩
end Go.Proofs.Ytlfapnapkdnldaa

/-
  polliwogref01: Of, To · polliwogref06: HasSQ, HasN, Most of a kind; polliwoglaw02.Cut; polliwoglaw16.near. No conditions but that a cut is not below none.
-/
import Derived.Test.YtipaobpmojahaaaGreatRows
import Derived.Test.YtipaobpmojahaaaGreatCnP
import Derived.Deep.DeepCutAuto
import Derived.Deep.QuietTactic
import Derived.BigQuiet
import Derived.Test.YtipaobpmojahaaaGreatEvD
namespace Go.Proofs.YtipaobpmojahaaaGreat
open Go.RowKit

theorem r01of_any (x : Int) (w : World) : Calls Tryz.prog 26 #[.int .i64 x] w fun e w' => e = .returned (.int .i64 (x % 16777216)) ∧ w' = w := by
  obtain ⟨r, hr⟩ : ∃ r : Int, x.tmod 16777216 = r := ⟨_, rfl⟩
  have h1 := Int.tmod_lt_of_pos x (show (0 : Int) < 16777216 by decide)
  have h2 := Int.tmod_lt_of_pos (-x) (show (0 : Int) < 16777216 by decide)
  rw [Int.neg_tmod] at h2
  have h3 := Int.mul_tdiv_add_tmod x 16777216
  rw [hr] at h1 h2 h3
  by_cases hn : r < 0
  · have HR : Hid (x % 16777216 = r + 16777216) := by unfold Hid; omega
    clear h3
    go_enter Tryz.func26, Tryz.ntmps26
    go_wp2
    go_ret
    exact ⟨by rw [HR.out]; rfl, rfl⟩
  · have HR : Hid (x % 16777216 = r) := by unfold Hid; omega
    clear h3
    go_enter Tryz.func26, Tryz.ntmps26
    go_wp2
    go_ret
    exact ⟨by rw [HR.out]; rfl, rfl⟩

theorem r01to_any (a b : Int) (w : World) : Calls Tryz.prog 247 #[.int .i64 a, .int .i64 b] w fun e w' => e = .returned (.int .i64 ((b - a) % 16777216)) ∧ w' = w := by
  have h3 := r01of_any (b % 16777216 - a % 16777216)
  rw [show (b % 16777216 - a % 16777216) % 16777216 = (b - a) % 16777216 by omega] at h3
  have H3 := Lib.hid h3
  clear h3
  have hb1 : 0 ≤ a % 16777216 ∧ a % 16777216 < 16777216 := by omega
  have hb2 : 0 ≤ b % 16777216 ∧ b % 16777216 < 16777216 := by omega
  have HA := Lib.hid (r01of_any a)
  have HB := Lib.hid (r01of_any b)
  generalize a % 16777216 = a1 at *
  generalize b % 16777216 = b1 at *
  go_enter Tryz.func247, Tryz.ntmps247
  go_wp2_with fail
  refine (HB.out w).mono ?_
  rintro e w2 ⟨rfl, rfl⟩
  simp only
  go_wp2_with fail
  refine (HA.out w2).mono ?_
  rintro e w3 ⟨rfl, rfl⟩
  simp only
  go_wp2_with fail
  refine (H3.out w3).mono ?_
  rintro e w4 ⟨rfl, rfl⟩
  simp only
  go_wp2
  go_ret
  exact ⟨rfl, rfl⟩
set_option maxRecDepth 20000

theorem in06_any (k : Int) (A : Option Addr) (c : Nat) (L : List Int) (w : World) (h : Rd intE w A c L) :
    Calls Tryz.prog 210 #[.int .i64 k, .slice A L.length c] w fun e w' => e = .returned (.bool (L.contains k)) ∧ w' = w := by
  have H := Lib.hid h
  clear h
  have hL : L.length ≤ maxLen := Nat.le_trans H.out.1 H.out.2.1
  unfold maxLen at hL
  obtain ⟨B, hB⟩ : ∃ B, L.contains k = B := ⟨_, rfl⟩
  have HB := Lib.hid hB
  rw [hB]
  clear hB
  go_enter Tryz.func210, Tryz.ntmps210
  go_wp2
  go_loopw [9] (fun v wr => ∃ j : Nat, j ≤ L.length ∧ v = .int .i64 j ∧ wr = w ∧ Hid (∀ i, i < j → L.getD i 0 ≠ k)) (fun v _ => L.length - (intOf v).toNat)
  case atStart => exact ⟨0, by omega, rfl, rfl, fun i hi => by omega⟩
  case round =>
    obtain ⟨j, hj, rfl, hw, HN⟩ := hrel
    subst hw
    by_cases hlt : j < L.length
    · have h1 : (j : Int) < (L.length : Int) := by omega
      have h0 : (0 : Int) ≤ (j : Int) := by omega
      obtain ⟨g, o, rfl, _, c0⟩ := H.out.int_at j hlt
      have HJ : Hid (L.getD j 0 ∈ L) := by
        rw [List.getD_eq_getElem?_getD, List.getElem?_eq_getElem hlt]
        exact List.getElem_mem hlt
      by_cases he : L.getD j 0 = k
      · obtain rfl : B = true := by
          have := HJ.out
          rw [he] at this
          exact HB.out.symm.trans (List.contains_iff_mem.2 this)
        have hb : (L.getD j 0 == k) = true := by simpa using he
        generalize L.getD j 0 = y at *
        subst he
        clear HN HJ HB
        go_wp2
        go_ret
        exact ⟨rfl, rfl⟩
      · have hb : (L.getD j 0 == k) = false := by simpa using he
        have HN2 : Hid (∀ i, i < j + 1 → L.getD i 0 ≠ k) := fun i hi => by
          by_cases e : i = j
          · subst e; exact he
          · exact HN.out i (by omega)
        generalize L.getD j 0 = y at *
        clear HN HJ he
        go_wp2
        go_roundw
        case rel => exact ⟨j + 1, by omega, by go_num, by first | rfl | trivial, HN2⟩
        case measure => simp [intOf]; omega
    · obtain rfl : j = L.length := by omega
      have h1 : ¬ (L.length : Int) < (L.length : Int) := by omega
      obtain rfl : B = false := by
        refine HB.out.symm.trans (Bool.eq_false_iff.2 fun hc => ?_)
        obtain ⟨i, hi, e⟩ := List.mem_iff_getElem.1 (List.contains_iff_mem.1 hc)
        refine HN.out i hi ?_
        rw [List.getD_eq_getElem?_getD, List.getElem?_eq_getElem hi]
        exact e
      clear HN HB
      go_wp2
      go_ret
      exact ⟨rfl, rfl⟩
theorem hasSQ_any (k : Int) (w : World) : Calls Tryz.prog 150 #[.int .i64 k] w fun e w' => e = .returned (.bool ([1, 2, 3, 4, 5, 6, 7, 9, 15].contains k)) ∧ Fresh w w' := by
  have HI := Lib.hid (fun (W : World) h => in06_any k (some ⟨w.heap.size, 0, none⟩) 9 [1, 2, 3, 4, 5, 6, 7, 9, 15] W h)
  obtain ⟨b, hb⟩ : ∃ b, [1, 2, 3, 4, 5, 6, 7, 9, 15].contains k = b := ⟨_, rfl⟩
  rw [hb] at HI
  rw [hb]
  clear hb
  go_enter Tryz.func150, Tryz.ntmps150
  go_wp2_with fail
  refine (HI.out _ (Sl.rd (Sl.lit intE w _ rfl _ [1, 2, 3, 4, 5, 6, 7, 9, 15] rfl 9 rfl (by decide)))).mono ?_
  rintro e w' ⟨rfl, rfl⟩
  simp only
  go_wp2
  go_ret
  exact ⟨rfl, (Touch.refl _ _).alloc _⟩
theorem hasN_any (k : Int) (w : World) : Calls Tryz.prog 151 #[.int .i64 k] w fun e w' => e = .returned (.bool ([1, 2, 5, 6, 8, 9, 10, 11, 12, 15].contains k)) ∧ Fresh w w' := by
  have HI := Lib.hid (fun (W : World) h => in06_any k (some ⟨w.heap.size, 0, none⟩) 10 [1, 2, 5, 6, 8, 9, 10, 11, 12, 15] W h)
  obtain ⟨b, hb⟩ : ∃ b, [1, 2, 5, 6, 8, 9, 10, 11, 12, 15].contains k = b := ⟨_, rfl⟩
  rw [hb] at HI
  rw [hb]
  clear hb
  go_enter Tryz.func151, Tryz.ntmps151
  go_wp2_with fail
  refine (HI.out _ (Sl.rd (Sl.lit intE w _ rfl _ [1, 2, 5, 6, 8, 9, 10, 11, 12, 15] rfl 10 rfl (by decide)))).mono ?_
  rintro e w' ⟨rfl, rfl⟩
  simp only
  go_wp2
  go_ret
  exact ⟨rfl, (Touch.refl _ _).alloc _⟩
def most06 (k : Int) : Int := if [1, 3, 5, 7].contains k then 64 else if [8, 13, 14].contains k then 200 else 0
theorem most06_any (k : Int) (w : World) : Calls Tryz.prog 153 #[.int .i64 k] w fun e w' => e = .returned (.int .i64 (most06 k)) ∧ Fresh w w' := by
  have HI := Lib.hid (fun (W : World) h => in06_any k (some ⟨w.heap.size, 0, none⟩) 4 [1, 3, 5, 7] W h)
  have HJ := Lib.hid (fun (W : World) (g : Nat) h => in06_any k (some ⟨g, 0, none⟩) 3 [8, 13, 14] W h)
  unfold most06
  obtain ⟨b, hb⟩ : ∃ b, [1, 3, 5, 7].contains k = b := ⟨_, rfl⟩
  obtain ⟨d, hd⟩ : ∃ d, [8, 13, 14].contains k = d := ⟨_, rfl⟩
  rw [hb] at HI
  rw [hd] at HJ
  rw [hb, hd]
  clear hb hd
  go_enter Tryz.func153, Tryz.ntmps153
  go_wp2_with fail
  refine (HI.out _ (Sl.rd (Sl.lit intE w _ rfl _ [1, 3, 5, 7] rfl 4 rfl (by decide)))).mono ?_
  rintro e w' ⟨rfl, rfl⟩
  simp only
  cases b
  · go_wp2_with fail
    refine (HJ.out _ (w.heap.size + 1) (Sl.rd (Sl.lit intE (w.alloc _) _ (by simp) _ [8, 13, 14] rfl 3 rfl (by decide)))).mono ?_
    rintro e w' ⟨rfl, rfl⟩
    simp only
    cases d
    · go_wp2
      go_ret
      exact ⟨rfl, ((Touch.refl _ _).alloc _).alloc _⟩
    · go_wp2
      go_ret
      exact ⟨rfl, ((Touch.refl _ _).alloc _).alloc _⟩
  · go_wp2
    go_ret
    exact ⟨rfl, (Touch.refl _ _).alloc _⟩
/-- A text, cut. -/
def cutN (v : ByteArray) (n : Nat) : ByteArray := if n < v.size then v.extract 0 n else v
theorem cutN_any (v : ByteArray) (n : Nat) (hn : n ≤ 1000) (w : World) : Calls Tryz.prog 11 #[.string v, .int .i64 n] w fun e w' => e = .returned (.string (cutN v n)) ∧ w' = w := by
  have h0 : (0 : Int) ≤ (n : Int) := by omega
  obtain ⟨V, hV⟩ : ∃ V, cutN v n = V := ⟨_, rfl⟩
  have HV := Lib.hid hV
  rw [hV]
  clear hV
  by_cases hs : n < v.size
  · obtain rfl : V = v.extract 0 n := HV.out.symm.trans (if_pos hs)
    have h1 : (n : Int) < (v.size : Int) := by omega
    go_enter Tryz.func11, Tryz.ntmps11
    go_wp2
    go_ret
    exact ⟨rfl, rfl⟩
  · have h1 : ¬ (n : Int) < (v.size : Int) := by omega
    have HW : Hid (V = v) := HV.out.symm.trans (if_neg hs)
    go_enter Tryz.func11, Tryz.ntmps11
    go_wp2
    go_ret
    exact ⟨by rw [HW.out]; rfl, rfl⟩
theorem near_31 (s : Int) (w : World) (hs : 0 ≤ s ∧ s < 16777216) : Calls Tryz.prog 152 #[.int .i64 s, .int .i64 31] w fun e w' => e = .returned (.int .i64 ((s + 31) % 16777216)) ∧ w' = w := by
  have HO := Lib.hid (r01of_any (s + 31))
  have b1 : bits BinOp.and .i64 31 31 = 31 := by kernel_rfl
  have b2 : bits BinOp.and .i64 0 3 = 0 := by kernel_rfl
  go_enter Tryz.func152, Tryz.ntmps152
  go_wp2_with (fail)
  refine (HO.out _).mono ?_
  rintro e w' ⟨rfl, rfl⟩
  simp only
  go_wp2
  go_ret
  exact ⟨rfl, rfl⟩
end Go.Proofs.YtipaobpmojahaaaGreat

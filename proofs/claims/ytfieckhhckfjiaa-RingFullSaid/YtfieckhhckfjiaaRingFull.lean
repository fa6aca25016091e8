/-
  polliwoglaw04.RingFull.
-/
import Derived.Test.YtfieckhhckfjiaaAwakeR
import Derived.Test.YtfieckhhckfjiaaNum
import Derived.Test.YtfieckhhckfjiaaOpen
namespace Go.Proofs.Ytfieckhhckfjiaa
open Go.RowKit Go.ChangeShapes Go.WideShapes Go.ChangeAt

/-- The numbers from f up to n. -/
def rng (f n : Nat) : List Int := (List.range' f (n - f)).map Int.ofNat
theorem rng_len (f n : Nat) : (rng f n).length = n - f := by simp [rng]
theorem rng_put {f n : Nat} (h : f ≤ n) : rng f n ++ [(n : Int)] = rng f (n + 1) := by
  unfold rng
  rw [show n + 1 - f = (n - f) + 1 by omega, List.range'_concat]
  simp; omega
theorem rng_tail (f n : Nat) : (rng f n).tail = rng (f + 1) n := by
  unfold rng
  cases h : n - f with
  | zero => rw [show n - (f + 1) = 0 by omega]; rfl
  | succ k => rw [show n - (f + 1) = k by omega, List.range'_succ]; rfl
theorem rng_first {f n : Nat} (h : f < n) : (rng f n).getD 0 0 = (f : Int) := by
  unfold rng
  rw [show n - f = (n - f - 1) + 1 by omega, List.range'_succ]; rfl

theorem and31_in (y : Int) : 0 ≤ bits .and .i64 y 31 ∧ bits .and .i64 y 31 ≤ 31 := by rw [and_31]; omega

set_option maxRecDepth 100000 in
set_option maxHeartbeats 4000000 in
theorem ringFull.core (x : Int) (m : Nat) (hx : 1 + bits .and .i64 x 31 = (m : Int)) (hm : 1 ≤ m ∧ m ≤ 32) (A : Option Addr) (c : Nat) (L : List Int) (w : World) (hr : Rd intE w A c L) :
    Calls Try.prog 3 #[.int .i64 x, .slice A L.length c] w fun e w' => e = .returned (.bool true) ∧ Below w.heap.size w w' := by
  have hlc := hr.1
  have hcm := hr.2.1
  unfold maxLen at hcm
  have hx1 := and31_in x
  have HR := Lib.hid hr
  clear hr
  go_enter Try.func3, Try.ntmps3
  go_wp2_with fail
  refine (awake04_any _).mono ?_
  rintro e w1 ⟨rfl, t1⟩
  go_wp2_with fail
  clear hx hx1
  refine (ownInt_new m m (by show _ = _; omega) w w1 t1).mono ?_
  rintro e w2 ⟨rfl, h2⟩
  generalize w1.heap.size = g at *
  have H2 := Lib.hid h2
  clear h2 t1
  go_wp2_with fail
  go_loopw [6, 7, 8] (fun n f i wr => ∃ (k nn ff : Nat), k ≤ 40 ∧ k ≤ L.length ∧ n = .int .i64 nn ∧ f = .int .i64 ff ∧ i = .int .i64 k ∧ ff ≤ nn ∧ nn ≤ 31 * k ∧ OwnInt w wr g m (rng ff nn)) (fun _ _ i _ => 40 - (intOf i).toNat)
  case atStart => exact ⟨0, 0, 0, by omega, by omega, rfl, rfl, rfl, by omega, by omega, H2.out⟩
  case round =>
    obtain ⟨k, nn, ff, hk40, hkL, rfl, rfl, rfl, hfn, hnk, ho⟩ := hrel
    have HO := Lib.hid ho
    clear ho
    by_cases h1 : k < L.length
    · by_cases h2 : k < 40
      · have hk1 : (k : Int) < (L.length : Int) := by omega
        have hk2 : (k : Int) < 40 := by omega
        have hd1 : decide ((k : Int) < (L.length : Int)) = true := decide_eq_true hk1
        have hd2 : decide ((k : Int) < 40) = true := decide_eq_true hk2
        obtain ⟨gA, oA, hA, hgA, hc⟩ := (HR.out.touch HO.out.fresh (fun _ _ _ h => h)).int_at k h1
        have hcell : Hid (∀ wx, Fresh w wx → wx.cell? ⟨gA, oA + k, none⟩ = some (.int .i64 (L.getD k 0))) := fun wx hf => by
          obtain ⟨gB, oB, hB, _, hcB⟩ := (HR.out.touch hf (fun _ _ _ h => h)).int_at k h1
          rw [hA] at hB
          injection hB with hB
          injection hB with e1 e2
          rw [e1, e2]; exact hcB
        generalize L.getD k 0 = y at *
        subst hA
        obtain ⟨z, hz⟩ : ∃ z : Nat, bits .and .i64 y 31 = (z : Int) := ⟨(bits .and .i64 y 31).toNat, by have := and31_in y; omega⟩
        have hz31 : z ≤ 31 := by have := and31_in y; omega
        go_wp2_with fail
        go_loopw [6, 35] (fun n j wr => ∃ (jj n2 : Nat), jj ≤ z ∧ j = .int .i64 jj ∧ n = .int .i64 n2 ∧ ff ≤ n2 ∧ n2 ≤ 31 * k + jj ∧ OwnInt w wr g m (rng ff n2)) (fun _ j _ => z - (intOf j).toNat)
        case atStart => exact ⟨0, nn, by omega, rfl, rfl, hfn, by omega, HO.out⟩
        case round =>
          obtain ⟨jj, n2, hjz, rfl, rfl, hf2, hn2, ho⟩ := hrel
          by_cases hj : jj < z
          · go_wp2_with fail
            refine (ownInt_put _ _ _ n2 _ _ ho).mono ?_
            rintro e w4 ⟨rfl, h4⟩
            rw [rng_len] at h4 ⊢
            clear ho
            by_cases hroom : n2 - ff < m
            · rw [if_pos hroom] at h4 ⊢
              rw [rng_put hf2] at h4
              have H4 := Lib.hid h4
              have hri : (n2 : Int) - (ff : Int) < (m : Int) := by omega
              clear h4 hroom
              go_wp2
              go_roundw
              case rel => exact ⟨jj + 1, n2 + 1, by omega, by go_num, by go_num, by omega, by omega, H4.out⟩
              case measure => simp [intOf]; omega
            · rw [if_neg hroom] at h4 ⊢
              have H4 := Lib.hid h4
              have hri : (m : Int) ≤ (n2 : Int) - (ff : Int) := by omega
              clear h4 hroom
              go_wp2
              go_roundw
              case rel => exact ⟨jj + 1, n2, by omega, by go_num, rfl, by omega, by omega, H4.out⟩
              case measure => simp [intOf]; omega
          · have hjz' : jj = z := by omega
            have hL1 : ¬ ((jj : Int) < (z : Int)) := by omega
            have hnn : n2 ≤ 31 * (k + 1) := by omega
            clear hjz hj hjz'
            have HO2 := Lib.hid ho
            clear ho HO hz hz31 hfn
            have hc := hcell.out _ HO2.out.fresh
            obtain ⟨z2, hz2⟩ : ∃ z2 : Nat, bits .and .i64 (y / 32) 31 = (z2 : Int) := ⟨(bits .and .i64 (y / 32) 31).toNat, by have := and31_in (y / 32); omega⟩
            have hz31 : z2 ≤ 31 := by have := and31_in (y / 32); omega
            go_wp2_with fail
            go_loopw [7, 61] (fun f j wr => ∃ (jj f2 : Nat), jj ≤ z2 ∧ j = .int .i64 jj ∧ f = .int .i64 f2 ∧ f2 ≤ n2 ∧ OwnInt w wr g m (rng f2 n2)) (fun _ j _ => z2 - (intOf j).toNat)
            case atStart => exact ⟨0, ff, by omega, rfl, rfl, hf2, HO2.out⟩
            case round =>
              obtain ⟨j2, f2, hjz, rfl, rfl, hf2, ho⟩ := hrel
              by_cases hj : j2 < z2
              · go_wp2_with fail
                refine (ownInt_take _ _ _ _ _ ho).mono ?_
                rintro e w4 ⟨rfl, h4⟩
                rw [rng_tail] at h4
                rw [rng_len]
                clear ho
                by_cases hin : f2 < n2
                · rw [rng_first hin, if_neg (by omega)]
                  have H4 := Lib.hid h4
                  have hri : (f2 : Int) < (n2 : Int) := by omega
                  clear h4 hin
                  go_wp2
                  go_roundw
                  case rel => exact ⟨j2 + 1, f2 + 1, by omega, by go_num, by go_num, by omega, H4.out⟩
                  case measure => simp [intOf]; omega
                · rw [if_pos (by omega)]
                  have he : rng (f2 + 1) n2 = rng f2 n2 := by unfold rng; rw [show n2 - (f2 + 1) = 0 by omega, show n2 - f2 = 0 by omega]; rfl
                  rw [he] at h4
                  have H4 := Lib.hid h4
                  have hri : (n2 : Int) ≤ (f2 : Int) := by omega
                  clear h4 hin he
                  go_wp2
                  go_roundw
                  case rel => exact ⟨j2 + 1, f2, by omega, by go_num, rfl, by omega, H4.out⟩
                  case measure => simp [intOf]; omega
              · have hjz' : ¬ ((j2 : Int) < (z2 : Int)) := by omega
                have hlen := rng_len f2 n2
                clear hjz hj hz2 hz31 HO2
                go_wp2_with fail
                refine (ownInt_len _ _ _ _ _ ho).mono ?_
                rintro e w5 ⟨rfl, rfl⟩
                rw [hlen, show ((n2 - f2 : Nat) : Int) = (n2 : Int) - f2 by omega]
                go_wp2_with fail
                refine (ownInt_room _ _ _ _ _ ho).mono ?_
                rintro e w5 ⟨rfl, h5⟩
                have H5 := Lib.hid h5
                rw [hlen, show ((n2 - f2 : Nat) : Int) = (n2 : Int) - f2 by omega]
                clear h5 ho hlen
                go_wp2
                go_roundw
                case rel => exact ⟨k + 1, n2, f2, by omega, by omega, rfl, rfl, by go_num, hf2, hnn, H5.out⟩
                case measure => simp [intOf]; omega
      · have hk2 : ¬ ((k : Int) < 40) := by omega
        go_wp2
        go_ret
        exact ⟨rfl, HO.out.fresh.below (Nat.le_refl _) (fun _ _ h => h)⟩
    · have hk1 : ¬ ((k : Int) < (L.length : Int)) := by omega
      go_wp2
      go_ret
      exact ⟨rfl, HO.out.fresh.below (Nat.le_refl _) (fun _ _ h => h)⟩

theorem ringFull.walk (a0 : Int) (v : Value) (w : World) (_h0 : (Lit.int .i64 a0).wf = true) {H : Type} {enc : TypeId × Value → H} {base : Nat} {d : DataW H} {p : List MemPlace} (hv : Value.okWide Try.prog w .any base 22 v) (h : DataW.Trod enc Try.prog w 0 (fun _ => true) true 22 v d p) :
    Calls Try.prog 3 #[.int .i64 a0, v] w fun e w' => e = .returned (.bool true) ∧ Below w.heap.size w w' := by
  obtain ⟨A, c, l, rfl, hr, _⟩ := open_rd_int hv h
  have := and31_in a0
  exact ringFull.core a0 (1 + bits .and .i64 a0 31).toNat (by omega) (by omega) A c l w hr
end Go.Proofs.Ytfieckhhckfjiaa

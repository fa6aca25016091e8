/-
  polliwogref03: Put.
-/
import Derived.Test.YtlfapnapkdnldaaRef03
import Derived.Test.YtlfapnapkdnldaaMine
import Derived.Deep.DeepCutAuto
import Derived.Deep.CutBlock
namespace Go.Proofs.Ytlfapnapkdnldaa
open Go.RowKit

def PutPost (l : List Int) (x : Int) (A : Option Addr) (c : Nat) (w : World) (e : Ending) (w' : World) : Prop :=
  ∃ A' c', e = .returned (.slice A' (Sp.put l x).length c') ∧ Sl intE w' A' c' (Sp.put l x) ∧ Fresh w w' ∧ ((A' = A ∧ c' = c) ∨ ∀ ad, A' = some ad → w.heap.size ≤ ad.block)

set_option maxHeartbeats 2000000 in
theorem put03_any (A : Option Addr) (c : Nat) (l : List Int) (x : Int) (w : World) (h : Sl intE w A c l) (hl : l.length ≤ 1000000) :
    Calls Try.prog 29 #[.slice A l.length c, .int .i64 x] w (PutPost l x A c w) := by
  have H := Lib.hid h
  have HH := Lib.hid (has03_any A c l x w h.rd)
  clear h
  by_cases hx : x ∈ l
  · have HP : Hid (Sp.put l x = l) := if_pos hx
    rw [decide_eq_true hx] at HH
    clear hx
    go_enter Try.func29, Try.ntmps29
    go_wp2_with fail
    refine HH.out.mono ?_
    rintro e w1 ⟨rfl, rfl⟩
    go_wp2
    go_ret
    exact ⟨A, c, by rw [HP.out]; rfl, by rw [HP.out]; exact H.out, Touch.refl _ _, .inl ⟨rfl, rfl⟩⟩
  · have HP : Hid (Sp.put l x = if Sp.past l x l.length = true then Sp.insTo l x l.length else Sp.insTo l x l.length ++ [x]) := by
      unfold Hid Sp.put
      rw [if_neg hx, Sp.insTo_all]
    rw [decide_eq_false hx] at HH
    clear hx
    go_enter Try.func29, Try.ntmps29
    go_wp2_with fail
    refine HH.out.mono ?_
    rintro e w1 ⟨rfl, rfl⟩
    have HM0 := Lib.hid (Mine.lit intE w #[] [] rfl 0 rfl (by decide))
    clear HH
    go_wp2_with fail
    go_loopw [5, 6, 16] (fun s5 s6 i wr => ∃ (k : Nat) (B : Option Addr) (d : Nat) (M : List Int) (p : Bool), k ≤ l.length ∧ i = .int .i64 k ∧ s5 = .slice B M.length d ∧ s6 = .bool p ∧ Hid (p = Sp.past l x k) ∧ Hid (M = Sp.insTo l x k) ∧ Hid (Mine intE w wr B d M)) (fun _ _ i _ => l.length - (intOf i).toNat)
    case atStart => exact ⟨0, _, 0, [], false, by omega, rfl, rfl, rfl, rfl, rfl, HM0⟩
    case round =>
      clear HM0
      obtain ⟨k, B, d, M, p, hk, rfl, rfl, rfl, HPa, HMe, HM⟩ := hrel
      have hMl : M.length ≤ k + 1 := by rw [HMe.out]; exact Sp.insTo_len l x k
      by_cases hlt : k < l.length
      · have hki : (k : Int) < (l.length : Int) := by omega
        have hk0 : (0 : Int) ≤ (k : Int) := by omega
        obtain ⟨g, o, rfl, _, hc⟩ := (HM.out.keeps H.out).int_at k hlt
        have HIS := Lib.hid (Sp.insTo_succ l x k hlt)
        have HPS := Lib.hid (Sp.past_succ l x k hlt)
        have HCell : Hid (∀ w', Fresh w w' → w'.cell? ⟨g, o + k, none⟩ = some (.int .i64 (l.getD k 0))) := fun w' ht => by
          obtain ⟨g2, o2, e, _, h⟩ := (H.out.touch ht (fun _ _ h => h)).int_at k hlt
          injection e with e
          injection e with e1 e2
          subst e1 e2
          exact h
        generalize l.getD k 0 = y at *
        rw [← HPa.out, ← HMe.out] at HIS
        rw [← HPa.out] at HPS
        cases p
        · by_cases hxy : x < y
          · have HI2 : Hid (Sp.insTo l x (k + 1) = M ++ [x, y]) := by unfold Hid; rw [HIS.out]; simp [hxy]
            have HP2 : Hid (true = Sp.past l x (k + 1)) := by unfold Hid; rw [HPS.out]; simp [hxy]
            have hd : decide (x < y) = true := decide_eq_true hxy
            clear HIS HPS
            go_upto_region 10 with (at_builtin; refine app_int rfl rfl (l := M) (l2 := [x]) rfl rfl (HM.out.sl.alloc _) (Sl.rd (Sl.lit intE _ _ rfl _ _ rfl _ rfl (by decide))) (by simp; omega) ?_; intro B3 d3 M3 w3 hM3 hs3 ht3 hB3)
            have HN3 := Lib.hid ((HM.out.alloc (.cells #[.int .i64 x] 3)).app hs3 ht3 hB3)
            have hM3l : M3.length = M.length + 1 := by rw [hM3.out]; simp
            clear hs3 ht3 hB3 HM
            go_wp2_with (at_builtin; refine app_int rfl rfl (l := M3) (l2 := [y]) rfl rfl (HN3.out.sl.alloc _) (Sl.rd (Sl.lit intE _ _ rfl _ _ rfl _ rfl (by decide))) (by simp; omega) ?_; intro B4 d4 M4 w4 hM4 hs4 ht4 hB4)
            have HN4 := Lib.hid ((HN3.out.alloc (.cells #[.int .i64 y] 3)).app hs4 ht4 hB4)
            have HM4 : Hid (M4 = Sp.insTo l x (k + 1)) := by unfold Hid; rw [HI2.out, hM4.out, hM3.out]; simp
            clear hs4 ht4 hB4 HN3 hM3 hM4
            go_roundw
            case rel => exact ⟨k + 1, B4, d4, M4, true, by omega, by go_num, rfl, rfl, HP2, HM4, HN4⟩
            case measure => simp [intOf]; omega
          · have HI2 : Hid (Sp.insTo l x (k + 1) = M ++ [y]) := by unfold Hid; rw [HIS.out]; simp [hxy]
            have HP2 : Hid (false = Sp.past l x (k + 1)) := by unfold Hid; rw [HPS.out]; simp [hxy]
            have hd : decide (x < y) = false := decide_eq_false hxy
            clear HIS HPS
            go_wp2_with (at_builtin; refine app_int rfl rfl (l := M) (l2 := [y]) rfl rfl (HM.out.sl.alloc _) (Sl.rd (Sl.lit intE _ _ rfl _ _ rfl _ rfl (by decide))) (by simp; omega) ?_; intro B4 d4 M4 w4 hM4 hs4 ht4 hB4)
            have HN4 := Lib.hid ((HM.out.alloc (.cells #[.int .i64 y] 3)).app hs4 ht4 hB4)
            have HM4 : Hid (M4 = Sp.insTo l x (k + 1)) := by unfold Hid; rw [HI2.out, hM4.out]
            clear hs4 ht4 hB4 HM hM4
            go_roundw
            case rel => exact ⟨k + 1, B4, d4, M4, false, by omega, by go_num, rfl, rfl, HP2, HM4, HN4⟩
            case measure => simp [intOf]; omega
        · have HI2 : Hid (Sp.insTo l x (k + 1) = M ++ [y]) := by unfold Hid; rw [HIS.out]; simp
          have HP2 : Hid (true = Sp.past l x (k + 1)) := by unfold Hid; rw [HPS.out]; simp
          clear HIS HPS
          go_wp2_with (at_builtin; refine app_int rfl rfl (l := M) (l2 := [y]) rfl rfl (HM.out.sl.alloc _) (Sl.rd (Sl.lit intE _ _ rfl _ _ rfl _ rfl (by decide))) (by simp; omega) ?_; intro B4 d4 M4 w4 hM4 hs4 ht4 hB4)
          have HN4 := Lib.hid ((HM.out.alloc (.cells #[.int .i64 y] 3)).app hs4 ht4 hB4)
          have HM4 : Hid (M4 = Sp.insTo l x (k + 1)) := by unfold Hid; rw [HI2.out, hM4.out]
          clear hs4 ht4 hB4 HM hM4
          go_roundw
          case rel => exact ⟨k + 1, B4, d4, M4, true, by omega, by go_num, rfl, rfl, HP2, HM4, HN4⟩
          case measure => simp [intOf]; omega
      · have hki : ¬ (k : Int) < (l.length : Int) := by omega
        have hkk : k = l.length := by omega
        have HPe : Hid (Sp.put l x = if p = true then M else M ++ [x]) := by unfold Hid; rw [HP.out, HPa.out, HMe.out, hkk]
        clear hkk
        cases p
        · have HP2 : Hid (Sp.put l x = M ++ [x]) := HPe.out
          go_wp2_with (at_builtin; refine app_int rfl rfl (l := M) (l2 := [x]) rfl rfl (HM.out.sl.alloc _) (Sl.rd (Sl.lit intE _ _ rfl _ _ rfl _ rfl (by decide))) (by simp; omega) ?_; intro B4 d4 M4 w4 hM4 hs4 ht4 hB4)
          have HN4 := Lib.hid ((HM.out.alloc (.cells #[.int .i64 x] 3)).app hs4 ht4 hB4)
          have HM4 : Hid (M4 = Sp.put l x) := by unfold Hid; rw [HP2.out, hM4.out]
          clear hs4 ht4 hB4 HM hM4
          go_ret
          exact ⟨B4, d4, by rw [← HM4.out]; rfl, by rw [← HM4.out]; exact HN4.out.sl, HN4.out.fresh, .inr HN4.out.base⟩
        · have HP2 : Hid (Sp.put l x = M) := HPe.out
          go_wp2
          go_ret
          exact ⟨B, d, by rw [HP2.out]; rfl, by rw [HP2.out]; exact HM.out.sl, HM.out.fresh, .inr HM.out.base⟩
end Go.Proofs.Ytlfapnapkdnldaa

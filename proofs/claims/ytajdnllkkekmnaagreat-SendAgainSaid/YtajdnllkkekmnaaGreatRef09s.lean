/-
  polliwogref09: Set.
-/
import Derived.Test.YtajdnllkkekmnaaGreatGapS
import Derived.Test.YtajdnllkkekmnaaGreatR01
namespace Go.Proofs.YtajdnllkkekmnaaGreat
open Go.RowKit

def RSetPost (b t : Int) (l : List Int) (w : World) (e : Ending) (w' : World) : Prop :=
  (Gp.okSet b t l = true → ∃ C g, e = .returned (.tuple #[.slice C (Sp.nums (Gp.prs (Gp.ats b l))).length g, .bool true]) ∧ Mine intE w w' C g (Sp.nums (Gp.prs (Gp.ats b l)))) ∧
  (Gp.okSet b t l = false → e = .returned (.tuple #[.slice none 0 0, .bool false]) ∧ Fresh w w')

set_option maxHeartbeats 4000000 in
set_option maxRecDepth 4000 in
theorem rset_any (b t : Int) (A : Option Addr) (c : Nat) (l : List Int) (w : World) (h : Rd intE w A c l) (hl : l.length ≤ 1000000) :
    Calls Tryz.prog 50 #[.int .i64 b, .int .i64 t, .slice A l.length c] w (RSetPost b t l w) := by
  have H := Lib.hid h
  clear h
  obtain ⟨E, hE⟩ : ∃ E, E = (t - b) % 16777216 := ⟨_, rfl⟩
  have hEb : 0 ≤ E ∧ E < 16777216 := by omega
  have HOK : Hid (Gp.okSet b t l = (decide (l.length % 2 = 0) && decide (E ≤ 8388608) && Gp.up E (-1) (Gp.ats b l))) := by unfold Hid Gp.okSet; rw [hE]
  have HE := Lib.hid hE
  clear hE
  go_enter Tryz.func50, Tryz.ntmps50
  go_wp2_with fail
  refine (r01to_any b t w).mono ?_
  rintro e w1 ⟨rfl, rfl⟩
  rw [← HE.out]
  clear HE
  have HM0 := Lib.hid (Mine.lit intE w1 #[] [] rfl 0 rfl (by decide))
  simp only
  by_cases hodd : l.length % 2 = 0
  · have hm0 : (l.length : Int).tmod 2 = 0 := by rw [Int.tmod_eq_emod_of_nonneg (by omega)]; omega
    by_cases hE8 : E ≤ 8388608
    · have hd8 : decide (8388608 < E) = false := decide_eq_false (by omega)
      go_wp2_with fail
      go_loopw [9, 10, 29] (fun s9 s10 i wr => ∃ (k : Nat) (C : Option Addr) (g : Nat) (M : List Int) (z : Int), k ≤ l.length ∧ i = .int .i64 k ∧ s10 = .int .i64 z ∧ s9 = .slice C M.length g ∧ Hid (z = Gp.lst (Gp.ats b (l.take k))) ∧ Hid (M = Sp.nums (Gp.prs (Gp.ats b (l.take k)))) ∧ Hid (Gp.up E (-1) (Gp.ats b (l.take k)) = true) ∧ Hid (Mine intE w1 wr C g M) ∧ Hid ((M.length : Int) ≤ z + 1) ∧ -1 ≤ z ∧ z ≤ 8388608) (fun _ _ i _ => l.length - (intOf i).toNat)
      case atStart => exact ⟨0, _, 0, [], -1, by omega, rfl, rfl, rfl, rfl, rfl, rfl, HM0, by simp [Hid], by omega, by omega⟩
      case round =>
        clear HM0
        obtain ⟨k, C, g, M, z, hkl, rfl, rfl, rfl, HZ, HMe, HUp, HM, HMl, hz1, hz2⟩ := hrel
        by_cases hk : k < l.length
        · have hk1 : (k : Int) < (l.length : Int) := by omega
          have hdk1 : decide ((k : Int) < (l.length : Int)) = true := decide_eq_true hk1
          have hk0 : (0 : Int) ≤ (k : Int) := by omega
          obtain ⟨ga, oa, rfl, _, c0⟩ := (HM.out.keepsR H.out).int_at k hk
          have HS := Lib.hid (Gp.ats_succ b l k hk)
          have HL := Lib.hid (Gp.ats_len b l k hkl)
          have hMb : M.length ≤ 8388610 := by have := HMl.out; omega
          generalize l.getD k 0 = x at *
          go_wp2_with fail
          refine (r01to_any b x wr).mono ?_
          rintro e w2 ⟨rfl, rfl⟩
          have hab : 0 ≤ (x - b) % 16777216 ∧ (x - b) % 16777216 < 16777216 := by omega
          generalize (x - b) % 16777216 = a at *
          have HU2 : Hid (Gp.up E (-1) (Gp.ats b (l.take (k + 1))) = (decide (z < a) && decide (a ≤ E))) := by
            unfold Hid
            rw [HS.out, Gp.up_snoc, HUp.out, ← HZ.out, Bool.true_and]
          simp only
          by_cases hza : z < a
          · have hd1 : decide (a ≤ z) = false := decide_eq_false (by omega)
            by_cases haE : a ≤ E
            · have hd2 : decide (E < a) = false := decide_eq_false (by omega)
              have ha8 : a ≤ 8388608 := by omega
              have HU3 : Hid (Gp.up E (-1) (Gp.ats b (l.take (k + 1))) = true) := by unfold Hid; rw [HU2.out, decide_eq_true hza, decide_eq_true haE]; rfl
              have HZ3 : Hid (a = Gp.lst (Gp.ats b (l.take (k + 1)))) := by unfold Hid; rw [HS.out, Gp.lst_snoc]
              have HML3 : Hid ((M.length : Int) ≤ a + 1) := by have := HMl.out; unfold Hid; omega
              by_cases hpar : k % 2 = 1
              · have hm1 : (k : Int).tmod 2 = 1 := by rw [Int.tmod_eq_emod_of_nonneg (by omega)]; omega
                have HM3 : Hid (M ++ Sp.run (z, a) = Sp.nums (Gp.prs (Gp.ats b (l.take (k + 1))))) := by unfold Hid; rw [HS.out, Gp.prs_snoc, HL.out, if_pos hpar, Sp.nums_append, Sp.nums_one, ← HMe.out, ← HZ.out]
                have HMLl := Lib.hid HMl.out
                clear HS HL HMe HZ HUp HU2 hpar c0 HMl
                obtain ⟨wb, hwb⟩ : ∃ wb, wb = w2 := ⟨_, rfl⟩
                go_wp2_with fail
                go_loopw [9, 14] (fun s9 n wx => ∃ (j : Int) (C2 : Option Addr) (g2 : Nat) (L : List Int), z ≤ j ∧ j ≤ a ∧ n = .int .i64 j ∧ s9 = .slice C2 L.length g2 ∧ Hid (L = M ++ Sp.run (z, j)) ∧ Hid (Mine intE w1 wx C2 g2 L)) (fun _ n _ => (a - intOf n).toNat)
                case atStart => exact ⟨z, C, g, M, by omega, by omega, rfl, rfl, by unfold Hid; rw [Sp.run_nil, List.append_nil], HM⟩
                case round =>
                  clear HM
                  obtain ⟨j, C2, g2, L, hzj, hja, rfl, rfl, HLe, HM2⟩ := hrel
                  have HLl : Hid (L.length = M.length + (j - z).toNat) := by unfold Hid; rw [HLe.out, List.length_append, Sp.run_len]
                  have hLb : L.length + 1 ≤ 17592186044416 := by have := HLl.out; omega
                  by_cases hj : j < a
                  · have hdj : decide (j < a) = true := decide_eq_true hj
                    have HL3 : Hid (L ++ [j] = M ++ Sp.run (z, j + 1)) := by unfold Hid; rw [HLe.out, Sp.run_succ z j hzj, List.append_assoc]
                    clear HLe HLl
                    go_wp2_with (at_builtin; refine app_int rfl rfl (l := L) (l2 := [j]) rfl rfl (HM2.out.sl.alloc _) (Sl.rd (Sl.lit intE _ _ rfl _ _ rfl _ rfl (by decide))) (by simp; omega) ?_; intro B4 d4 M4 w4 hM4 hs4 ht4 hB4)
                    have HM5 := Lib.hid ((HM2.out.alloc (.cells #[.int .i64 j] 3)).app hs4 ht4 hB4)
                    rw [← hM4.out] at HL3
                    clear hs4 ht4 hB4 hM4 HM2
                    go_roundw
                    case rel => exact ⟨j + 1, B4, d4, M4, by omega, by omega, rfl, rfl, HL3, HM5⟩
                    case measure => simp [intOf]; omega
                  · have hjj : j = a := by omega
                    have hdj : decide (j < a) = false := decide_eq_false hj
                    have HL3 : Hid (L = Sp.nums (Gp.prs (Gp.ats b (l.take (k + 1))))) := by unfold Hid; rw [← HM3.out, HLe.out, hjj]
                    have HLa : Hid ((L.length : Int) ≤ a + 1) := by have := HLl.out; have := HMLl.out; unfold Hid; omega
                    clear HLe HLl hj hjj HM3
                    go_wp2
                    go_roundw
                    case rel => exact ⟨k + 1, C2, g2, L, a, by omega, by go_num, rfl, rfl, HZ3, HL3, HU3, HM2, HLa, by omega, ha8⟩
                    case measure => simp [intOf]; omega
              · have hm1 : (k : Int).tmod 2 = 0 := by rw [Int.tmod_eq_emod_of_nonneg (by omega)]; omega
                have HM3 : Hid (M = Sp.nums (Gp.prs (Gp.ats b (l.take (k + 1))))) := by unfold Hid; rw [HS.out, Gp.prs_snoc, HL.out, if_neg hpar, ← HMe.out]
                clear HS HL HMe HZ HUp HU2 hpar c0 HMl
                go_wp2_with fail
                go_loopw [9, 14] (fun s9 n wx => s9 = .slice C M.length g ∧ n = .int .i64 z ∧ Hid (Mine intE w1 wx C g M)) (fun _ n _ => 0)
                case atStart => exact ⟨rfl, rfl, HM⟩
                case round =>
                  clear HM
                  obtain ⟨rfl, rfl, HM⟩ := hrel
                  go_wp2
                  go_roundw
                  case rel => exact ⟨k + 1, C, g, M, a, by omega, by go_num, rfl, rfl, HZ3, HM3, HU3, HM, HML3, by omega, ha8⟩
                  case measure => simp [intOf]; omega
            · have hd2 : decide (E < a) = true := decide_eq_true (by omega)
              have HF : Hid (Gp.okSet b t l = false) := by
                obtain ⟨R, hR⟩ := Gp.ats_take b l (k + 1)
                unfold Hid
                rw [HOK.out, hR, Gp.up_append, HU2.out, decide_eq_false haE]
                simp
              have HFr := Lib.hid HM.out.fresh
              clear HS HL HMe HZ HUp HU2 HMl c0 HM
              go_wp2
              go_ret2
              exact ⟨fun h => absurd (HF.out.symm.trans h) (by decide), fun _ => ⟨rfl, HFr.out⟩⟩
          · have hd1 : decide (a ≤ z) = true := decide_eq_true (by omega)
            have HF : Hid (Gp.okSet b t l = false) := by
              obtain ⟨R, hR⟩ := Gp.ats_take b l (k + 1)
              unfold Hid
              rw [HOK.out, hR, Gp.up_append, HU2.out, decide_eq_false hza]
              simp
            have HFr := Lib.hid HM.out.fresh
            clear HS HL HMe HZ HUp HU2 HMl c0 HM
            go_wp2
            go_ret2
            exact ⟨fun h => absurd (HF.out.symm.trans h) (by decide), fun _ => ⟨rfl, HFr.out⟩⟩
        · have hkk : k = l.length := by omega
          have hk' : ¬ ((k : Int) < (l.length : Int)) := by omega
          have HME : Hid (M = Sp.nums (Gp.prs (Gp.ats b l))) := by unfold Hid; rw [HMe.out, hkk, List.take_length]
          have HT : Hid (Gp.okSet b t l = true) := by
            unfold Hid
            have hu := HUp.out
            rw [hkk, List.take_length] at hu
            rw [HOK.out, hu, decide_eq_true hodd, decide_eq_true hE8]
            rfl
          clear hk HMe HZ HUp hkk HMl
          go_wp2
          go_ret2
          exact ⟨fun _ => ⟨C, g, by rw [← HME.out]; rfl, HME.out ▸ HM.out⟩, fun h => absurd (HT.out.symm.trans h) (by decide)⟩
    · have hd8 : decide (8388608 < E) = true := decide_eq_true (by omega)
      have HF : Hid (Gp.okSet b t l = false) := by unfold Hid; rw [HOK.out, decide_eq_false hE8]; simp
      clear hE8
      go_wp2
      go_ret2
      exact ⟨fun h => absurd (HF.out.symm.trans h) (by decide), fun _ => ⟨rfl, Touch.refl _ _⟩⟩
  · have hm0 : (l.length : Int).tmod 2 = 1 := by rw [Int.tmod_eq_emod_of_nonneg (by omega)]; omega
    have HF : Hid (Gp.okSet b t l = false) := by unfold Hid; rw [HOK.out, decide_eq_false hodd]; simp
    clear hodd
    go_wp2
    go_ret2
    exact ⟨fun h => absurd (HF.out.symm.trans h) (by decide), fun _ => ⟨rfl, Touch.refl _ _⟩⟩
end Go.Proofs.YtajdnllkkekmnaaGreat

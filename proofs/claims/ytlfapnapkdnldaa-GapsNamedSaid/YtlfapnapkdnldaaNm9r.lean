/-
  ref09.Named: the document's numbers that pairs name.
-/
import Derived.Test.YtlfapnapkdnldaaNm9
namespace Go.Proofs.Ytlfapnapkdnldaa
open Go.RowKit

namespace Gp
theorem mem_take_succ (L : List Int) (x : Int) (t : Nat) (ht : t < L.length) : decide (x ∈ L.take (t + 1)) = (decide (x ∈ L.take t) || (x == L.getD t 0)) := by
  rw [List.take_succ_eq_append_getElem ht]
  have e : L.getD t 0 = L[t] := by simp [List.getD, List.getElem?_eq_getElem ht]
  rw [e]
  have h : decide (x ∈ L.take t ++ [L[t]]) = (decide (x ∈ L.take t) || decide (x = L[t])) := by
    by_cases h1 : x ∈ L.take t
    · rw [decide_eq_true (List.mem_append.2 (.inl h1)), decide_eq_true h1]; rfl
    · by_cases h2 : x = L[t]
      · rw [decide_eq_true (List.mem_append.2 (.inr (List.mem_singleton.2 h2))), decide_eq_true h2, Bool.or_true]
      · rw [decide_eq_false h1, decide_eq_false h2, decide_eq_false]
        · rfl
        · intro hm
          rcases List.mem_append.1 hm with hm | hm
          · exact h1 hm
          · exact h2 (List.mem_singleton.1 hm)
  rw [h]
  congr 1
end Gp

set_option maxHeartbeats 8000000 in
set_option maxRecDepth 4000 in
theorem rnm_any (A : Option Addr) (c : Nat) (l : List Int) (mo : Nat) (w : World) (h : Rd intE w A c l) (hl : l.length ≤ 1000000) (hmo : mo ≤ 65536) :
    Calls Try.prog 35 #[.slice A l.length c, .int .i64 mo] w fun e w' => ∃ C d, e = .returned (.slice C (Gp.nm mo l (l.length / 2)).length d) ∧ Mine intE w w' C d (Gp.nm mo l (l.length / 2)) := by
  have H := Lib.hid h
  have HNL := Lib.hid (fun k => (Gp.nm_len mo l k).1)
  have HM0 := Lib.hid (Mine.lit intE w #[] [] rfl 0 rfl (by decide))
  clear h
  go_enter Try.func35, Try.ntmps35
  go_wp2_with fail
  go_loopw [5, 6] (fun s5 i wr => ∃ (k : Nat) (C : Option Addr) (d : Nat) (M : List Int), 2 * k ≤ l.length ∧ i = .int .i64 (2 * (k : Int)) ∧ s5 = .slice C M.length d ∧ Hid (M = Gp.nm mo l k) ∧ Hid (Mine intE w wr C d M)) (fun _ i _ => (l.length - intOf i).toNat)
  case atStart => exact ⟨0, _, 0, [], by omega, by go_num, rfl, rfl, HM0⟩
  case round =>
    clear HM0
    obtain ⟨k, C, d, M, hkl, rfl, rfl, HMe, HM⟩ := hrel
    by_cases hk : 2 * k + 1 < l.length
    · have hk1 : 2 * (k : Int) + 1 < (l.length : Int) := by omega
      have hdk : decide (2 * (k : Int) + 1 < (l.length : Int)) = true := decide_eq_true hk1
      have hk2 : 2 * (k : Int) < (l.length : Int) := by omega
      have hk0 : (0 : Int) ≤ 2 * (k : Int) := by omega
      have hk3 : (0 : Int) ≤ 2 * (k : Int) + 1 := by omega
      have ht1 : (2 * (k : Int)).toNat = 2 * k := by omega
      have ht2 : (2 * (k : Int) + 1).toNat = 2 * k + 1 := by omega
      have HR := Lib.hid (HM.out.keepsR H.out)
      obtain ⟨ga, oa, rfl, _, c0⟩ := HR.out.int_at (2 * k) (by omega)
      obtain ⟨gb, ob, e2, _, c1⟩ := HR.out.int_at (2 * k + 1) (by omega)
      cases e2
      have HN : Hid (Gp.nm mo l (k + 1) = Gp.nmPair mo M (l.getD (2 * k) 0) (l.getD (2 * k + 1) 0)) := by unfold Hid; rw [HMe.out]; rfl
      have hMl : M.length ≤ mo := by rw [HMe.out]; exact HNL.out k
      have HC0 : Hid (∀ W, Fresh w W → W.cell? ⟨ga, oa + 2 * k, none⟩ = some (.int .i64 (l.getD (2 * k) 0))) := fun W hf => by
        obtain ⟨g', o', e', _, c'⟩ := (H.out.touch hf (fun _ _ _ h => h)).int_at (2 * k) (by omega)
        cases e'
        exact c'
      generalize l.getD (2 * k) 0 = a at *
      generalize l.getD (2 * k + 1) 0 = b2 at *
      clear HR HMe
      go_upto_region 5 with (fail)
      go_quiet ((go_at_call 36; refine Calls.quiet_of_same (r01to_any _ _ _)))
      have HM2 := Lib.hid (HM.out.drewN nq)
      clear c0 c1 HM
      generalize wr.drewN nq = w2 at *
      have hn0 : 0 ≤ (b2 - a) % 16777216 := by omega
      have HNP : Hid (Gp.nmPair mo M a b2 = if (b2 - a) % 16777216 ≤ 8388608 then Gp.nmRow mo (a % 16777216) M ((b2 - a) % 16777216).toNat else M) := rfl
      obtain ⟨n, hn⟩ : ∃ n : Nat, (b2 - a) % 16777216 = (n : Int) := ⟨((b2 - a) % 16777216).toNat, by omega⟩
      rw [hn, Int.toNat_natCast] at HNP
      rw [hn]
      clear hn hn0
      by_cases hn8 : n ≤ 8388608
      · have hn8i : (n : Int) ≤ 8388608 := by omega
        have hd8 : decide ((8388608 : Int) < (n : Int)) = false := decide_eq_false (by omega)
        rw [if_pos hn8i] at HNP
        have HSTP := Lib.hid (fun j => Gp.nmRow_stop mo (a % 16777216) M j)
        have HLEN := Lib.hid (fun j => (Gp.nmRow_len mo (a % 16777216) M j).2.2 hMl)
        have HSUC : Hid (∀ j : Nat, Gp.nmRow mo (a % 16777216) M (j + 1) = Gp.nmAdd mo (Gp.nmRow mo (a % 16777216) M j) ((a % 16777216 + (j : Int)) % 16777216)) := fun j => rfl
        go_wp2_with fail
        obtain ⟨wb, hwb⟩ : ∃ wb, wb = w2 := ⟨_, rfl⟩
        subst hwb
        go_loopw [5, 8] (fun s5 q wr => ∃ (j : Nat) (C : Option Addr) (d : Nat) (Mj : List Int), j ≤ n ∧ q = .int .i64 j ∧ s5 = .slice C Mj.length d ∧ Hid (Mj = Gp.nmRow mo (a % 16777216) M j) ∧ Mj.length ≤ mo ∧ Hid (Mine intE w wr C d Mj)) (fun _ q _ => n - (intOf q).toNat)
        case atStart => exact ⟨0, C, d, M, by omega, rfl, rfl, rfl, hMl, HM2⟩
        case round =>
          clear HM2
          obtain ⟨j, Cj, dj, Mj, hjn, rfl, rfl, HMj, hMjl, HM⟩ := hrel
          have hcont : (j < n ∧ Mj.length < mo) ∨ ¬ (j < n ∧ Mj.length < mo) := Decidable.em _
          rcases hcont with ⟨hj, hjm⟩ | hstop
          · have hj1 : (j : Int) < (n : Int) := by omega
            have hdj1 : decide ((j : Int) < (n : Int)) = true := decide_eq_true hj1
            have hj2 : (Mj.length : Int) < (mo : Int) := by omega
            have hdj2 : decide ((Mj.length : Int) < (mo : Int)) = true := decide_eq_true hj2
            have c0 := HC0.out _ HM.out.fresh
            have HS : Hid (Gp.nmRow mo (a % 16777216) M (j + 1) = Gp.nmAdd mo Mj ((a % 16777216 + (j : Int)) % 16777216)) := by unfold Hid; rw [HSUC.out, ← HMj.out]
            have HX := Lib.hid (r01of_any (a % 16777216 + (j : Int)))
            generalize (a % 16777216 + (j : Int)) % 16777216 = x at *
            go_wp2_with fail
            refine (r01of_any a wr).mono ?_
            rintro e w4 ⟨rfl, rfl⟩
            have hab2 : 0 ≤ a % 16777216 ∧ a % 16777216 < 16777216 := by omega
            generalize ha1 : a % 16777216 = a1 at *
            have HA1 := Lib.hid ha1
            clear ha1
            simp only
            go_wp2_with fail
            refine (HX.out _).mono ?_
            rintro e w5 ⟨rfl, rfl⟩
            clear HX c0
            simp only
            go_wp2_with fail
            obtain ⟨wc, hwc⟩ : ∃ wc, wc = w5 := ⟨_, rfl⟩
            subst hwc
            go_loopw [10, 54] (fun s10 q wr => ∃ t : Nat, t ≤ Mj.length ∧ q = .int .i64 t ∧ s10 = .bool (decide (x ∈ Mj.take t)) ∧ wr = wc) (fun _ q _ => Mj.length - (intOf q).toNat)
            case atStart => exact ⟨0, by omega, rfl, by simp, rfl⟩
            case round =>
              obtain ⟨t, ht, rfl, rfl, rfl⟩ := hrel
              by_cases htl : t < Mj.length
              · have ht1' : (t : Int) < (Mj.length : Int) := by omega
                have ht0 : (0 : Int) ≤ (t : Int) := by omega
                obtain ⟨g, o, rfl, _, c3⟩ := HM.out.sl.int_at t htl
                have HT := Lib.hid (Gp.mem_take_succ Mj x t htl)
                generalize Mj.getD t 0 = y at *
                generalize decide (x ∈ Mj.take t) = hv at *
                obtain ⟨xy, hxy⟩ : ∃ xy : Bool, (x == y) = xy := ⟨_, rfl⟩
                rw [hxy] at HT
                cases hv
                · go_wp2
                  go_roundw
                  case rel => exact ⟨t + 1, by omega, by go_num, by rw [HT.out]; first | rfl | simp [hxy], by first | rfl | trivial⟩
                  case measure => simp [intOf]; omega
                · go_wp2
                  go_roundw
                  case rel => exact ⟨t + 1, by omega, by go_num, by rw [HT.out]; first | rfl | simp, by first | rfl | trivial⟩
                  case measure => simp [intOf]; omega
              · have htt : t = Mj.length := by omega
                have ht1' : ¬ (t : Int) < (Mj.length : Int) := by omega
                rw [htt, List.take_length]
                rw [htt] at ht1'
                clear htl ht htt
                by_cases hx : x ∈ Mj
                · rw [decide_eq_true hx]
                  have HE : Hid (Mj = Gp.nmRow mo (a % 16777216) M (j + 1)) := by unfold Hid; rw [HA1.out, HS.out, Gp.nmAdd_in hx]
                  clear hx HS HMj
                  go_wp2
                  go_roundw
                  case rel => exact ⟨j + 1, Cj, dj, Mj, by omega, by go_num, rfl, HE, hMjl, HM⟩
                  case measure => simp [intOf]; omega
                · rw [decide_eq_false hx]
                  have HE : Hid (Mj ++ [x] = Gp.nmRow mo (a % 16777216) M (j + 1)) := by unfold Hid; rw [HA1.out, HS.out, Gp.nmAdd_new hjm hx]
                  clear hx HS HMj
                  go_wp2_with (at_builtin; refine app_int rfl rfl (l := Mj) (l2 := [x]) rfl rfl (HM.out.sl.alloc _) (Sl.rd (Sl.lit intE _ _ rfl _ _ rfl _ rfl (by decide))) (by simp; omega) ?_; intro C4 d4 M4 w4 hM4 hs4 ht4 hB4)
                  have HM5 := Lib.hid ((HM.out.alloc (.cells #[.int .i64 x] 3)).app hs4 ht4 hB4)
                  have hl4 : M4.length ≤ mo := by rw [hM4.out]; simp; omega
                  rw [← hM4.out] at HE
                  clear hs4 ht4 hB4 hM4 HM
                  go_roundw
                  case rel => exact ⟨j + 1, C4, d4, M4, by omega, by go_num, rfl, HE, hl4, HM5⟩
                  case measure => simp [intOf]; omega
          · have HE : Hid (Mj = Gp.nm mo l (k + 1)) := by
              unfold Hid
              rw [HN.out, HNP.out]
              rcases (show j = n ∨ (j < n ∧ mo ≤ Mj.length) by omega) with rfl | ⟨h1, h2⟩
              · exact HMj.out
              · rw [HSTP.out j (by rw [← HMj.out]; exact h2) n (by omega)]
                exact HMj.out
            have hdd : ((¬ (j : Int) < (n : Int)) ∨ ((j : Int) < (n : Int) ∧ ¬ (Mj.length : Int) < (mo : Int))) := by omega
            clear HN HNP HSTP HLEN HSUC HMj hstop HC0
            rcases hdd with hj1 | ⟨hj1, hj2⟩
            · have hdj1 : decide ((j : Int) < (n : Int)) = false := decide_eq_false hj1
              go_wp2
              go_roundw
              case rel => exact ⟨k + 1, Cj, dj, Mj, by omega, by first | go_num | (congr 1; omega), rfl, HE, HM⟩
              case measure => simp [intOf]; omega
            · have hdj1 : decide ((j : Int) < (n : Int)) = true := decide_eq_true hj1
              have hdj2 : decide ((Mj.length : Int) < (mo : Int)) = false := decide_eq_false hj2
              go_wp2
              go_roundw
              case rel => exact ⟨k + 1, Cj, dj, Mj, by omega, by first | go_num | (congr 1; omega), rfl, HE, HM⟩
              case measure => simp [intOf]; omega
      · have hn8i : ¬ (n : Int) ≤ 8388608 := by omega
        have hd8 : decide ((8388608 : Int) < (n : Int)) = true := decide_eq_true (by omega)
        rw [if_neg hn8i] at HNP
        have HE : Hid (M = Gp.nm mo l (k + 1)) := by unfold Hid; rw [HN.out, HNP.out]
        clear HN HNP HC0
        go_wp2
        go_roundw
        case rel => exact ⟨k + 1, C, d, M, by omega, by first | go_num | (congr 1; omega), rfl, HE, HM2⟩
        case measure => simp [intOf]; omega
    · have hkk : k = l.length / 2 := by omega
      have hk1 : ¬ 2 * (k : Int) + 1 < (l.length : Int) := by omega
      have hdk : decide (2 * (k : Int) + 1 < (l.length : Int)) = false := decide_eq_false hk1
      have HE : Hid (M = Gp.nm mo l (l.length / 2)) := by rw [← hkk]; exact HMe
      clear hk HMe hkk
      go_wp2
      go_ret
      exact ⟨C, d, by rw [← HE.out]; rfl, by rw [← HE.out]; exact HM.out⟩
end Go.Proofs.Ytlfapnapkdnldaa

/-
  GapsSets: of any numbers there is the set whose pairs they are, or they are none.
-/
import Derived.Test.YtlfapnapkdnldaaGapP2
import Derived.Test.YtlfapnapkdnldaaRef09s
import Derived.Test.YtlfapnapkdnldaaSame
import Derived.Deep.CutBlock
namespace Go.Proofs.Ytlfapnapkdnldaa
open Go.RowKit Go.ChangeShapes Go.WideShapes Go.ChangeAt

namespace Gp
def own (b x : Int) : Int := if -300 ≤ x ∧ x ≤ 300 then (b + x) % 16777216 else (b + 4 * (x % 64)) % 16777216
theorem own_bd (b x : Int) : 0 ≤ own b x ∧ own b x < 16777216 := by unfold own; split <;> omega
theorem own_at (b x : Int) : (own b x - b) % 16777216 ≤ 300 ∨ 8388608 < (own b x - b) % 16777216 := by unfold own; split <;> omega
theorem and_63 (a : Int) : bits .and .i64 a 63 = a % 64 := and_mask a 6 63 rfl (by omega)
/-- A right list of own numbers: the set is its pairs, near the base. -/
theorem own_ok {b t : Int} {L : List Int} {S : List (Int × Int)} (hk : okSet b t (L.map (own b)) = true) (h : Sp.IsOf (prs (ats b (L.map (own b)))) S) :
    S = prs (ats b (L.map (own b))) ∧ (Sp.nums S).length ≤ 65536 ∧ S.length ≤ 1000000 ∧ gl b S = L.map (own b) ∧ ∀ x ∈ S, 0 ≤ x.1 ∧ x.2 ≤ 8388608 := by
  unfold okSet at hk
  simp only [Bool.and_eq_true, decide_eq_true_eq] at hk
  obtain ⟨⟨h1, h2⟩, h3⟩ := hk
  have e := isOf_prs h2 h3 h
  have hg := h.good
  have hb : ∀ x ∈ S, 0 ≤ x.1 ∧ x.2 ≤ 300 := fun x hx => by
    rw [e] at hx
    obtain ⟨m1, m2⟩ := prs_mem _ x hx
    have b1 := up_mem_le _ _ _ h3 _ m1
    have b2 := up_mem_le _ _ _ h3 _ m2
    obtain ⟨v, hv, hv2⟩ := List.mem_map.1 m2
    obtain ⟨y, _, rfl⟩ := List.mem_map.1 hv
    have := own_at b y
    omega
  have hm : ∀ n, Sp.mem S n → 0 ≤ n ∧ n < 300 := fun n ⟨x, hx, hn⟩ => by
    have := hb x hx
    omega
  refine ⟨e, ?_, ?_, ?_, fun x hx => by have := hb x hx; omega⟩
  · have := Sp.rising_len (Sp.nums_rising S hg.1) 0 300 (by omega) fun n hn => hm n ((Sp.mem_nums S n).1 hn)
    omega
  · have := Sp.Canon.len_le hg.1 0 300 (by omega) hm
    omega
  · rw [e]
    exact gl_prs b _ (fun v hv => by obtain ⟨y, _, rfl⟩ := List.mem_map.1 hv; exact own_bd b y) h1
theorem half_all {S T : List (Int × Int)} (h : Half S T) (hg : Sp.Good S) (hb : ∀ x ∈ S, 0 ≤ x.1 ∧ x.2 ≤ 8388608) : T = S := by
  refine Sp.Canon.uniq h.1.1 hg.1 fun n => ?_
  rw [h.2]
  constructor
  · exact fun h => h.1
  · rintro ⟨x, hx, hn⟩
    have := hb x hx
    exact ⟨⟨x, hx, hn⟩, by omega, by omega⟩
end Gp

set_option maxHeartbeats 8000000 in
set_option maxRecDepth 4000 in
theorem gapsSets.core (base top : Int) (A : Option Addr) (c : Nat) (l : List Int) (w : World) (h : Rd intE w A c l) :
    Calls Try.prog 13 #[.int .i64 base, .int .i64 top, .slice A l.length c] w fun e w' => e = .returned (.bool true) ∧ Below w.heap.size w w' := by
  have hlc := h.1
  have hcm := h.2.1
  unfold maxLen at hcm
  have H := Lib.hid h
  clear h
  go_enter Try.func13, Try.ntmps13
  go_wp2_with fail
  refine (awake09 w).mono ?_
  rintro e w1 ⟨rfl, f1⟩
  have FW : Hid (Fresh w w1) := f1
  replace H := Lib.hid (H.out.touch f1 (fun _ _ _ h => h))
  clear f1
  simp only
  go_upto_if 20 with (fail)
  go_cut [2] (fun s2 wx => ∃ L : List Int, s2 = .slice A L.length c ∧ L.length ≤ 20 ∧ Hid (Rd intE w1 A c L) ∧ wx = w1)
  case first =>
    by_cases h20 : 20 < l.length
    · have h20i : (20 : Int) < (l.length : Int) := by omega
      have RT : Hid (Rd intE w1 A c (l.take 20)) := H.out.upto (by omega)
      have hLl : (l.take 20).length = 20 := by rw [List.length_take]; omega
      obtain ⟨g, o, rfl, _, _⟩ := H.out.int_at 0 (by omega)
      have hc20 : (20 : Int) ≤ (c : Int) := by omega
      clear h20
      go_wp2
      go_meet
      case rel => exact ⟨l.take 20, by rw [hLl], by omega, RT, rfl⟩
    · have h20i : ¬ (20 : Int) < (l.length : Int) := by omega
      have h20n : l.length ≤ 20 := by omega
      clear h20
      go_wp2
      go_meet
      case rel => exact ⟨l, rfl, h20n, H, rfl⟩
  case rest =>
    obtain ⟨L, rfl, hL20, HL, rfl⟩ := hcut
    clear H hlc
    go_wp2_with fail
    refine (sof_any base _).mono ?_
    rintro e w2 ⟨rfl, rfl⟩
    have hbb : 0 ≤ base % 16777216 ∧ base % 16777216 < 16777216 := by omega
    generalize base % 16777216 = b at *
    simp only
    go_wp2_with fail
    refine (sof_any top _).mono ?_
    rintro e w3 ⟨rfl, rfl⟩
    have htb : 0 ≤ top % 16777216 ∧ top % 16777216 < 16777216 := by omega
    generalize top % 16777216 = t at *
    simp only
    go_wp2_with fail
    go_loopw [9, 29] (fun s9 i wr => ∃ (k : Nat) (D : Option Addr) (e : Nat) (M : List Int), k ≤ L.length ∧ i = .int .i64 k ∧ s9 = .slice D M.length e ∧ Hid (M = (L.take k).map (Gp.own b)) ∧ Hid (Mine intE w3 wr D e M) ∧ M.length ≤ k) (fun _ i _ => L.length - (intOf i).toNat)
    case atStart => exact ⟨0, none, 0, [], by omega, rfl, rfl, rfl, Mine.nil _ _, by simp⟩
    case round =>
      obtain ⟨k, D, e, M, hkL, rfl, rfl, HMe, HM, hMl⟩ := hrel
      by_cases hk : k < L.length
      · have hk1 : (k : Int) < (L.length : Int) := by omega
        have hdk1 : decide ((k : Int) < (L.length : Int)) = true := decide_eq_true hk1
        have hk0 : (0 : Int) ≤ (k : Int) := by omega
        obtain ⟨g, o, rfl, _, c0⟩ := (HM.out.keepsR HL.out).int_at k hk
        have HS : Hid ((L.take (k + 1)).map (Gp.own b) = M ++ [Gp.own b (L.getD k 0)]) := by unfold Hid; rw [Sp.itake_succ L k hk, List.map_append, ← HMe.out]; rfl
        generalize L.getD k 0 = x at *
        by_cases hx : -300 ≤ x ∧ x ≤ 300
        · have hx1 : -300 ≤ x := hx.1
          have hx2 : x ≤ 300 := hx.2
          have hdx1 : decide (-300 ≤ x) = true := decide_eq_true hx1
          have hdx2 : decide (x ≤ 300) = true := decide_eq_true hx2
          have hbx : -4611686018427387904 ≤ b + x ∧ b + x < 4611686018427387904 := by omega
          have HO : Hid ((b + x) % 16777216 = Gp.own b x) := by unfold Hid Gp.own; rw [if_pos hx]
          clear hx
          go_wp2_with fail
          refine (r01of_any (b + x) wr).mono ?_
          rintro e1 w4 ⟨rfl, rfl⟩
          rw [HO.out]
          generalize Gp.own b x = v at *
          simp only
          go_wp2_with (at_builtin; refine app_int rfl rfl (l := M) (l2 := [v]) rfl rfl (HM.out.sl.alloc _) (Sl.rd (Sl.lit intE _ _ rfl _ _ rfl _ rfl (by decide))) (by simp; omega) ?_; intro B4 d4 M4 w5 hM4 hs4 ht4 hB4)
          have HM5 := Lib.hid ((HM.out.alloc (.cells #[.int .i64 v] 3)).app hs4 ht4 hB4)
          rw [← hM4.out] at HS
          have hl4 : M4.length ≤ k + 1 := by rw [hM4.out]; simp; omega
          clear hs4 ht4 hB4 hM4 HM c0 HMe HO
          go_roundw
          case rel => exact ⟨k + 1, B4, d4, M4, by omega, by go_num, rfl, HS.out.symm, HM5, hl4⟩
          case measure => simp [intOf]; omega
        · have h63 := Gp.and_63 x
          have hxb : 0 ≤ x % 64 ∧ x % 64 < 64 := by omega
          have HO : Hid ((b + 4 * (x % 64)) % 16777216 = Gp.own b x) := by unfold Hid Gp.own; rw [if_neg hx]
          have HX := Lib.hid hx
          generalize x % 64 = y at *
          have HC := Lib.hid (r01of_any (b + 4 * y))
          rw [HO.out] at HC
          clear hx HO
          by_cases h1 : -300 ≤ x
          · have h2 : ¬ x ≤ 300 := fun h => HX.out ⟨h1, h⟩
            go_wp2_with fail
            refine (HC.out wr).mono ?_
            rintro e1 w4 ⟨rfl, rfl⟩
            generalize Gp.own b x = v at *
            clear HC
            simp only
            go_wp2_with (at_builtin; refine app_int rfl rfl (l := M) (l2 := [v]) rfl rfl (HM.out.sl.alloc _) (Sl.rd (Sl.lit intE _ _ rfl _ _ rfl _ rfl (by decide))) (by simp; omega) ?_; intro B4 d4 M4 w5 hM4 hs4 ht4 hB4)
            have HM5 := Lib.hid ((HM.out.alloc (.cells #[.int .i64 v] 3)).app hs4 ht4 hB4)
            rw [← hM4.out] at HS
            have hl4 : M4.length ≤ k + 1 := by rw [hM4.out]; simp; omega
            clear hs4 ht4 hB4 hM4 HM c0 HMe
            go_roundw
            case rel => exact ⟨k + 1, B4, d4, M4, by omega, by go_num, rfl, HS.out.symm, HM5, hl4⟩
            case measure => simp [intOf]; omega
          · clear HX
            go_wp2_with fail
            refine (HC.out wr).mono ?_
            rintro e1 w4 ⟨rfl, rfl⟩
            generalize Gp.own b x = v at *
            clear HC
            simp only
            go_wp2_with (at_builtin; refine app_int rfl rfl (l := M) (l2 := [v]) rfl rfl (HM.out.sl.alloc _) (Sl.rd (Sl.lit intE _ _ rfl _ _ rfl _ rfl (by decide))) (by simp; omega) ?_; intro B4 d4 M4 w5 hM4 hs4 ht4 hB4)
            have HM5 := Lib.hid ((HM.out.alloc (.cells #[.int .i64 v] 3)).app hs4 ht4 hB4)
            rw [← hM4.out] at HS
            have hl4 : M4.length ≤ k + 1 := by rw [hM4.out]; simp; omega
            clear hs4 ht4 hB4 hM4 HM c0 HMe
            go_roundw
            case rel => exact ⟨k + 1, B4, d4, M4, by omega, by go_num, rfl, HS.out.symm, HM5, hl4⟩
            case measure => simp [intOf]; omega
      · have hkk : k = L.length := by omega
        have HOe : Hid (M = L.map (Gp.own b)) := by unfold Hid; rw [HMe.out, hkk, List.take_length]
        have hk' : ¬ ((k : Int) < (L.length : Int)) := by omega
        have hM20 : M.length ≤ 20 := by omega
        have HB : Hid (∀ v ∈ M, 0 ≤ v ∧ v < 16777216) := fun v hv => by
          rw [HOe.out] at hv
          obtain ⟨y, _, rfl⟩ := List.mem_map.1 hv
          exact Gp.own_bd b y
        have RM : Hid (Rd intE wr D e M) := HM.out.sl.rd
        replace FW := Lib.hid (FW.out.trans HM.out.fresh (fun _ _ h => h))
        clear hk HMe hkk HM HL hkL hMl hL20
        go_wp2_with fail
        refine (nums09_any D e M wr RM.out (by omega)).mono ?_
        rintro e1 w4 ⟨P, p, rfl, MP⟩
        rw [Gp.map_mod M HB.out] at MP ⊢
        have RP : Hid (Rd numE w4 P p M) := MP.sl.rd
        replace FW := Lib.hid (FW.out.trans MP.fresh (fun _ _ h => h))
        replace RM := Lib.hid (RM.out.touch MP.fresh (fun _ _ _ h => h))
        clear MP
        simp only
        go_wp2_with fail
        refine (gset_any b t P p M w4 RP.out (by omega)).mono ?_
        rintro e1 w5 ⟨hs1, hs2⟩
        rcases hok : Gp.okSet b t M with _ | _
        · obtain ⟨rfl, f5⟩ := hs2 hok
          have HK := Lib.hid hok
          replace FW := Lib.hid (FW.out.trans f5 (fun _ _ h => h))
          replace RM := Lib.hid (RM.out.touch f5 (fun _ _ _ h => h))
          clear f5 hs1 hs2 hok RP
          simp only
          go_wp2_with fail
          refine (rset_any b t D e M w5 RM.out (by omega)).mono ?_
          rintro e1 w6 ⟨_, hr2⟩
          obtain ⟨rfl, f6⟩ := hr2 HK.out
          replace FW := Lib.hid (FW.out.trans f6 (fun _ _ h => h))
          have HLN := Lib.hid (list_any none 0 [] w6 (Rd.nil _ _) Sp.Good.nil (by simp [Sp.nums]))
          clear f6 hr2
          simp only
          go_wp2_with fail
          refine HLN.out.mono ?_
          rintro e1 w7 ⟨U, u, rfl, MU⟩
          replace FW := Lib.hid (FW.out.trans MU.fresh (fun _ _ h => h))
          have HSM := Lib.hid (same_any U none u 0 [] [] w7 MU.sl.rd (Rd.nil _ _))
          rw [decide_eq_true rfl] at HSM
          clear MU HLN
          simp only
          go_wp2_with fail
          refine HSM.out.mono ?_
          rintro e1 w8 ⟨rfl, f8⟩
          replace FW := Lib.hid (FW.out.trans f8 (fun _ _ h => h))
          clear f8 HSM
          simp only
          go_wp2
          go_ret
          exact ⟨rfl, FW.out.below (Nat.le_refl _) (fun _ _ h => h)⟩
        · obtain ⟨C, g, S, rfl, MC, hof⟩ := hs1 hok
          rw [HOe.out] at hok hof
          obtain ⟨he, hn1, hn2, hn3, hn4⟩ := Gp.own_ok hok hof
          have HG := Lib.hid hof.good
          rw [← HOe.out] at hok he hn3
          have HE := Lib.hid he
          have HN1 := Lib.hid hn1
          have HN2 := Lib.hid hn2
          have HN3 := Lib.hid hn3
          have HN4 := Lib.hid hn4
          have HK := Lib.hid hok
          have RS : Hid (Rd spanE w5 C g S) := MC.sl.rd
          replace FW := Lib.hid (FW.out.trans MC.fresh (fun _ _ h => h))
          replace RM := Lib.hid (RM.out.touch MC.fresh (fun _ _ _ h => h))
          clear MC hs1 hs2 hok RP he hn1 hn2 hn3 hn4 hof HOe
          simp only
          go_wp2_with fail
          refine (rset_any b t D e M w5 RM.out (by omega)).mono ?_
          rintro e1 w6 ⟨hr1, _⟩
          obtain ⟨Q, q, rfl, MQ⟩ := hr1 HK.out
          rw [← HE.out] at MQ ⊢
          have RQ : Hid (Rd intE w6 Q q (Sp.nums S)) := MQ.sl.rd
          replace FW := Lib.hid (FW.out.trans MQ.fresh (fun _ _ h => h))
          replace RM := Lib.hid (RM.out.touch MQ.fresh (fun _ _ _ h => h))
          replace RS := Lib.hid (RS.out.touch MQ.fresh (fun _ _ _ h => h))
          have HLN := Lib.hid (list_any C g S w6 RS.out HG.out HN1.out)
          clear MQ hr1 HE HK
          generalize Sp.nums S = Z at *
          simp only
          go_wp2_with fail
          refine HLN.out.mono ?_
          rintro e1 w7 ⟨U, u, rfl, MU⟩
          replace FW := Lib.hid (FW.out.trans MU.fresh (fun _ _ h => h))
          replace RM := Lib.hid (RM.out.touch MU.fresh (fun _ _ _ h => h))
          replace RS := Lib.hid (RS.out.touch MU.fresh (fun _ _ _ h => h))
          have HSM := Lib.hid (same_any U Q u q Z Z w7 MU.sl.rd (RQ.out.touch MU.fresh (fun _ _ _ h => h)))
          rw [decide_eq_true rfl] at HSM
          clear MU HLN RQ
          simp only
          go_wp2_with fail
          refine HSM.out.mono ?_
          rintro e1 w8 ⟨rfl, f8⟩
          replace FW := Lib.hid (FW.out.trans f8 (fun _ _ h => h))
          replace RM := Lib.hid (RM.out.touch f8 (fun _ _ _ h => h))
          replace RS := Lib.hid (RS.out.touch f8 (fun _ _ _ h => h))
          clear f8 HSM
          simp only
          go_wp2_with fail
          refine (listg_any b C g S w8 RS.out HG.out HN2.out).mono ?_
          rintro e1 w9 ⟨V, v, T, rfl, MV, hT⟩
          obtain rfl : T = S := Gp.half_all hT HG.out HN4.out
          rw [HN3.out] at MV ⊢
          have RV : Hid (Rd numE w9 V v M) := MV.sl.rd
          replace FW := Lib.hid (FW.out.trans MV.fresh (fun _ _ h => h))
          replace RM := Lib.hid (RM.out.touch MV.fresh (fun _ _ _ h => h))
          clear MV hT RS
          simp only
          go_wp2_with fail
          refine (same09_true V v D e M w9 RV.out RM.out HB.out).mono ?_
          rintro e1 w10 ⟨rfl, f10⟩
          replace FW := Lib.hid (FW.out.trans f10 (fun _ _ h => h))
          clear f10
          simp only
          go_wp2
          go_ret
          exact ⟨rfl, FW.out.below (Nat.le_refl _) (fun _ _ h => h)⟩

theorem gapsSets.walk (base top : Int) (v : Value) (w : World) (_h0 : (Lit.int .i64 base).wf = true) (_h1 : (Lit.int .i64 top).wf = true) {H : Type} {enc : TypeId × Value → H} {b0 : Nat} {d : DataW H} {p : List MemPlace} (hv : Value.okWide Try.prog w .any b0 25 v) (h : DataW.Trod enc Try.prog w 0 (fun _ => true) true 25 v d p) :
    Calls Try.prog 13 #[.int .i64 base, .int .i64 top, v] w fun e w' => e = .returned (.bool true) ∧ Below w.heap.size w w' := by
  obtain ⟨A, c, l, rfl, hr, _⟩ := open_rd_int hv h
  exact gapsSets.core base top A c l w hr
end Go.Proofs.Ytlfapnapkdnldaa

/-
  SpanTwo: what is in both, and whether both are the same, is as the document says.
-/
import Derived.Test.YtlfapnapkdnldaaSpanOf
namespace Go.Proofs.Ytlfapnapkdnldaa
open Go.RowKit Go.ChangeShapes Go.WideShapes Go.ChangeAt

namespace Sp
theorem IsNums.inj {S T : List (Int × Int)} {N M : List Int} (h : IsNums S N) (h2 : IsNums T M) : decide (S = T) = decide (N = M) := by
  rw [Bool.eq_iff_iff, decide_eq_true_iff, decide_eq_true_iff]
  constructor
  · rintro rfl
    rw [← h.nums, h2.nums]
  · rintro rfl
    rw [← h.ends, h2.ends]
theorem itake_succ (N : List Int) (k : Nat) (hk : k < N.length) : N.take (k + 1) = N.take k ++ [N.getD k 0] := by
  rw [List.take_succ_eq_append_getElem hk]
  simp [List.getD, List.getElem?_eq_getElem hk]
theorem IsNums.both {S T R : List (Int × Int)} {N M : List Int} (h : IsNums S N) (h2 : IsNums T M) (hg : Good R) (hR : ∀ n, mem R n ↔ mem S n ∧ mem T n) : IsNums R (N.filter fun n => decide (n ∈ M)) :=
  ⟨hg, h.rising.filter _, fun n => by rw [List.mem_filter, decide_eq_true_iff, h.same, h2.same, hR]⟩
end Sp

set_option maxHeartbeats 4000000 in
set_option maxRecDepth 4000 in
theorem spanTwo.core (A : Option Addr) (c : Nat) (l : List (Int × Int)) (A2 : Option Addr) (c2 : Nat) (m : List (Int × Int)) (w : World) (h : Rd spanE w A c l) (h2 : Rd spanE w A2 c2 m) :
    Calls Try.prog 4 #[.slice A l.length c, .slice A2 m.length c2] w fun e w' => e = .returned (.bool true) ∧ Below w.heap.size w w' := by
  have H := Lib.hid h
  have H2 := Lib.hid h2
  clear h h2
  go_enter Try.func4, Try.ntmps4
  go_wp2_with fail
  refine (awake03 w).mono ?_
  rintro e w1 ⟨rfl, f1⟩
  have FW : Hid (Fresh w w1) := f1
  replace H := Lib.hid (H.out.touch f1 (fun _ _ _ h => h))
  replace H2 := Lib.hid (H2.out.touch f1 (fun _ _ _ h => h))
  clear f1
  simp only
  go_wp2_with fail
  refine (few_any A c l w1 H.out).mono ?_
  rintro e w2 ⟨B, d1, D, f1, N, rfl, MB, MD, hr, hm, hlN⟩
  have RB1 : Hid (Rd spanE w2 B d1 (Sp.few l 12)) := MB.sl.rd
  have RN : Hid (Rd intE w2 D f1 N) := MD.sl.rd
  replace FW := Lib.hid (FW.out.trans MB.fresh (fun _ _ h => h))
  replace H2 := Lib.hid (H2.out.touch MB.fresh (fun _ _ _ h => h))
  have HF1 := Lib.hid (Sp.few_small l 12)
  have HR1 := Lib.hid (And.intro hr hm)
  have hlF := few_len l
  generalize Sp.few l 12 = F at *
  clear MB MD hr hm H
  simp only
  go_wp2_with fail
  refine (few_any A2 c2 m w2 H2.out).mono ?_
  rintro e w3 ⟨B2, d2, D2, f2, M, rfl, MB, MD, hr, hm, hlM⟩
  have RB2 : Hid (Rd spanE w3 B2 d2 (Sp.few m 12)) := MB.sl.rd
  have RM : Hid (Rd intE w3 D2 f2 M) := MD.sl.rd
  replace FW := Lib.hid (FW.out.trans MB.fresh (fun _ _ h => h))
  replace RB1 := Lib.hid (RB1.out.touch MB.fresh (fun _ _ _ h => h))
  replace RN := Lib.hid (RN.out.touch MB.fresh (fun _ _ _ h => h))
  have HF2 := Lib.hid (Sp.few_small m 12)
  have HR2 := Lib.hid (And.intro hr hm)
  have hlG := few_len m
  generalize Sp.few m 12 = G at *
  clear MB MD hr hm H2
  simp only
  go_wp2_with fail
  refine (of_any B d1 F w3 RB1.out (by omega)).mono ?_
  rintro e w4 ⟨C, g1, S, rfl, MC, hof, hlS⟩
  have RS : Hid (Rd spanE w4 C g1 S) := MC.sl.rd
  have HI1 := Lib.hid (Sp.isNums_of hof HF1.out HR1.out.1 HR1.out.2)
  replace FW := Lib.hid (FW.out.trans MC.fresh (fun _ _ h => h))
  replace RB2 := Lib.hid (RB2.out.touch MC.fresh (fun _ _ _ h => h))
  replace RN := Lib.hid (RN.out.touch MC.fresh (fun _ _ _ h => h))
  replace RM := Lib.hid (RM.out.touch MC.fresh (fun _ _ _ h => h))
  clear MC hof RB1
  simp only
  go_wp2_with fail
  refine (of_any B2 d2 G w4 RB2.out (by omega)).mono ?_
  rintro e w5 ⟨C2, g2, T, rfl, MC, hof, hlT⟩
  have RT : Hid (Rd spanE w5 C2 g2 T) := MC.sl.rd
  have HI2 := Lib.hid (Sp.isNums_of hof HF2.out HR2.out.1 HR2.out.2)
  replace FW := Lib.hid (FW.out.trans MC.fresh (fun _ _ h => h))
  replace RS := Lib.hid (RS.out.touch MC.fresh (fun _ _ _ h => h))
  replace RN := Lib.hid (RN.out.touch MC.fresh (fun _ _ _ h => h))
  replace RM := Lib.hid (RM.out.touch MC.fresh (fun _ _ _ h => h))
  clear MC hof RB2
  simp only
  go_wp2_with fail
  go_loopw [11, 32] (fun s11 i wr => ∃ (k : Nat) (E : Option Addr) (e : Nat) (L : List Int), k ≤ N.length ∧ i = .int .i64 k ∧ s11 = .slice E L.length e ∧ Hid (L = (N.take k).filter fun n => decide (n ∈ M)) ∧ Hid (Mine intE w5 wr E e L) ∧ L.length ≤ k) (fun _ i _ => N.length - (intOf i).toNat)
  case atStart => exact ⟨0, none, 0, [], by omega, rfl, rfl, rfl, Mine.nil _ _, by simp⟩
  case round =>
    obtain ⟨k, E, e, L, hkL, rfl, rfl, HL, HM, hLk⟩ := hrel
    by_cases hk : k < N.length
    · have hk1 : (k : Int) < (N.length : Int) := by omega
      have hk0 : (0 : Int) ≤ (k : Int) := by omega
      obtain ⟨g, o, rfl, _, c0⟩ := (HM.out.keepsR RN.out).int_at k hk
      have HS := Lib.hid (Sp.itake_succ N k hk)
      generalize N.getD k 0 = x at *
      have HH := Lib.hid (has03_any D2 f2 M x wr (HM.out.keepsR RM.out))
      go_wp2_with fail
      by_cases hx : x ∈ M
      · rw [decide_eq_true hx] at HH
        have HL2 : Hid (L ++ [x] = (N.take (k + 1)).filter fun n => decide (n ∈ M)) := by unfold Hid; rw [HS.out, List.filter_append, ← HL.out]; simp [hx]
        clear hx HL HS
        refine HH.out.mono ?_
        rintro e w6 ⟨rfl, rfl⟩
        simp only
        go_wp2_with (at_builtin; refine app_int rfl rfl (l := L) (l2 := [x]) rfl rfl (HM.out.sl.alloc _) (Sl.rd (Sl.lit intE _ _ rfl _ _ rfl _ rfl (by decide))) (by simp; omega) ?_; intro B4 d4 M4 w4 hM4 hs4 ht4 hB4)
        have HM5 := Lib.hid ((HM.out.alloc (.cells #[.int .i64 x] 3)).app hs4 ht4 hB4)
        rw [← hM4.out] at HL2
        have hl4 : M4.length ≤ k + 1 := by rw [hM4.out]; simp; omega
        clear hs4 ht4 hB4 hM4 HM c0 HH
        go_roundw
        case rel => exact ⟨k + 1, B4, d4, M4, by omega, by go_num, rfl, HL2, HM5, hl4⟩
        case measure => simp [intOf]; omega
      · rw [decide_eq_false hx] at HH
        have HL2 : Hid (L = (N.take (k + 1)).filter fun n => decide (n ∈ M)) := by unfold Hid; rw [HS.out, List.filter_append, ← HL.out]; simp [hx]
        clear hx HL HS
        refine HH.out.mono ?_
        rintro e w6 ⟨rfl, rfl⟩
        simp only
        clear c0 HH
        go_wp2
        go_roundw
        case rel => exact ⟨k + 1, E, _, L, by omega, by go_num, rfl, HL2, HM, by omega⟩
        case measure => simp [intOf]; omega
    · have hkk : k = N.length := by omega
      have HLF : Hid (L = N.filter fun n => decide (n ∈ M)) := by unfold Hid; rw [HL.out, hkk, List.take_length]
      have hk' : ¬ ((k : Int) < (N.length : Int)) := by omega
      have FM := Lib.hid HM.out.fresh
      replace FW := Lib.hid (FW.out.trans FM.out (fun _ _ h => h))
      replace RS := Lib.hid (RS.out.touch FM.out (fun _ _ _ h => h))
      replace RT := Lib.hid (RT.out.touch FM.out (fun _ _ _ h => h))
      replace RN := Lib.hid (RN.out.touch FM.out (fun _ _ _ h => h))
      replace RM := Lib.hid (RM.out.touch FM.out (fun _ _ _ h => h))
      have RL : Hid (Rd intE wr E e L) := HM.out.sl.rd
      clear hk HL HM FM hkk
      go_wp2_with fail
      refine (both_any C g1 S C2 g2 T wr RS.out RT.out HI1.out.good HI2.out.good (by omega) (by omega)).mono ?_
      rintro e6 w6 ⟨P, p, R, rfl, MR, hgR, hR⟩
      have HIR := Lib.hid (HI1.out.both HI2.out hgR hR)
      rw [← HLF.out] at HIR
      replace FW := Lib.hid (FW.out.trans MR.fresh (fun _ _ h => h))
      replace RS := Lib.hid (RS.out.touch MR.fresh (fun _ _ _ h => h))
      replace RT := Lib.hid (RT.out.touch MR.fresh (fun _ _ _ h => h))
      replace RN := Lib.hid (RN.out.touch MR.fresh (fun _ _ _ h => h))
      replace RM := Lib.hid (RM.out.touch MR.fresh (fun _ _ _ h => h))
      replace RL := Lib.hid (RL.out.touch MR.fresh (fun _ _ _ h => h))
      have RR : Hid (Rd spanE w6 P p R) := MR.sl.rd
      clear MR hgR hR
      simp only
      go_wp2_with fail
      refine (is_true P p R E e L w6 RR.out RL.out HIR.out (by omega)).mono ?_
      rintro e7 w7 ⟨rfl, f7⟩
      replace FW := Lib.hid (FW.out.trans f7 (fun _ _ h => h))
      replace RS := Lib.hid (RS.out.touch f7 (fun _ _ _ h => h))
      replace RT := Lib.hid (RT.out.touch f7 (fun _ _ _ h => h))
      replace RN := Lib.hid (RN.out.touch f7 (fun _ _ _ h => h))
      replace RM := Lib.hid (RM.out.touch f7 (fun _ _ _ h => h))
      replace RL := Lib.hid (RL.out.touch f7 (fun _ _ _ h => h))
      clear f7 RR HIR
      simp only
      go_wp2_with fail
      refine (both_any C2 g2 T C g1 S w7 RT.out RS.out HI2.out.good HI1.out.good (by omega) (by omega)).mono ?_
      rintro e8 w8 ⟨P2, p2, R2, rfl, MR, hgR, hR⟩
      have HIR := Lib.hid (HI1.out.both HI2.out hgR (fun n => (hR n).trans and_comm))
      rw [← HLF.out] at HIR
      replace FW := Lib.hid (FW.out.trans MR.fresh (fun _ _ h => h))
      replace RS := Lib.hid (RS.out.touch MR.fresh (fun _ _ _ h => h))
      replace RT := Lib.hid (RT.out.touch MR.fresh (fun _ _ _ h => h))
      replace RN := Lib.hid (RN.out.touch MR.fresh (fun _ _ _ h => h))
      replace RM := Lib.hid (RM.out.touch MR.fresh (fun _ _ _ h => h))
      replace RL := Lib.hid (RL.out.touch MR.fresh (fun _ _ _ h => h))
      have RR : Hid (Rd spanE w8 P2 p2 R2) := MR.sl.rd
      clear MR hgR hR
      simp only
      go_wp2_with fail
      refine (is_true P2 p2 R2 E e L w8 RR.out RL.out HIR.out (by omega)).mono ?_
      rintro e9 w9 ⟨rfl, f9⟩
      replace FW := Lib.hid (FW.out.trans f9 (fun _ _ h => h))
      replace RS := Lib.hid (RS.out.touch f9 (fun _ _ _ h => h))
      replace RT := Lib.hid (RT.out.touch f9 (fun _ _ _ h => h))
      replace RN := Lib.hid (RN.out.touch f9 (fun _ _ _ h => h))
      replace RM := Lib.hid (RM.out.touch f9 (fun _ _ _ h => h))
      clear f9 RR HIR RL HLF
      simp only
      have HSa := Lib.hid (setSame_any C g1 S C2 g2 T w9 RS.out RT.out)
      rw [HI1.out.inj HI2.out] at HSa
      have hNM : ∃ b, b = decide (N = M) := ⟨_, rfl⟩
      obtain ⟨b, hb⟩ := hNM
      rw [← hb] at HSa
      have HB := Lib.hid hb
      clear hb
      go_wp2_with fail
      refine HSa.out.mono ?_
      rintro e10 w10 ⟨rfl, f10⟩
      replace FW := Lib.hid (FW.out.trans f10 (fun _ _ h => h))
      replace RN := Lib.hid (RN.out.touch f10 (fun _ _ _ h => h))
      replace RM := Lib.hid (RM.out.touch f10 (fun _ _ _ h => h))
      clear f10 HSa RS RT
      have HSm := Lib.hid (same_any D D2 f1 f2 N M w10 RN.out RM.out)
      rw [← HB.out] at HSm
      clear HB RN RM
      simp only
      go_wp2_with fail
      refine HSm.out.mono ?_
      rintro e11 w11 ⟨rfl, f11⟩
      replace FW := Lib.hid (FW.out.trans f11 (fun _ _ h => h))
      clear f11 HSm
      simp only
      go_wp2
      go_ret
      exact ⟨by simp, FW.out.below (Nat.le_refl _) (fun _ _ h => h)⟩

theorem spanTwo.walk (v v2 : Value) (w : World) {H : Type} {enc : TypeId × Value → H} {base : Nat} {d d2 : DataW H} {p p2 : List MemPlace} (hv : Value.okWide Try.prog w .any base 23 v) (h : DataW.Trod enc Try.prog w 0 (fun _ => true) true 23 v d p) (hv2 : Value.okWide Try.prog w .any base 23 v2) (h2 : DataW.Trod enc Try.prog w 0 (fun _ => true) true 23 v2 d2 p2) :
    Calls Try.prog 4 #[v, v2] w fun e w' => e = .returned (.bool true) ∧ Below w.heap.size w w' := by
  obtain ⟨A, c, l, rfl, hr⟩ := open_spans hv h
  obtain ⟨A2, c2, m, rfl, hr2⟩ := open_spans hv2 h2
  exact spanTwo.core A c l A2 c2 m w hr hr2
end Go.Proofs.Ytlfapnapkdnldaa

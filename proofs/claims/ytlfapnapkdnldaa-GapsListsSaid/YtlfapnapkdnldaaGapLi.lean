/-
  GapsLists: a set's pairs are the document's, for any base, and make the set again.
-/
import Derived.Test.YtlfapnapkdnldaaGapP
import Derived.Test.YtlfapnapkdnldaaRef09
import Derived.Test.YtlfapnapkdnldaaSame
namespace Go.Proofs.Ytlfapnapkdnldaa
open Go.RowKit Go.ChangeShapes Go.WideShapes Go.ChangeAt

namespace Gp
theorem last_max {L : List Int} (h : Sp.Rising L) (n : Int) (hn : n ∈ L) (j : Nat) (hj : j + 1 = L.length) : n ≤ L.getD j 0 := by
  obtain ⟨i, hi, rfl⟩ := List.getElem_of_mem hn
  have hjl : j < L.length := by omega
  simp only [List.getD, List.getElem?_eq_getElem hjl, Option.getD_some]
  rcases (show i = j ∨ i < j by omega) with rfl | hij
  · exact Int.le_refl _
  · exact Int.le_of_lt (List.pairwise_iff_getElem.1 h i j hi hjl hij)
theorem ends_le {T : List (Int × Int)} {L : List Int} (h : Sp.IsNums T L) (z : Int) (hz : ∀ n ∈ L, n ≤ z) : ∀ x ∈ T, x.2 ≤ z + 1 := fun x hx => by
  have h1 := h.good.1.1 x hx
  have := hz (x.2 - 1) ((h.same _).2 ⟨x, hx, by omega, by omega⟩)
  omega
theorem starts_ge {T : List (Int × Int)} {L : List Int} (h : Sp.IsNums T L) (z : Int) (hz : ∀ n ∈ L, z ≤ n) : ∀ x ∈ T, z ≤ x.1 := fun x hx => by
  have h1 := h.good.1.1 x hx
  exact hz x.1 ((h.same _).2 ⟨x, hx, by omega, by omega⟩)
end Gp

set_option maxHeartbeats 8000000 in
set_option maxRecDepth 4000 in
theorem gapsLists.core (base : Int) (A : Option Addr) (c : Nat) (l : List (Int × Int)) (far : Int) (w : World) (h : Rd spanE w A c l) :
    Calls Try.prog 12 #[.int .i64 base, .slice A l.length c, .int .i64 far] w fun e w' => e = .returned (.bool true) ∧ Below w.heap.size w w' := by
  have H := Lib.hid h
  clear h
  have hq0 := and_255 far
  have hqb : 0 ≤ far % 256 ∧ far % 256 ≤ 255 := by omega
  generalize far % 256 = q at *
  have HQ := Lib.hid hq0
  clear hq0
  go_enter Try.func12, Try.ntmps12
  go_wp2_with fail
  refine (awake09 w).mono ?_
  rintro e w1 ⟨rfl, f1⟩
  have FW : Hid (Fresh w w1) := f1
  replace H := Lib.hid (H.out.touch f1 (fun _ _ _ h => h))
  clear f1
  simp only
  go_wp2_with fail
  refine (few_any A c l w1 H.out).mono ?_
  rintro e w2 ⟨B, d, D, f, N, rfl, MB, MD, hr, hm, hlN⟩
  have RB : Hid (Rd spanE w2 B d (Sp.few l 12)) := MB.sl.rd
  have RN : Hid (Rd intE w2 D f N) := MD.sl.rd
  replace FW := Lib.hid (FW.out.trans MB.fresh (fun _ _ h => h))
  have HF := Lib.hid (Sp.few_small l 12)
  have HFB := Lib.hid (Sp.few_bd l 12)
  have HRN := Lib.hid (And.intro hr hm)
  have hlF := few_len l
  generalize Sp.few l 12 = F at *
  clear MB MD hr hm H
  simp only
  go_wp2_with fail
  go_loopw [9, 27] (fun s9 i wr => ∃ (k : Nat) (E : Option Addr) (e : Nat) (L : List Int), k ≤ N.length ∧ i = .int .i64 k ∧ s9 = .slice E L.length e ∧ Hid (L = (N.take k).filter fun n => decide (0 ≤ n)) ∧ Hid (Mine intE w2 wr E e L) ∧ L.length ≤ k) (fun _ i _ => N.length - (intOf i).toNat)
  case atStart => exact ⟨0, none, 0, [], by omega, rfl, rfl, rfl, Mine.nil _ _, by simp⟩
  case round =>
    obtain ⟨k, E, e, L, hkL, rfl, rfl, HL, HM, hLk⟩ := hrel
    by_cases hk : k < N.length
    · have hk1 : (k : Int) < (N.length : Int) := by omega
      have hdk1 : decide ((k : Int) < (N.length : Int)) = true := decide_eq_true hk1
      have hk0 : (0 : Int) ≤ (k : Int) := by omega
      obtain ⟨g, o, rfl, _, c0⟩ := (HM.out.keepsR RN.out).int_at k hk
      have HS := Lib.hid (Sp.itake_succ N k hk)
      generalize N.getD k 0 = x at *
      by_cases hx : 0 ≤ x
      · have HL2 : Hid (L ++ [x] = (N.take (k + 1)).filter fun n => decide (0 ≤ n)) := by unfold Hid; rw [HS.out, List.filter_append, ← HL.out]; simp [hx]
        clear HL HS
        go_wp2_with (at_builtin; refine app_int rfl rfl (l := L) (l2 := [x]) rfl rfl (HM.out.sl.alloc _) (Sl.rd (Sl.lit intE _ _ rfl _ _ rfl _ rfl (by decide))) (by simp; omega) ?_; intro B4 d4 M4 w4 hM4 hs4 ht4 hB4)
        have HM5 := Lib.hid ((HM.out.alloc (.cells #[.int .i64 x] 3)).app hs4 ht4 hB4)
        rw [← hM4.out] at HL2
        have hl4 : M4.length ≤ k + 1 := by rw [hM4.out]; simp; omega
        clear hs4 ht4 hB4 hM4 HM c0
        go_roundw
        case rel => exact ⟨k + 1, B4, d4, M4, by omega, by go_num, rfl, HL2, HM5, hl4⟩
        case measure => simp [intOf]; omega
      · have HL2 : Hid (L = (N.take (k + 1)).filter fun n => decide (0 ≤ n)) := by unfold Hid; rw [HS.out, List.filter_append, ← HL.out]; simp [hx]
        clear HL HS
        go_wp2
        go_roundw
        case rel => exact ⟨k + 1, E, e, L, by omega, by go_num, rfl, HL2, HM, by omega⟩
        case measure => simp [intOf]; omega
    · have hkk : k = N.length := by omega
      have HLF : Hid (L = N.filter fun n => decide (0 ≤ n)) := by unfold Hid; rw [HL.out, hkk, List.take_length]
      have hk' : ¬ ((k : Int) < (N.length : Int)) := by omega
      have FM := Lib.hid HM.out.fresh
      replace FW := Lib.hid (FW.out.trans FM.out (fun _ _ h => h))
      replace RB := Lib.hid (RB.out.touch FM.out (fun _ _ _ h => h))
      have RL : Hid (Rd intE wr E e L) := HM.out.sl.rd
      have hLb : L.length ≤ 480 := by omega
      clear hk HL HM FM hkk RN hLk
      go_wp2_with fail
      refine (sof_any base wr).mono ?_
      rintro e1 w3 ⟨rfl, rfl⟩
      have hbb : 0 ≤ base % 16777216 ∧ base % 16777216 < 16777216 := by omega
      generalize base % 16777216 = b at *
      simp only
      go_wp2_with fail
      refine (of_any B d F w3 RB.out (by omega)).mono ?_
      rintro e1 w4 ⟨C, g, S, rfl, MC, hof, hlS⟩
      have RS : Hid (Rd spanE w4 C g S) := MC.sl.rd
      have HIS := Lib.hid (Sp.isNums_of hof HF.out HRN.out.1 HRN.out.2)
      have HNB : Hid (∀ n ∈ N, -100 ≤ n ∧ n < 100) := fun n hn => HFB.out n ((HRN.out.2 n).1 hn)
      replace FW := Lib.hid (FW.out.trans MC.fresh (fun _ _ h => h))
      replace RL := Lib.hid (RL.out.touch MC.fresh (fun _ _ _ h => h))
      clear MC hof RB HF HFB HRN
      simp only
      go_wp2_with fail
      refine (listg_any b C g S w4 RS.out HIS.out.good (by omega)).mono ?_
      rintro e1 w5 ⟨P, p, T, rfl, MP, hT⟩
      have RP : Hid (Rd numE w5 P p (Gp.gl b T)) := MP.sl.rd
      have HIT : Hid (Sp.IsNums T L) := ⟨hT.1, by rw [HLF.out]; exact HIS.out.rising.filter _, fun n => by
        rw [HLF.out, List.mem_filter, decide_eq_true_iff, hT.2, ← HIS.out.same]
        constructor
        · rintro ⟨h1, h2⟩
          have := HNB.out n h1
          exact ⟨h1, h2, by omega⟩
        · rintro ⟨h1, h2, _⟩
          exact ⟨h1, h2⟩⟩
      have HLB : Hid (∀ n ∈ L, 0 ≤ n ∧ n < 100) := fun n hn => by
        rw [HLF.out, List.mem_filter, decide_eq_true_iff] at hn
        exact ⟨hn.2, (HNB.out n hn.1).2⟩
      replace FW := Lib.hid (FW.out.trans MP.fresh (fun _ _ h => h))
      replace RL := Lib.hid (RL.out.touch MP.fresh (fun _ _ _ h => h))
      clear MP hT RS HIS HNB HLF
      have HST : Hid (∀ x ∈ T, 0 ≤ x.1 ∧ x.1 < x.2 ∧ x.2 ≤ 100) := fun x hx => by
        have a1 := Gp.starts_ge HIT.out 0 (fun n hn => (HLB.out n hn).1) x hx
        have a2 := Gp.ends_le HIT.out 99 (fun n hn => by have := HLB.out n hn; omega) x hx
        have a3 := HIT.out.good.1.1 x hx
        omega
      have hTl : T.length ≤ 480 := by
        have := Sp.Canon.len_nums HIT.out.good.1.1
        rw [HIT.out.nums] at this
        omega
      have hXl : Hid ((Gp.gl b T).length ≤ 960) := by unfold Hid; rw [Gp.gl_len]; omega
      have HGC : Hid (Gp.gc (Gp.gl b T) ((Gp.gl b T).length / 2) = (L.length : Int)) := by
        unfold Hid
        rw [Gp.gc_all b T HIT.out.good.1 (fun x hx => by have := HST.out x hx; omega), HIT.out.nums]
      have HXB : Hid (∀ x ∈ Gp.gl b T, 0 ≤ x ∧ x < 16777216) := fun x hx => by
        unfold Gp.gl at hx
        obtain ⟨y, _, rfl⟩ := List.mem_map.1 hx
        omega
      have HPA := Lib.hid (pairs09_any b E e L w5 RL.out HIT.out.rising (by omega) (fun n hn => by have := HLB.out n hn; omega) hbb)
      rw [HIT.out.ends] at HPA
      simp only
      go_wp2_with fail
      refine HPA.out.mono ?_
      rintro e1 w6 ⟨Q, q2, rfl, MQ⟩
      have RQ : Hid (Rd intE w6 Q q2 (Gp.gl b T)) := MQ.sl.rd
      replace FW := Lib.hid (FW.out.trans MQ.fresh (fun _ _ h => h))
      replace RL := Lib.hid (RL.out.touch MQ.fresh (fun _ _ _ h => h))
      replace RP := Lib.hid (RP.out.touch MQ.fresh (fun _ _ _ h => h))
      clear MQ HPA
      simp only
      go_wp2_with fail
      refine (same09_true P p Q q2 (Gp.gl b T) w6 RP.out RQ.out HXB.out).mono ?_
      rintro e1 w7 ⟨rfl, f7⟩
      replace FW := Lib.hid (FW.out.trans f7 (fun _ _ h => h))
      replace RL := Lib.hid (RL.out.touch f7 (fun _ _ _ h => h))
      replace RP := Lib.hid (RP.out.touch f7 (fun _ _ _ h => h))
      clear f7 RQ HXB
      simp only
      go_wp2_with fail
      refine (count_any P p (Gp.gl b T) w7 RP.out (by have := hXl.out; omega)).mono ?_
      rintro e1 w8 ⟨rfl, f8⟩
      replace FW := Lib.hid (FW.out.trans f8 (fun _ _ h => h))
      replace RL := Lib.hid (RL.out.touch f8 (fun _ _ _ h => h))
      replace RP := Lib.hid (RP.out.touch f8 (fun _ _ _ h => h))
      rw [HGC.out]
      clear f8 HGC
      simp only
      rcases Nat.eq_zero_or_pos L.length with hL0 | hL0
      · have hLi : ¬ (0 : Int) < (L.length : Int) := by omega
        have HTOP : Hid (∀ x ∈ T, x.2 ≤ 0) := fun x hx => by
          have a3 := HIT.out.good.1.1 x hx
          have := (HIT.out.same x.1).2 ⟨x, hx, by omega, a3⟩
          rw [List.eq_nil_of_length_eq_zero hL0] at this
          cases this
        clear hL0
        have hand := HQ.out
        go_upto_region 19 with (fail)
        go_wp2_with fail
        refine (sadd_any b q w8).mono ?_
        rintro e1 w9 ⟨rfl, rfl⟩
        have hE : Hid ((((b + q) % 16777216) - b) % 16777216 = q) := by unfold Hid; omega
        obtain ⟨hk1, hk2⟩ := Gp.okSet_gl b ((b + q) % 16777216) T HIT.out.good.1 (fun x hx => by rw [hE.out]; have h1 := HST.out x hx; have h2 := HTOP.out x hx; omega) (by rw [hE.out]; omega)
        have HOK := Lib.hid hk1
        have HPR := Lib.hid hk2
        clear hk1 hk2 hand
        simp only
        go_wp2_with fail
        refine (gset_any b _ P p (Gp.gl b T) w9 RP.out (by have := hXl.out; omega)).mono ?_
        rintro e1 w10 ⟨h1, _⟩
        obtain ⟨C3, g3, S3, rfl, M3, ho3⟩ := h1 HOK.out
        rw [HPR.out] at ho3
        obtain rfl : S3 = T := Sp.IsOf.uniq ho3 HIT.out.good.isOf
        have R3 : Hid (Rd spanE w10 C3 g3 S3) := M3.sl.rd
        replace FW := Lib.hid (FW.out.trans M3.fresh (fun _ _ h => h))
        replace RL := Lib.hid (RL.out.touch M3.fresh (fun _ _ _ h => h))
        have HLI := Lib.hid (list_any C3 g3 S3 w10 R3.out HIT.out.good (by rw [HIT.out.nums]; omega))
        rw [HIT.out.nums] at HLI
        clear M3 ho3 h1 RP
        simp only
        go_wp2_with fail
        refine HLI.out.mono ?_
        rintro e1 w11 ⟨U, u, rfl, MU⟩
        replace FW := Lib.hid (FW.out.trans MU.fresh (fun _ _ h => h))
        replace RL := Lib.hid (RL.out.touch MU.fresh (fun _ _ _ h => h))
        have HSM := Lib.hid (same_any U _ u e L L w11 MU.sl.rd RL.out)
        rw [decide_eq_true rfl] at HSM
        clear MU HLI RL
        simp only
        go_wp2_with fail
        refine HSM.out.mono ?_
        rintro e1 w12 ⟨rfl, f12⟩
        replace FW := Lib.hid (FW.out.trans f12 (fun _ _ h => h))
        clear f12 HSM
        simp only
        go_wp2
        go_ret
        exact ⟨rfl, FW.out.below (Nat.le_refl _) (fun _ _ h => h)⟩
      · have hLi : (0 : Int) < (L.length : Int) := by omega
        obtain ⟨j, hj⟩ : ∃ j : Nat, (L.length : Int) - 1 = (j : Int) := ⟨L.length - 1, by omega⟩
        have hjl : j + 1 = L.length := by omega
        have hj1 : (j : Int) < (L.length : Int) := by omega
        have hj0 : (0 : Int) ≤ (j : Int) := by omega
        obtain ⟨gl, ol, rfl, _, c0⟩ := RL.out.int_at j (by omega)
        have HTOP : Hid (∀ x ∈ T, x.2 ≤ L.getD j 0 + 1) := Gp.ends_le HIT.out _ (fun n hn => Gp.last_max HIT.out.rising n hn j hjl)
        have hzb := HLB.out (L.getD j 0) (by rw [List.getD_eq_getElem?_getD, List.getElem?_eq_getElem (show j < L.length by omega)]; exact List.getElem_mem _)
        generalize L.getD j 0 = z at *
        have hand := HQ.out
        go_upto_region 19 with (fail)
        go_wp2_with fail
        refine (sadd_any b (z + 1 + q) w8).mono ?_
        rintro e1 w9 ⟨rfl, rfl⟩
        have hE : Hid ((((b + (z + 1 + q)) % 16777216) - b) % 16777216 = (z + 1 + q)) := by unfold Hid; omega
        obtain ⟨hk1, hk2⟩ := Gp.okSet_gl b ((b + (z + 1 + q)) % 16777216) T HIT.out.good.1 (fun x hx => by rw [hE.out]; have h1 := HST.out x hx; have h2 := HTOP.out x hx; omega) (by rw [hE.out]; omega)
        have HOK := Lib.hid hk1
        have HPR := Lib.hid hk2
        clear hk1 hk2 hand
        simp only
        go_wp2_with fail
        refine (gset_any b _ P p (Gp.gl b T) w9 RP.out (by have := hXl.out; omega)).mono ?_
        rintro e1 w10 ⟨h1, _⟩
        obtain ⟨C3, g3, S3, rfl, M3, ho3⟩ := h1 HOK.out
        rw [HPR.out] at ho3
        obtain rfl : S3 = T := Sp.IsOf.uniq ho3 HIT.out.good.isOf
        have R3 : Hid (Rd spanE w10 C3 g3 S3) := M3.sl.rd
        replace FW := Lib.hid (FW.out.trans M3.fresh (fun _ _ h => h))
        replace RL := Lib.hid (RL.out.touch M3.fresh (fun _ _ _ h => h))
        have HLI := Lib.hid (list_any C3 g3 S3 w10 R3.out HIT.out.good (by rw [HIT.out.nums]; omega))
        rw [HIT.out.nums] at HLI
        clear M3 ho3 h1 RP
        simp only
        go_wp2_with fail
        refine HLI.out.mono ?_
        rintro e1 w11 ⟨U, u, rfl, MU⟩
        replace FW := Lib.hid (FW.out.trans MU.fresh (fun _ _ h => h))
        replace RL := Lib.hid (RL.out.touch MU.fresh (fun _ _ _ h => h))
        have HSM := Lib.hid (same_any U _ u e L L w11 MU.sl.rd RL.out)
        rw [decide_eq_true rfl] at HSM
        clear MU HLI RL
        simp only
        go_wp2_with fail
        refine HSM.out.mono ?_
        rintro e1 w12 ⟨rfl, f12⟩
        replace FW := Lib.hid (FW.out.trans f12 (fun _ _ h => h))
        clear f12 HSM
        simp only
        go_wp2
        go_ret
        exact ⟨rfl, FW.out.below (Nat.le_refl _) (fun _ _ h => h)⟩

theorem gapsLists.walk (base : Int) (v : Value) (m : Int) (w : World) (_h0 : (Lit.int .i64 base).wf = true) {H : Type} {enc : TypeId × Value → H} {b0 : Nat} {d : DataW H} {p : List MemPlace} (hv : Value.okWide Try.prog w .any b0 23 v) (h : DataW.Trod enc Try.prog w 0 (fun _ => true) true 23 v d p) (_hm : (Lit.int .i64 m).wf = true) :
    Calls Try.prog 12 #[.int .i64 base, v, .int .i64 m] w fun e w' => e = .returned (.bool true) ∧ Below w.heap.size w w' := by
  obtain ⟨A, c, l, rfl, hr⟩ := open_spans hv h
  exact gapsLists.core base A c l m w hr
end Go.Proofs.Ytlfapnapkdnldaa

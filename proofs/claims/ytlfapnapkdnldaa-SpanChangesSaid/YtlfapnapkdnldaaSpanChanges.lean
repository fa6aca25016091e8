/-
  SpanChanges: with a span, without one, and what isn't there of one, is as the document says; the set stays.
-/
import Derived.Test.YtlfapnapkdnldaaSpanTwo
import Derived.Test.YtlfapnapkdnldaaRef03b
namespace Go.Proofs.Ytlfapnapkdnldaa
open Go.RowKit Go.ChangeShapes Go.WideShapes Go.ChangeAt

namespace Sp
theorem few_one (x : Int × Int) : few [x] 12 = [few1 x] := rfl
theorem few1_near (x : Int × Int) : near (few1 x) = few1 x := near_id _ (by have := few1_bd x; omega) (by have := few1_bd x; omega) (by have := few1_bd x; omega) (by have := few1_bd x; omega)
theorem mem_itake_succ (N : List Int) (k : Nat) (hk : k < N.length) (n : Int) : n ∈ N.take (k + 1) ↔ n ∈ N.take k ∨ n = N.getD k 0 := by
  rw [itake_succ N k hk, List.mem_append, List.mem_singleton]
end Sp

set_option maxHeartbeats 4000000 in
set_option maxRecDepth 4000 in
theorem spanChanges.core (A : Option Addr) (c : Nat) (l : List (Int × Int)) (x : Int × Int) (w : World) (h : Rd spanE w A c l) :
    Calls Try.prog 6 #[.slice A l.length c, .agg #[.int .i64 x.1, .int .i64 x.2]] w fun e w' => e = .returned (.bool true) ∧ Below w.heap.size w w' := by
  have H := Lib.hid h
  clear h
  obtain ⟨x1, x2⟩ := x
  simp only
  go_enter Try.func6, Try.ntmps6
  go_wp2_with fail
  refine (awake03 _).mono ?_
  rintro e w1 ⟨rfl, f1⟩
  have FW : Hid (Fresh w w1) := ((Touch.refl _ w).alloc _).trans f1 (fun _ _ h => h)
  have BX : Hid (Blk w1 w.heap.size 45 [.int .i64 x1, .int .i64 x2]) := f1.blk (Blk.new w 45 [.int .i64 x1, .int .i64 x2]) (fun h => h)
  replace H := Lib.hid (H.out.touch FW.out (fun _ _ _ h => h))
  clear f1
  simp only
  go_wp2_with fail
  refine (few_any A c l w1 H.out).mono ?_
  rintro e w2 ⟨B, d1, D, f1, N, rfl, MB, MD, hr, hm, hlN⟩
  have RB1 : Hid (Rd spanE w2 B d1 (Sp.few l 12)) := MB.sl.rd
  have RN : Hid (Rd intE w2 D f1 N) := MD.sl.rd
  have SN : Hid (Sl intE w2 D f1 N) := MD.sl
  replace FW := Lib.hid (FW.out.trans MB.fresh (fun _ _ h => h))
  have HF1 := Lib.hid (Sp.few_small l 12)
  have HR1 := Lib.hid (And.intro hr hm)
  have hlF := few_len l
  have BX2 : Hid (Blk w2 w.heap.size 45 [.int .i64 x1, .int .i64 x2]) := MB.fresh.blk BX.out (fun h => h)
  generalize Sp.few l 12 = F at *
  clear MB MD hr hm H BX
  have e0 : w2.cell? ⟨w.heap.size, 0, none⟩ = some (.int .i64 x1) := BX2.out.cell 0
  have e1 : w2.cell? ⟨w.heap.size, 1, none⟩ = some (.int .i64 x2) := BX2.out.cell 1
  simp only
  go_wp2_with fail
  have FA : Hid (Fresh w2 (w2.alloc (.cells #[.int .i64 x1, .int .i64 x2] 45))) := (Touch.refl _ w2).alloc _
  have RX : Hid (Rd spanE (w2.alloc (.cells #[.int .i64 x1, .int .i64 x2] 45)) (some ⟨w2.heap.size, 0, none⟩) 1 [(x1, x2)]) := Sl.rd (Sl.lit spanE w2 _ rfl #[.int .i64 x1, .int .i64 x2] [(x1, x2)] rfl 1 rfl (by decide))
  replace FW := Lib.hid (FW.out.trans FA.out (fun _ _ h => h))
  replace RB1 := Lib.hid (RB1.out.touch FA.out (fun _ _ _ h => h))
  replace RN := Lib.hid (RN.out.touch FA.out (fun _ _ _ h => h))
  replace SN := Lib.hid (SN.out.touch FA.out (fun _ _ h => h))
  clear e0 e1 FA BX2
  generalize w2.alloc (.cells #[.int .i64 x1, .int .i64 x2] 45) = w3 at *
  refine (few_any _ 1 [(x1, x2)] w3 RX.out).mono ?_
  rintro e w4 ⟨B2, d2, D2, f2, M, rfl, MB, MD, hr, hm, hlM⟩
  rw [Sp.few_one] at MB hm ⊢
  have hnear := Sp.few1_near (x1, x2)
  obtain ⟨y, hy⟩ : ∃ y, y = Sp.few1 (x1, x2) := ⟨_, rfl⟩
  rw [← hy] at MB hm hnear ⊢
  have HNE := Lib.hid hnear
  have HWD : Hid (y.2 - y.1 ≤ 1000000) := by have := Sp.few1_bd (x1, x2); rw [← hy] at this; unfold Hid; omega
  have RB2 : Hid (Rd spanE w4 B2 d2 [y]) := MB.sl.rd
  have RM : Hid (Rd intE w4 D2 f2 M) := MD.sl.rd
  have HR2 : Hid (Sp.Rising M ∧ ∀ n, n ∈ M ↔ Sp.In y n) := ⟨hr, fun n => (hm n).trans (mem_one y n)⟩
  replace SN := Lib.hid (SN.out.touch MB.fresh (fun _ _ h => h))
  replace FW := Lib.hid (FW.out.trans MB.fresh (fun _ _ h => h))
  replace RB1 := Lib.hid (RB1.out.touch MB.fresh (fun _ _ _ h => h))
  replace RN := Lib.hid (RN.out.touch MB.fresh (fun _ _ _ h => h))
  clear MB MD hr hm RX hnear hy
  simp only [List.length_cons, List.length_nil, Nat.zero_add]
  go_wp2_with fail
  refine (of_any B d1 F w4 RB1.out (by omega)).mono ?_
  rintro e w5 ⟨C, g1, S, rfl, MC, hof, hlS⟩
  have RS : Hid (Rd spanE w5 C g1 S) := MC.sl.rd
  have HI1 := Lib.hid (Sp.isNums_of hof HF1.out HR1.out.1 HR1.out.2)
  replace FW := Lib.hid (FW.out.trans MC.fresh (fun _ _ h => h))
  replace RB2 := Lib.hid (RB2.out.touch MC.fresh (fun _ _ _ h => h))
  replace RN := Lib.hid (RN.out.touch MC.fresh (fun _ _ _ h => h))
  replace RM := Lib.hid (RM.out.touch MC.fresh (fun _ _ _ h => h))
  replace SN := Lib.hid (SN.out.touch MC.fresh (fun _ _ h => h))
  clear MC hof RB1
  simp only
  go_wp2_with fail
  go_loopw [10, 12, 35] (fun s10 s12 i wr => ∃ (k : Nat) (E : Option Addr) (e : Nat) (P : List Int) (E2 : Option Addr) (e2 : Nat) (G : List Int), k ≤ M.length ∧ i = .int .i64 k ∧ s10 = .slice E P.length e ∧ s12 = .slice E2 G.length e2 ∧ Hid (Sp.Rising P ∧ ∀ n, n ∈ P ↔ n ∈ N ∨ n ∈ M.take k) ∧ Hid (Sl intE wr E e P) ∧ Hid (G = (M.take k).filter fun n => !decide (n ∈ N)) ∧ Hid (Mine intE w5 wr E2 e2 G) ∧ Hid (Apart E E2) ∧ P.length ≤ 480 + k ∧ G.length ≤ k) (fun _ _ i _ => M.length - (intOf i).toNat)
  case atStart => exact ⟨0, D, f1, N, none, 0, [], by omega, rfl, rfl, rfl, ⟨HR1.out.1, fun n => by simp⟩, SN, rfl, Mine.nil _ _, (fun _ _ _ e => nomatch e), by omega, by simp⟩
  case round =>
    clear SN
    obtain ⟨k, E, e, P, E2, e2, G, hkL, rfl, rfl, rfl, HP, SP, HG, HM, HA, hPl, hGl⟩ := hrel
    by_cases hk : k < M.length
    · have hk1 : (k : Int) < (M.length : Int) := by omega
      have hk0 : (0 : Int) ≤ (k : Int) := by omega
      obtain ⟨g, o, rfl, _, c0⟩ := (HM.out.keepsR RM.out).int_at k hk
      have HS := Lib.hid (Sp.itake_succ M k hk)
      have HS2 := Lib.hid (Sp.mem_itake_succ M k hk)
      generalize M.getD k 0 = z at *
      have hPb : P.length ≤ 1000000 := by omega
      go_wp2_with fail
      refine (put03_any E e P z wr SP.out hPb).mono ?_
      rintro e6 w6 ⟨E6, e6', rfl, hs6, hf6, hor⟩
      have SP6 := Lib.hid hs6
      have HM6 := Lib.hid (HM.out.old hf6)
      have HA6 : Hid (Apart E6 E2) := by
        rcases hor with ⟨rfl, _⟩ | h
        · exact HA.out
        · exact fun ad ad' e e' => by
            have := h ad e
            have := HM.out.sl.lt ad' e'
            omega
      have HP6 : Hid (Sp.Rising (Sp.put P z) ∧ ∀ n, n ∈ Sp.put P z ↔ n ∈ N ∨ n ∈ M.take (k + 1)) := ⟨Sp.put_rising _ _ HP.out.1, fun n => by
        rw [Sp.mem_put, HP.out.2, HS2.out]
        constructor
        · rintro (h | h | h)
          · exact .inr (.inr h)
          · exact .inl h
          · exact .inr (.inl h)
        · rintro (h | h | h)
          · exact .inr (.inl h)
          · exact .inr (.inr h)
          · exact .inl h⟩
      have hpl := Sp.put_len P z
      generalize Sp.put P z = P6 at *
      have HH := Lib.hid (has03_any D f1 N z w6 (HM6.out.keepsR RN.out))
      clear hs6 hf6 hor HP SP HM HA c0 HS2
      simp only
      go_wp2_with fail
      by_cases hz : z ∈ N
      · rw [decide_eq_true hz] at HH
        have HG2 : Hid (G = (M.take (k + 1)).filter fun n => !decide (n ∈ N)) := by unfold Hid; rw [HS.out, List.filter_append, ← HG.out]; simp [hz]
        clear hz HG HS
        refine HH.out.mono ?_
        rintro e7 w7 ⟨rfl, rfl⟩
        simp only
        clear HH
        go_wp2
        go_roundw
        case rel => exact ⟨k + 1, E6, _, P6, E2, _, G, by omega, by go_num, rfl, rfl, HP6, SP6, HG2, HM6, HA6, by omega, by omega⟩
        case measure => simp [intOf]; omega
      · rw [decide_eq_false hz] at HH
        have HG2 : Hid (G ++ [z] = (M.take (k + 1)).filter fun n => !decide (n ∈ N)) := by unfold Hid; rw [HS.out, List.filter_append, ← HG.out]; simp [hz]
        clear hz HG HS
        refine HH.out.mono ?_
        rintro e7 w7 ⟨rfl, rfl⟩
        simp only
        go_wp2_with (at_builtin; refine app_int rfl rfl (l := G) (l2 := [z]) rfl rfl (HM6.out.sl.alloc _) (Sl.rd (Sl.lit intE _ _ rfl _ _ rfl _ rfl (by decide))) (by simp; omega) ?_; intro B4 d4 M4 w8 hM4 hs4 ht4 hB4)
        have HM5 := Lib.hid ((HM6.out.alloc (.cells #[.int .i64 z] 3)).app hs4 ht4 hB4)
        have SP8 : Hid (Sl intE w8 E6 e6' P6) := (SP6.out.alloc _).touch ht4 HA6.out.not
        have HA8 : Hid (Apart E6 B4) := HA6.out.app (fun ad e => (SP6.out.alloc (.cells #[.int .i64 z] 3)).lt ad e) hB4
        rw [← hM4.out] at HG2
        have hl4 : M4.length ≤ k + 1 := by rw [hM4.out]; simp; omega
        clear hs4 ht4 hB4 hM4 HM6 HH SP6 HA6
        go_roundw
        case rel => exact ⟨k + 1, E6, e6', P6, B4, d4, M4, by omega, by go_num, rfl, rfl, HP6, SP8, HG2, HM5, HA8, by omega, hl4⟩
        case measure => simp [intOf]; omega
    · have hkk : k = M.length := by omega
      have HP2 : Hid (Sp.Rising P ∧ ∀ n, n ∈ P ↔ n ∈ N ∨ n ∈ M) := by rw [hkk, List.take_length] at HP; exact HP
      have HGF : Hid (G = M.filter fun n => !decide (n ∈ N)) := by unfold Hid; rw [HG.out, hkk, List.take_length]
      have hk' : ¬ ((k : Int) < (M.length : Int)) := by omega
      have FM := Lib.hid HM.out.fresh
      replace FW := Lib.hid (FW.out.trans FM.out (fun _ _ h => h))
      replace RS := Lib.hid (RS.out.touch FM.out (fun _ _ _ h => h))
      replace RB2 := Lib.hid (RB2.out.touch FM.out (fun _ _ _ h => h))
      replace RN := Lib.hid (RN.out.touch FM.out (fun _ _ _ h => h))
      replace RM := Lib.hid (RM.out.touch FM.out (fun _ _ _ h => h))
      have RP : Hid (Rd intE wr E e P) := SP.out.rd
      have RG : Hid (Rd intE wr E2 e2 G) := HM.out.sl.rd
      have hPb : P.length ≤ 65536 := by omega
      have hGb : G.length ≤ 65536 := by omega
      clear hk HP HG HM FM SP HA hkk hPl hGl
      obtain ⟨wb, hwb⟩ : ∃ wb, wb = wr := ⟨_, rfl⟩
      subst hwb
      go_wp2_with fail
      go_loopw [11, 53] (fun s11 i wx => ∃ (j : Nat) (E3 : Option Addr) (e3 : Nat) (L : List Int), j ≤ N.length ∧ i = .int .i64 j ∧ s11 = .slice E3 L.length e3 ∧ Hid (L = (N.take j).filter fun n => !decide (n ∈ M)) ∧ Hid (Mine intE wb wx E3 e3 L) ∧ L.length ≤ j) (fun _ i _ => N.length - (intOf i).toNat)
      case atStart => exact ⟨0, none, 0, [], by omega, rfl, rfl, rfl, Mine.nil _ _, by simp⟩
      case round =>
        obtain ⟨j, E3, e3, L, hjL, rfl, rfl, HL, HM, hLj⟩ := hrel
        by_cases hj : j < N.length
        · have hj1 : (j : Int) < (N.length : Int) := by omega
          have hj0 : (0 : Int) ≤ (j : Int) := by omega
          obtain ⟨g, o, rfl, _, c0⟩ := (HM.out.keepsR RN.out).int_at j hj
          have HS := Lib.hid (Sp.itake_succ N j hj)
          generalize N.getD j 0 = z at *
          have HH := Lib.hid (has03_any D2 f2 M z wr (HM.out.keepsR RM.out))
          go_wp2_with fail
          by_cases hz : z ∈ M
          · rw [decide_eq_true hz] at HH
            have HL2 : Hid (L = (N.take (j + 1)).filter fun n => !decide (n ∈ M)) := by unfold Hid; rw [HS.out, List.filter_append, ← HL.out]; simp [hz]
            clear hz HL HS
            refine HH.out.mono ?_
            rintro e6 w6 ⟨rfl, rfl⟩
            simp only
            clear c0 HH
            go_wp2
            go_roundw
            case rel => exact ⟨j + 1, E3, _, L, by omega, by go_num, rfl, HL2, HM, by omega⟩
            case measure => simp [intOf]; omega
          · rw [decide_eq_false hz] at HH
            have HL2 : Hid (L ++ [z] = (N.take (j + 1)).filter fun n => !decide (n ∈ M)) := by unfold Hid; rw [HS.out, List.filter_append, ← HL.out]; simp [hz]
            clear hz HL HS
            refine HH.out.mono ?_
            rintro e6 w6 ⟨rfl, rfl⟩
            simp only
            go_wp2_with (at_builtin; refine app_int rfl rfl (l := L) (l2 := [z]) rfl rfl (HM.out.sl.alloc _) (Sl.rd (Sl.lit intE _ _ rfl _ _ rfl _ rfl (by decide))) (by simp; omega) ?_; intro B4 d4 M4 w8 hM4 hs4 ht4 hB4)
            have HM5 := Lib.hid ((HM.out.alloc (.cells #[.int .i64 z] 3)).app hs4 ht4 hB4)
            rw [← hM4.out] at HL2
            have hl4 : M4.length ≤ j + 1 := by rw [hM4.out]; simp; omega
            clear hs4 ht4 hB4 hM4 HM c0 HH
            go_roundw
            case rel => exact ⟨j + 1, B4, d4, M4, by omega, by go_num, rfl, HL2, HM5, hl4⟩
            case measure => simp [intOf]; omega
        · have hjj : j = N.length := by omega
          have HLF : Hid (L = N.filter fun n => !decide (n ∈ M)) := by unfold Hid; rw [HL.out, hjj, List.take_length]
          have hj' : ¬ ((j : Int) < (N.length : Int)) := by omega
          have FM := Lib.hid HM.out.fresh
          replace FW := Lib.hid (FW.out.trans FM.out (fun _ _ h => h))
          replace RS := Lib.hid (RS.out.touch FM.out (fun _ _ _ h => h))
          replace RB2 := Lib.hid (RB2.out.touch FM.out (fun _ _ _ h => h))
          replace RN := Lib.hid (RN.out.touch FM.out (fun _ _ _ h => h))
          replace RM := Lib.hid (RM.out.touch FM.out (fun _ _ _ h => h))
          replace RP := Lib.hid (RP.out.touch FM.out (fun _ _ _ h => h))
          replace RG := Lib.hid (RG.out.touch FM.out (fun _ _ _ h => h))
          have RL : Hid (Rd intE wr E3 e3 L) := HM.out.sl.rd
          have hLb : L.length ≤ 65536 := by omega
          clear hj HL HM FM hjj
          have hwid : (Sp.near y).2 - (Sp.near y).1 ≤ 1000000 := by rw [HNE.out]; exact HWD.out
          have hyn : Hid (Sp.near y = y) := HNE
          obtain ⟨u, v⟩ := y
          have HIA : Hid (∀ R, Sp.Good R → (∀ n, Sp.mem R n ↔ Sp.mem S n ∨ Sp.In (Sp.near (u, v)) n) → Sp.IsNums R P) := fun R hg hR => ⟨hg, HP2.out.1, fun n => by rw [HP2.out.2, hR, hyn.out, HI1.out.same, HR2.out.2]⟩
          have HID : Hid (∀ R, Sp.Good R → (∀ n, Sp.mem R n ↔ Sp.mem S n ∧ ¬ Sp.In (Sp.near (u, v)) n) → Sp.IsNums R L) := fun R hg hR => ⟨hg, by rw [HLF.out]; exact HR1.out.1.filter _, fun n => by rw [HLF.out, List.mem_filter, hR, hyn.out, HI1.out.same, ← HR2.out.2]; simp⟩
          have HIG : Hid (∀ R, Sp.Good R → (∀ n, Sp.mem R n ↔ Sp.In (Sp.near (u, v)) n ∧ ¬ Sp.mem S n) → Sp.IsNums R G) := fun R hg hR => ⟨hg, by rw [HGF.out]; exact HR2.out.1.filter _, fun n => by rw [HGF.out, List.mem_filter, hR, hyn.out, ← HI1.out.same, HR2.out.2]; simp⟩
          clear HP2 HLF HGF HNE HWD HR1 HR2 hyn
          obtain ⟨gB, oB, rfl, _, b0, b1⟩ := RB2.out.span_at 0 (by simp)
          simp at b0 b1
          go_wp2_with fail
          refine (add_any C g1 S (u, v) wr RS.out HI1.out.good (by omega)).mono ?_
          rintro e20 w20 ⟨P20, p20, R20, rfl, MR, hgR, hR⟩
          have HI := Lib.hid (HIA.out R20 hgR hR)
          replace FW := Lib.hid (FW.out.trans MR.fresh (fun _ _ h => h))
          replace RS := Lib.hid (RS.out.touch MR.fresh (fun _ _ _ h => h))
          replace RB2 := Lib.hid (RB2.out.touch MR.fresh (fun _ _ _ h => h))
          replace RN := Lib.hid (RN.out.touch MR.fresh (fun _ _ _ h => h))
          replace RP := Lib.hid (RP.out.touch MR.fresh (fun _ _ _ h => h))
          replace RL := Lib.hid (RL.out.touch MR.fresh (fun _ _ _ h => h))
          replace RG := Lib.hid (RG.out.touch MR.fresh (fun _ _ _ h => h))
          have RR : Hid (Rd spanE w20 P20 p20 R20) := MR.sl.rd
          clear MR hgR hR b0 b1
          simp only
          go_wp2_with fail
          refine (is_true P20 p20 R20 _ _ P w20 RR.out RP.out HI.out (by omega)).mono ?_
          rintro e21 w21 ⟨rfl, f21⟩
          replace FW := Lib.hid (FW.out.trans f21 (fun _ _ h => h))
          replace RS := Lib.hid (RS.out.touch f21 (fun _ _ _ h => h))
          replace RB2 := Lib.hid (RB2.out.touch f21 (fun _ _ _ h => h))
          replace RN := Lib.hid (RN.out.touch f21 (fun _ _ _ h => h))
          replace RP := Lib.hid (RP.out.touch f21 (fun _ _ _ h => h))
          replace RL := Lib.hid (RL.out.touch f21 (fun _ _ _ h => h))
          replace RG := Lib.hid (RG.out.touch f21 (fun _ _ _ h => h))
          clear f21 RR HI HIA RP
          obtain ⟨gB', oB', eB, _, b0, b1⟩ := RB2.out.span_at 0 (by simp)
          cases eB
          simp at b0 b1
          simp only
          go_wp2_with fail
          refine (drop_any C g1 S (u, v) w21 RS.out HI1.out.good (by omega)).mono ?_
          rintro e22 w22 ⟨P22, p22, R22, rfl, MR, hgR, hR⟩
          have HI := Lib.hid (HID.out R22 hgR hR)
          replace FW := Lib.hid (FW.out.trans MR.fresh (fun _ _ h => h))
          replace RS := Lib.hid (RS.out.touch MR.fresh (fun _ _ _ h => h))
          replace RB2 := Lib.hid (RB2.out.touch MR.fresh (fun _ _ _ h => h))
          replace RN := Lib.hid (RN.out.touch MR.fresh (fun _ _ _ h => h))
          replace RL := Lib.hid (RL.out.touch MR.fresh (fun _ _ _ h => h))
          replace RG := Lib.hid (RG.out.touch MR.fresh (fun _ _ _ h => h))
          have RR : Hid (Rd spanE w22 P22 p22 R22) := MR.sl.rd
          clear MR hgR hR b0 b1
          simp only
          go_wp2_with fail
          refine (is_true P22 p22 R22 _ _ L w22 RR.out RL.out HI.out (by omega)).mono ?_
          rintro e23 w23 ⟨rfl, f23⟩
          replace FW := Lib.hid (FW.out.trans f23 (fun _ _ h => h))
          replace RS := Lib.hid (RS.out.touch f23 (fun _ _ _ h => h))
          replace RB2 := Lib.hid (RB2.out.touch f23 (fun _ _ _ h => h))
          replace RN := Lib.hid (RN.out.touch f23 (fun _ _ _ h => h))
          replace RL := Lib.hid (RL.out.touch f23 (fun _ _ _ h => h))
          replace RG := Lib.hid (RG.out.touch f23 (fun _ _ _ h => h))
          clear f23 RR HI HID RL
          obtain ⟨gB', oB', eB, _, b0, b1⟩ := RB2.out.span_at 0 (by simp)
          cases eB
          simp at b0 b1
          simp only
          go_wp2_with fail
          refine (gaps_any C g1 S (u, v) w23 RS.out HI1.out.good (by omega) hwid).mono ?_
          rintro e24 w24 ⟨P24, p24, R24, rfl, MR, hgR, hR⟩
          have HI := Lib.hid (HIG.out R24 hgR hR)
          replace FW := Lib.hid (FW.out.trans MR.fresh (fun _ _ h => h))
          replace RS := Lib.hid (RS.out.touch MR.fresh (fun _ _ _ h => h))
          replace RB2 := Lib.hid (RB2.out.touch MR.fresh (fun _ _ _ h => h))
          replace RN := Lib.hid (RN.out.touch MR.fresh (fun _ _ _ h => h))
          replace RG := Lib.hid (RG.out.touch MR.fresh (fun _ _ _ h => h))
          have RR : Hid (Rd spanE w24 P24 p24 R24) := MR.sl.rd
          clear MR hgR hR b0 b1
          simp only
          go_wp2_with fail
          refine (is_true P24 p24 R24 _ _ G w24 RR.out RG.out HI.out (by omega)).mono ?_
          rintro e25 w25 ⟨rfl, f25⟩
          replace FW := Lib.hid (FW.out.trans f25 (fun _ _ h => h))
          replace RS := Lib.hid (RS.out.touch f25 (fun _ _ _ h => h))
          replace RB2 := Lib.hid (RB2.out.touch f25 (fun _ _ _ h => h))
          replace RN := Lib.hid (RN.out.touch f25 (fun _ _ _ h => h))
          replace RG := Lib.hid (RG.out.touch f25 (fun _ _ _ h => h))
          clear f25 RR HI HIG RG
          obtain ⟨gB', oB', eB, _, b0, b1⟩ := RB2.out.span_at 0 (by simp)
          cases eB
          simp at b0 b1
          simp only
          go_wp2_with fail
          refine (is_true C g1 S D f1 N w25 RS.out RN.out HI1.out (by omega)).mono ?_
          rintro e30 w30 ⟨rfl, f30⟩
          replace FW := Lib.hid (FW.out.trans f30 (fun _ _ h => h))
          clear f30 b0 b1
          simp only
          go_wp2
          go_ret
          exact ⟨rfl, FW.out.below (Nat.le_refl _) (fun _ _ h => h)⟩

theorem spanChanges.walk (v v2 : Value) (w : World) {H : Type} {enc : TypeId × Value → H} {base : Nat} {d d2 : DataW H} {p p2 : List MemPlace} (hv : Value.okWide Try.prog w .any base 23 v) (h : DataW.Trod enc Try.prog w 0 (fun _ => true) true 23 v d p) (hv2 : Value.okWide Try.prog w .any base 45 v2) (h2 : DataW.Trod enc Try.prog w 0 (fun _ => true) true 45 v2 d2 p2) :
    Calls Try.prog 6 #[v, v2] w fun e w' => e = .returned (.bool true) ∧ Below w.heap.size w w' := by
  obtain ⟨A, c, l, rfl, hr⟩ := open_spans hv h
  obtain ⟨x, rfl⟩ := open_span hv2 h2
  exact spanChanges.core A c l x w hr
end Go.Proofs.Ytlfapnapkdnldaa

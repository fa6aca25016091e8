/-
  polliwoglaw09: the fixed fact, and GapsMoves: the pairs of a set are moved with its base.
-/
import Derived.Test.YtlfapnapkdnldaaGapC
import Derived.Test.YtlfapnapkdnldaaGapL
import Derived.Test.YtlfapnapkdnldaaSpanOrder
namespace Go.Proofs.Ytlfapnapkdnldaa
open Go.RowKit Go.ChangeShapes Go.WideShapes Go.ChangeAt

namespace Gp
theorem pv_gl (b p q : Int) : pv ((b + p) % 16777216) ((b + q) % 16777216) = pv p q := by
  unfold pv
  rw [show ((b + q) % 16777216 - (b + p) % 16777216) % 16777216 = (q - p) % 16777216 by omega]
theorem gl_getD (b : Int) (s : List (Int × Int)) (i : Nat) (hi : i < 2 * s.length) : (gl b s).getD i 0 = (b + (Sp.flat s).getD i 0) % 16777216 := by
  unfold gl
  have h : i < (Sp.flat s).length := by rw [Sp.flat_len]; exact hi
  simp [List.getD, List.getElem?_eq_getElem h]
theorem gc_gl (b : Int) (s : List (Int × Int)) (k : Nat) (hk : k ≤ s.length) : gc (gl b s) k = gc (Sp.flat s) k := by
  induction k with
  | zero => rfl
  | succ k ih =>
    simp only [gc]
    rw [ih (by omega), gl_getD b s _ (by omega), gl_getD b s _ (by omega), pv_gl]
theorem gl_moves (b m : Int) (s : List (Int × Int)) (i : Nat) (hi : i < 2 * s.length) : ((gl b s).getD i 0 + m) % 16777216 = (gl ((b + m) % 16777216) s).getD i 0 := by
  rw [gl_getD _ _ _ hi, gl_getD _ _ _ hi]
  omega
end Gp

set_option maxHeartbeats 2000000 in
theorem awake09 (w : World) : Calls Try.prog 14 #[] w fun e w' => e = .returned (.bool true) ∧ Fresh w w' := by
  go_enter Try.func14, Try.ntmps14
  go_wp2_with fail
  refine (of_any _ 2 [(0, 2), (5, 6)] _ (Sl.rd (Sl.lit spanE w _ rfl #[.int .i64 0, .int .i64 2, .int .i64 5, .int .i64 6] [(0, 2), (5, 6)] rfl 2 rfl (by decide))) (by decide)).mono ?_
  rintro e w2 ⟨B, d, S, rfl, M2, hof, _⟩
  obtain rfl : S = [(0, 2), (5, 6)] := Sp.Canon.uniq hof.1 ⟨by simp, by simp⟩ (fun n => by
    rw [hof.mem]
    simp only [List.mem_cons, List.not_mem_nil, or_false, exists_eq_or_imp, exists_eq_left, show Sp.near (0, 2) = (0, 2) by decide, show Sp.near (5, 6) = (5, 6) by decide, Sp.In, Sp.mem_cons, Sp.mem_nil])
  have F2 : Hid (Fresh w w2) := ((Touch.refl _ w).alloc _).trans M2.fresh (fun _ _ h => h)
  have HL := Lib.hid (listg_any 16777215 B d _ w2 M2.sl.rd hof.good (by decide))
  clear M2 hof
  simp only
  go_wp2_with fail
  refine HL.out.mono ?_
  rintro e w3 ⟨C, f, T, rfl, M3, hH⟩
  obtain rfl : T = [(0, 2), (5, 6)] := Sp.Canon.uniq hH.1.1 ⟨by simp, by simp⟩ (fun n => by
    rw [hH.2]
    simp only [Sp.mem_cons, Sp.mem_nil, or_false]
    omega)
  have hgl : Gp.gl 16777215 [(0, 2), (5, 6)] = [16777215, 1, 4, 5] := by decide
  rw [hgl] at M3 ⊢
  have F3 := Lib.hid (F2.out.trans M3.fresh (fun _ _ h => h))
  have HC := Lib.hid (count_any C f [16777215, 1, 4, 5] w3 M3.sl.rd (by decide))
  obtain ⟨g, o, rfl, _, c0⟩ := M3.sl.num_at 0 (by decide)
  obtain ⟨g1, o1, e1, _, c1⟩ := M3.sl.num_at 1 (by decide)
  cases e1
  obtain ⟨g1, o1, e1, _, c2⟩ := M3.sl.num_at 2 (by decide)
  cases e1
  obtain ⟨g1, o1, e1, _, c3⟩ := M3.sl.num_at 3 (by decide)
  cases e1
  simp at c0 c1 c2 c3
  clear M3 hH hgl HL
  rw [show Gp.gc [16777215, 1, 4, 5] (([16777215, 1, 4, 5] : List Int).length / 2) = 3 by decide] at HC
  simp only [List.length_cons, List.length_nil] at HC ⊢
  go_wp2_with fail
  refine HC.out.mono ?_
  rintro e w4 ⟨rfl, f4⟩
  have F4 := Lib.hid (F3.out.trans f4 (fun _ _ h => h))
  clear f4 c0 c1 c2 c3
  simp only
  go_wp2
  go_ret
  exact ⟨rfl, F4.out⟩

set_option maxHeartbeats 4000000 in
set_option maxRecDepth 4000 in
theorem gapsMoves.core (base : Int) (A : Option Addr) (c : Nat) (l : List (Int × Int)) (m : Int) (w : World) (h : Rd spanE w A c l) :
    Calls Try.prog 3 #[.int .u32 base, .slice A l.length c, .int .i64 m] w fun e w' => e = .returned (.bool true) ∧ Below w.heap.size w w' := by
  have H := Lib.hid h
  clear h
  go_enter Try.func3, Try.ntmps3
  go_wp2_with fail
  refine (awake09 w).mono ?_
  rintro e w1 ⟨rfl, f1⟩
  have FW : Hid (Fresh w w1) := f1
  replace H := Lib.hid (H.out.touch f1 (fun _ _ _ h => h))
  clear f1
  simp only
  go_wp2_with fail
  refine (few_any A c l w1 H.out).mono ?_
  rintro e w2 ⟨B, d, D, f, N, rfl, MB, MD, hr, hm, hlN⟩
  have RB : Hid (Rd spanE w2 B d (Sp.few l 12)) := MB.sl.rd
  replace FW := Lib.hid (FW.out.trans MB.fresh (fun _ _ h => h))
  have HF := Lib.hid (Sp.few_small l 12)
  have HFB := Lib.hid (Sp.few_bd l 12)
  have hlF := few_len l
  generalize Sp.few l 12 = F at *
  clear MB MD hr hm H hlN
  simp only
  go_wp2_with fail
  refine (of_any B d F w2 RB.out (by omega)).mono ?_
  rintro e w3 ⟨C, g, S, rfl, MC, hof, hlS⟩
  have RS : Hid (Rd spanE w3 C g S) := MC.sl.rd
  have HG := Lib.hid hof.good
  have HSB : Hid (∀ n, Sp.mem S n → -100 ≤ n ∧ n < 100) := fun n hn => HFB.out n ((hof.mem_small HF.out n).1 hn)
  replace FW := Lib.hid (FW.out.trans MC.fresh (fun _ _ h => h))
  clear MC hof RB HF HFB
  simp only
  go_wp2_with fail
  refine (low_any base w3).mono ?_
  rintro e w4 ⟨rfl, rfl⟩
  generalize base % 16777216 = b at *
  simp only
  go_wp2_with fail
  refine (listg_any b C g S w4 RS.out HG.out (by omega)).mono ?_
  rintro e w5 ⟨P, p, T, rfl, MP, hT⟩
  have RP : Hid (Rd numE w5 P p (Gp.gl b T)) := MP.sl.rd
  have HT := Lib.hid hT
  have hTl : T.length ≤ 200 := hT.1.short (fun n hn => HSB.out n ((hT.2 n).1 hn).1)
  replace RS := Lib.hid (RS.out.touch MP.fresh (fun _ _ _ h => h))
  replace FW := Lib.hid (FW.out.trans MP.fresh (fun _ _ h => h))
  clear MP hT
  simp only
  go_wp2_with fail
  refine (sadd_any b m w5).mono ?_
  rintro e w6 ⟨rfl, rfl⟩
  simp only
  go_wp2_with fail
  refine (listg_any _ C g S w6 RS.out HG.out (by omega)).mono ?_
  rintro e w7 ⟨P2, p2, T2, rfl, MP, hT⟩
  obtain rfl : T2 = T := hT.uniq HT.out
  have RP2 : Hid (Rd numE w7 P2 p2 (Gp.gl ((b + m) % 16777216) T2)) := MP.sl.rd
  replace RP := Lib.hid (RP.out.touch MP.fresh (fun _ _ _ h => h))
  replace FW := Lib.hid (FW.out.trans MP.fresh (fun _ _ h => h))
  clear MP hT HT RS HG HSB
  have HMV := Lib.hid (fun i hi => Gp.gl_moves b m T2 i hi)
  have HC1 := Lib.hid (Gp.gc_gl b T2 T2.length (Nat.le_refl _))
  have HC2 := Lib.hid (Gp.gc_gl ((b + m) % 16777216) T2 T2.length (Nat.le_refl _))
  have hL1 := Gp.gl_len b T2
  have hL2 := Gp.gl_len ((b + m) % 16777216) T2
  generalize Gp.gl b T2 = X at *
  generalize Gp.gl ((b + m) % 16777216) T2 = Y at *
  have hXY : (X.length : Int) = (Y.length : Int) := by omega
  have hXl : X.length ≤ 400 := by omega
  have hYX : Hid (Y.length = X.length) := by unfold Hid; omega
  have HCX : Hid (Gp.gc X (X.length / 2) = Gp.gc Y (Y.length / 2)) := by unfold Hid; rw [show X.length / 2 = T2.length by omega, show Y.length / 2 = T2.length by omega, HC1.out, HC2.out]
  rw [← hL1] at HMV
  clear HC1 HC2 hL1 hL2 hTl
  have hxm := RP.out.2.1
  have hxc := RP.out.1
  unfold maxLen at hxm
  simp only
  go_wp2_with fail
  go_loopw [40] (fun i wr => ∃ k : Nat, k ≤ X.length ∧ i = .int .i64 k ∧ Hid (Fresh w7 wr)) (fun i _ => X.length - (intOf i).toNat)
  case atStart => exact ⟨0, by omega, rfl, Touch.refl _ _⟩
  case round =>
    obtain ⟨k, hkX, rfl, HF⟩ := hrel
    by_cases hk : k < X.length
    · have hk1 : (k : Int) < (X.length : Int) := by omega
      have hk2 : (k : Int) < (Y.length : Int) := by omega
      have hk0 : (0 : Int) ≤ (k : Int) := by omega
      obtain ⟨ga, oa, rfl, _, c0⟩ := (RP.out.touch HF.out (fun _ _ _ h => h)).num_at k hk
      obtain ⟨gb, ob, rfl, _, c1⟩ := (RP2.out.touch HF.out (fun _ _ _ h => h)).num_at k (by rw [hYX.out]; exact hk)
      rw [← HMV.out k hk] at c1
      generalize X.getD k 0 = x at *
      go_upto_region 12 with (fail)
      go_quiet ((go_at_call 19; refine Calls.quiet_of_same (sadd_any _ _ _)))
      have HF2 := Lib.hid (HF.out.drewN nq)
      clear c0 c1 HF
      go_wp2
      go_roundw
      case rel => exact ⟨k + 1, hk, by go_num, HF2⟩
      case measure => simp [intOf]; omega
    · have hk' : ¬ ((k : Int) < (X.length : Int)) := by omega
      replace RP := Lib.hid (RP.out.touch HF.out (fun _ _ _ h => h))
      replace RP2 := Lib.hid (RP2.out.touch HF.out (fun _ _ _ h => h))
      replace FW := Lib.hid (FW.out.trans HF.out (fun _ _ h => h))
      have hYl : Y.length ≤ 1000000 := by rw [hYX.out]; omega
      clear hk HF HMV
      go_wp2_with fail
      refine (count_any P p X wr RP.out (by omega)).mono ?_
      rintro e w8 ⟨rfl, f8⟩
      replace FW := Lib.hid (FW.out.trans f8 (fun _ _ h => h))
      replace RP2 := Lib.hid (RP2.out.touch f8 (fun _ _ _ h => h))
      have HCY := Lib.hid (count_any P2 p2 Y w8 RP2.out hYl)
      rw [HCX.out]
      generalize Gp.gc Y (Y.length / 2) = z at *
      clear f8 HCX RP RP2
      simp only
      go_wp2_with fail
      refine HCY.out.mono ?_
      rintro e w9 ⟨rfl, f9⟩
      replace FW := Lib.hid (FW.out.trans f9 (fun _ _ h => h))
      clear f9 HCY
      simp only
      go_wp2
      go_ret
      exact ⟨by simp, FW.out.below (Nat.le_refl _) (fun _ _ h => h)⟩

theorem gapsMoves.walk (base : Int) (v : Value) (m : Int) (w : World) (_h0 : (Lit.int .u32 base).wf = true) {H : Type} {enc : TypeId × Value → H} {b0 : Nat} {d : DataW H} {p : List MemPlace} (hv : Value.okWide Try.prog w .any b0 23 v) (h : DataW.Trod enc Try.prog w 0 (fun _ => true) true 23 v d p) (_hm : (Lit.int .i64 m).wf = true) :
    Calls Try.prog 3 #[.int .u32 base, v, .int .i64 m] w fun e w' => e = .returned (.bool true) ∧ Below w.heap.size w w' := by
  obtain ⟨A, c, l, rfl, hr⟩ := open_spans hv h
  exact gapsMoves.core base A c l m w hr
end Go.Proofs.Ytlfapnapkdnldaa

/-
  GapsEmpty: what has no numbers has no pairs; a single number is a pair; the whole is one.
-/
import Derived.Test.YtlfapnapkdnldaaGapM
import Derived.Test.YtlfapnapkdnldaaGapS
import Derived.Deep.RegionHeld3
namespace Go.Proofs.Ytlfapnapkdnldaa
open Go.RowKit Go.ChangeShapes Go.WideShapes Go.ChangeAt

namespace Gp
theorem of_one {p q : Int} {S : List (Int × Int)} (h : Sp.IsOf [(p, q)] S) (h0 : 0 ≤ p) (h1 : p < q) (h2 : q ≤ 8388609) : S = [(p, q)] := by
  refine Sp.Canon.uniq h.1 ⟨by simpa using h1, by simp⟩ fun n => ?_
  rw [h.mem, Sp.mem_cons]
  simp only [List.mem_cons, List.not_mem_nil, or_false, exists_eq_left, Sp.mem_nil]
  rw [Sp.near_id _ (by simp only; omega) (by simp only; omega) (by simp only; omega) (by simp only; omega)]
  rfl
theorem half_one {p q : Int} {T : List (Int × Int)} (h : Half [(p, q)] T) (h0 : 0 ≤ p) (h1 : p < q) (h2 : q ≤ 8388609) : T = [(p, q)] := by
  refine Sp.Canon.uniq h.1.1 ⟨by simpa using h1, by simp⟩ fun n => ?_
  rw [h.2, Sp.mem_cons]
  simp only [Sp.mem_nil, or_false]
  omega
theorem good_one {p q : Int} (h0 : 0 ≤ p) (h1 : p < q) (h2 : q ≤ 8388609) : Sp.Good [(p, q)] := ⟨⟨by simpa using h1, by simp⟩, by simp; omega⟩
end Gp

theorem fresh_next {w6 wa wb : World} (h : Fresh wa wb) (h0 : Fresh w6 wa) : Fresh w6 wb := h0.trans h (fun _ _ h => h)
theorem listg_nil (b : Int) (w : World) : Calls Try.prog 18 #[.int .u32 b, .slice none 0 0] w fun e w' => ∃ B d, e = .returned (.slice B 0 d) ∧ Fresh w w' := by
  refine (listg_any b none 0 [] w (Rd.nil _ _) Sp.Good.nil (by simp)).mono ?_
  rintro e w' ⟨B, d, T, rfl, M, hH⟩
  obtain rfl : T = [] := hH.1.1.empty fun n hn => Sp.mem_nil n ((hH.2 n).1 hn).1
  exact ⟨B, d, rfl, M.fresh⟩

set_option maxHeartbeats 8000000 in
set_option maxRecDepth 8000 in
theorem gapsEmpty.walk (base n : Int) (w : World) (_h0 : (Lit.int .u32 base).wf = true) (_h1 : (Lit.int .i64 n).wf = true) :
    Calls Try.prog 10 #[.int .u32 base, .int .i64 n] w fun e w' => e = .returned (.bool true) ∧ Below w.heap.size w w' := by
  clear _h0 _h1
  obtain ⟨m, hm⟩ : ∃ m : Int, max 1 (min n 300) = m := ⟨_, rfl⟩
  have hmb : 1 ≤ m ∧ m ≤ 300 := by omega
  have hm1b : 0 ≤ m - 1 ∧ m - 1 < m := by omega
  go_enter Try.func10, Try.ntmps10
  go_wp2_with fail
  refine (awake09 w).mono ?_
  rintro e w1 ⟨rfl, f1⟩
  have FW : Hid (Fresh w w1) := f1
  clear f1
  simp only
  go_wp2_with fail
  refine (low_any base w1).mono ?_
  rintro e w2 ⟨rfl, rfl⟩
  have hbb : 0 ≤ base % 16777216 ∧ base % 16777216 < 16777216 := by omega
  generalize base % 16777216 = b at *
  simp only
  go_wp2_with fail
  have R1 : Hid (Rd spanE (w2.alloc (.cells #[.int .i64 (m - 1), .int .i64 m] 45)) (some ⟨w2.heap.size, 0, none⟩) 1 [(m - 1, m)]) := Sl.rd (Sl.lit spanE w2 _ rfl #[.int .i64 (m - 1), .int .i64 m] [(m - 1, m)] rfl 1 rfl (by decide))
  have F1 : Hid (Fresh w2 (w2.alloc (.cells #[.int .i64 (m - 1), .int .i64 m] 45))) := (Touch.refl _ w2).alloc _
  replace FW := Lib.hid (FW.out.trans F1.out (fun _ _ h => h))
  generalize w2.alloc (.cells #[.int .i64 (m - 1), .int .i64 m] 45) = w3 at *
  clear F1
  refine (of_any _ 1 [(m - 1, m)] w3 R1.out (by simp)).mono ?_
  rintro e w4 ⟨C, g, S, rfl, MC, hof, _⟩
  obtain rfl : S = [(m - 1, m)] := Gp.of_one hof (by omega) (by omega) (by omega)
  have RS : Hid (Rd spanE w4 C g [(m - 1, m)]) := MC.sl.rd
  replace FW := Lib.hid (FW.out.trans MC.fresh (fun _ _ h => h))
  clear MC hof R1
  simp only [List.length_cons, List.length_nil, Nat.zero_add]
  go_wp2_with fail
  refine (listg_any b C g [(m - 1, m)] w4 RS.out (Gp.good_one (by omega) (by omega) (by omega)) (by simp)).mono ?_
  rintro e w5 ⟨P, p, T, rfl, MP, hT⟩
  obtain rfl : T = [(m - 1, m)] := Gp.half_one hT (by omega) (by omega) (by omega)
  rw [Gp.gl_one] at MP ⊢
  have RO : Hid (Rd numE w5 P p [(b + (m - 1)) % 16777216, (b + m) % 16777216]) := MP.sl.rd
  replace FW := Lib.hid (FW.out.trans MP.fresh (fun _ _ h => h))
  clear MP hT RS
  simp only [List.length_cons, List.length_nil, Nat.zero_add, Nat.reduceAdd]
  go_wp2_with fail
  have R2 : Hid (Rd spanE (w5.alloc (.cells #[.int .i64 0, .int .i64 m] 45)) (some ⟨w5.heap.size, 0, none⟩) 1 [(0, m)]) := Sl.rd (Sl.lit spanE w5 _ rfl #[.int .i64 0, .int .i64 m] [(0, m)] rfl 1 rfl (by decide))
  have F2 : Hid (Fresh w5 (w5.alloc (.cells #[.int .i64 0, .int .i64 m] 45))) := (Touch.refl _ w5).alloc _
  replace FW := Lib.hid (FW.out.trans F2.out (fun _ _ h => h))
  replace RO := Lib.hid (RO.out.touch F2.out (fun _ _ _ h => h))
  generalize w5.alloc (.cells #[.int .i64 0, .int .i64 m] 45) = w6 at *
  clear F2
  refine (of_any _ 1 [(0, m)] w6 R2.out (by simp)).mono ?_
  rintro e w7 ⟨C2, g2, S2, rfl, MC, hof, _⟩
  obtain rfl : S2 = [(0, m)] := Gp.of_one hof (by omega) (by omega) (by omega)
  have RS : Hid (Rd spanE w7 C2 g2 [(0, m)]) := MC.sl.rd
  replace FW := Lib.hid (FW.out.trans MC.fresh (fun _ _ h => h))
  replace RO := Lib.hid (RO.out.touch MC.fresh (fun _ _ _ h => h))
  clear MC hof R2
  simp only [List.length_cons, List.length_nil, Nat.zero_add]
  go_wp2_with fail
  refine (listg_any b C2 g2 [(0, m)] w7 RS.out (Gp.good_one (by omega) (by omega) (by omega)) (by simp)).mono ?_
  rintro e w8 ⟨Q, q, T2, rfl, MP, hT⟩
  obtain rfl : T2 = [(0, m)] := Gp.half_one hT (by omega) (by omega) (by omega)
  rw [Gp.gl_one] at MP ⊢
  have RA : Hid (Rd numE w8 Q q [(b + 0) % 16777216, (b + m) % 16777216]) := MP.sl.rd
  replace FW := Lib.hid (FW.out.trans MP.fresh (fun _ _ h => h))
  replace RO := Lib.hid (RO.out.touch MP.fresh (fun _ _ _ h => h))
  clear MP hT RS
  have hats : Hid (Gp.ats b [(b + 0) % 16777216, (b + m) % 16777216] = [0, m]) := by
    unfold Hid Gp.ats
    simp only [List.map_cons, List.map_nil]
    rw [show ((b + 0) % 16777216 - b) % 16777216 = 0 by omega, show ((b + m) % 16777216 - b) % 16777216 = m by omega]
  have hok : Hid (Gp.okSet b ((b + m) % 16777216) [(b + 0) % 16777216, (b + m) % 16777216] = true) := by
    unfold Hid Gp.okSet
    rw [hats.out, show ((b + m) % 16777216 - b) % 16777216 = m by omega]
    simp only [Gp.up, Bool.and_true, List.length_cons, List.length_nil]
    simp
    omega
  have hno : Hid (Gp.okSet b ((b + (m - 1)) % 16777216) [(b + 0) % 16777216, (b + m) % 16777216] = false) := by
    unfold Hid Gp.okSet
    rw [hats.out, show ((b + (m - 1)) % 16777216 - b) % 16777216 = m - 1 by omega]
    simp only [Gp.up, Bool.and_true]
    rw [decide_eq_false (show ¬ m ≤ m - 1 by omega)]
    simp
  have hgc : Hid (Gp.gc [(b + 0) % 16777216, (b + m) % 16777216] ([(b + 0) % 16777216, (b + m) % 16777216].length / 2) = m) := by
    unfold Hid
    have e : ([(b + 0) % 16777216, (b + m) % 16777216] : List Int).length / 2 = 1 := by simp
    rw [e]
    simp only [Gp.gc]
    show (0 : Int) + Gp.pv ((b + 0) % 16777216) ((b + m) % 16777216) = m
    rw [Gp.pv_gl]
    unfold Gp.pv
    rw [show (m - 0) % 16777216 = m by omega, if_pos (by omega)]
    omega
  simp only [List.length_cons, List.length_nil, Nat.zero_add, Nat.reduceAdd]
  go_wp2_with fail
  refine (sadd_any b m w8).mono ?_
  rintro e w9 ⟨rfl, rfl⟩
  simp only
  go_wp2_with fail
  refine (gset_any b ((b + m) % 16777216) Q q _ w9 RA.out (by simp)).mono ?_
  rintro e w10 ⟨h1, _⟩
  obtain ⟨C3, g3, S3, rfl, M3, ho3⟩ := h1 hok.out
  rw [hats.out] at ho3
  obtain rfl : S3 = [(0, m)] := Gp.of_one ho3 (by omega) (by omega) (by omega)
  have R3 : Hid (Rd spanE w10 C3 g3 [(0, m)]) := M3.sl.rd
  replace FW := Lib.hid (FW.out.trans M3.fresh (fun _ _ h => h))
  replace RO := Lib.hid (RO.out.touch M3.fresh (fun _ _ _ h => h))
  replace RA := Lib.hid (RA.out.touch M3.fresh (fun _ _ _ h => h))
  clear M3 ho3 h1
  simp only [List.length_cons, List.length_nil, Nat.zero_add, Nat.reduceAdd]
  go_wp2_with fail
  refine (sadd_any b (m - 1) w10).mono ?_
  rintro e w11 ⟨rfl, rfl⟩
  simp only
  go_wp2_with fail
  refine (gset_any b ((b + (m - 1)) % 16777216) Q q _ w11 RA.out (by simp)).mono ?_
  rintro e w12 ⟨_, h2⟩
  obtain ⟨rfl, f12⟩ := h2 hno.out
  replace FW := Lib.hid (FW.out.trans f12 (fun _ _ h => h))
  replace RO := Lib.hid (RO.out.touch f12 (fun _ _ _ h => h))
  replace RA := Lib.hid (RA.out.touch f12 (fun _ _ _ h => h))
  replace R3 := Lib.hid (R3.out.touch f12 (fun _ _ _ h => h))
  clear f12 h2
  simp only
  go_wp2_with fail
  refine (gset_any b b none 0 [] w12 (Rd.nil _ _) (by simp)).mono ?_
  rintro e w13 ⟨h1, _⟩
  obtain ⟨C5, g5, S5, rfl, M5, ho5⟩ := h1 (by unfold Gp.okSet; rw [Int.sub_self]; rfl)
  obtain rfl : S5 = [] := ho5.1.empty fun n hn => by
    have := (ho5.mem n).1 hn
    simp [Gp.ats, Gp.prs] at this
  have R5 : Hid (Rd spanE w13 C5 g5 []) := M5.sl.rd
  replace FW := Lib.hid (FW.out.trans M5.fresh (fun _ _ h => h))
  replace RO := Lib.hid (RO.out.touch M5.fresh (fun _ _ _ h => h))
  replace RA := Lib.hid (RA.out.touch M5.fresh (fun _ _ _ h => h))
  replace R3 := Lib.hid (R3.out.touch M5.fresh (fun _ _ _ h => h))
  clear M5 ho5 h1 hok hno hats
  have HA1 : Hid (∀ W, Calls Try.prog 19 #[.int .u32 ((b + (m - 1)) % 16777216), .int .i64 1] W fun e w' => e = .returned (.int .u32 ((b + m) % 16777216)) ∧ w' = W) := fun W => by
    have := sadd_any ((b + (m - 1)) % 16777216) 1 W
    rwa [show ((b + (m - 1)) % 16777216 + 1) % 16777216 = (b + m) % 16777216 by omega] at this
  have HA2 : Hid (∀ W, Calls Try.prog 19 #[.int .u32 b, .int .i64 (m - 1)] W fun e w' => e = .returned (.int .u32 ((b + (m - 1)) % 16777216)) ∧ w' = W) := fun W => sadd_any b (m - 1) W
  have HL3 : Hid (∀ W, Fresh w13 W → Calls Try.prog 39 #[.slice C3 1 g3] W fun e w' => e = .returned (.int .i64 m) ∧ Fresh W w') := fun W hf => by
    have := len_any C3 g3 [(0, m)] W (R3.out.touch hf (fun _ _ _ h => h)) (Gp.good_one (by omega) (by omega) (by omega))
    rwa [Sp.nums_one, Sp.run_len, show (((((0 : Int), m).2 - ((0 : Int), m).1).toNat : Nat) : Int) = m by simp only; omega] at this
  have HL5 : Hid (∀ W, Fresh w13 W → Calls Try.prog 39 #[.slice C5 0 g5] W fun e w' => e = .returned (.int .i64 0) ∧ Fresh W w') := fun W hf => len_any C5 g5 [] W (R5.out.touch hf (fun _ _ _ h => h)) Sp.Good.nil
  have HCA : Hid (∀ W, Fresh w13 W → Calls Try.prog 20 #[.slice Q 2 q] W fun e w' => e = .returned (.int .i64 m) ∧ Fresh W w') := fun W hf => by
    have := count_any Q q [(b + 0) % 16777216, (b + m) % 16777216] W (RA.out.touch hf (fun _ _ _ h => h)) (by simp)
    rwa [hgc.out] at this
  clear hgc RA R3 R5
  have hne : Hid (∀ W, Fresh w13 W → ∃ gO oO, P = some ⟨gO, oO, none⟩ ∧ W.cell? ⟨gO, oO, none⟩ = some (.int .u32 ((b + (m - 1)) % 16777216)) ∧ W.cell? ⟨gO, oO + 1, none⟩ = some (.int .u32 ((b + m) % 16777216))) := fun W hf => by
    obtain ⟨gO, oO, e1, _, k0⟩ := (RO.out.touch hf (fun _ _ _ h => h)).num_at 0 (by simp)
    obtain ⟨gO', oO', e2, _, k1⟩ := (RO.out.touch hf (fun _ _ _ h => h)).num_at 1 (by simp)
    rw [e1] at e2
    cases e2
    exact ⟨gO, oO, e1, by simpa using k0, by simpa using k1⟩
  obtain ⟨gO, oO, rfl, b0, b1⟩ := hne.out w13 (Touch.refl _ _)
  have KEEP : Hid (∀ W, Fresh w13 W → W.cell? ⟨gO, oO, none⟩ = some (.int .u32 ((b + (m - 1)) % 16777216)) ∧ W.cell? ⟨gO, oO + 1, none⟩ = some (.int .u32 ((b + m) % 16777216))) := fun W hf => by
    obtain ⟨g', o', e', k0, k1⟩ := hne.out W hf
    cases e'
    exact ⟨k0, k1⟩
  clear hne RO
  generalize (b + (m - 1)) % 16777216 = o0 at *
  generalize (b + m) % 16777216 = o1 at *
  simp only [List.length_nil]
  clear hm hbb hm1b
  have hw : IntKind.i64.wrap (m - 1) = m - 1 := IntWalk.i64_in _ ⟨by omega, by omega⟩
  go_upto_region 10 with (fail)
  go_region_held3 (fun wx => wx.cell? ⟨gO, oO, none⟩ = some (.int .u32 o0) ∧ wx.cell? ⟨gO, oO + 1, none⟩ = some (.int .u32 o1))
    (first
      | exact ⟨b0, b1⟩
      | exact KEEP.out _ ((Touch.refl _ _).drew)
      | exact KEEP.out _ (by assumption)
      | assumption)
    (first
      | (go_simp; go_at_call 18; refine (listg_nil b _).mono ?_; rintro e' w' ⟨B', d', rfl, hfr⟩; have hFN : Fresh w13 _ := fresh_next hfr (by first | assumption | exact (Touch.refl _ _).drew); have hK := KEEP.out _ hFN; clear hfr)
      | (go_simp; go_at_call 19; (first | (with_reducible refine (HA1.out _).mono ?_) | (with_reducible refine (HA2.out _).mono ?_)); rintro e' w' ⟨rfl, rfl⟩)
      | (go_simp; go_at_call 39; (first | (with_reducible refine (HL3.out _ (by first | assumption | exact (Touch.refl _ _).drew)).mono ?_) | (with_reducible refine (HL5.out _ (by first | assumption | exact (Touch.refl _ _).drew)).mono ?_)); rintro e' w' ⟨rfl, hfr⟩; have hFN : Fresh w13 _ := fresh_next hfr (by first | assumption | exact (Touch.refl _ _).drew); have hK := KEEP.out _ hFN; clear hfr)
      | (go_simp; go_at_call 20; refine (HCA.out _ (by first | assumption | exact (Touch.refl _ _).drew)).mono ?_; rintro e' w' ⟨rfl, hfr⟩; have hFN : Fresh w13 _ := fresh_next hfr (by first | assumption | exact (Touch.refl _ _).drew); have hK := KEEP.out _ hFN; clear hfr))
  all_goals
    have F14 := Lib.hid (FW.out.trans hFN (fun _ _ h => h))
    clear hFN hK HA1 HA2 HL3 HL5 HCA KEEP hw
    go_wp2
    go_ret
    exact ⟨by first | rfl | simp, F14.out.below (Nat.le_refl _) (fun _ _ h => h)⟩
end Go.Proofs.Ytlfapnapkdnldaa

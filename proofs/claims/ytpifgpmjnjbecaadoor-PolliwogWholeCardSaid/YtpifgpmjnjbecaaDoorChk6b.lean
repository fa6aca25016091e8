/-
  pdu.Check at any unit: the walk.
-/
import Derived.Test.YtpifgpmjnjbecaaDoorPv6
namespace Go.Proofs.YtpifgpmjnjbecaaDoor
open Go.RowKit

namespace Wh
def bigB (s : Sh) (p : P) : Bool := (decide (s.data < (p.data.size : Int)) && decide (0 < s.data)) || decide (128 < p.l.length)
def badB (s : Sh) (p : P) (b1 b2 b3 : Bool) : Bool := (!b1) || ((!b2) || ((!b3) || (decide (p.sq < 0) || (decide (255 < p.sq) || (!s.sq && p.sq != 0)))))
theorem ckS_b (s : Sh) (p : P) : ckS s p = if s.is then (if bigB s p then 6 else if badB s p (listOk s p) (allOk p) (someOk s p) then 1 else 0) else 10 := by
  unfold ckS bigB badB
  cases s.is
  · simp
  · cases listOk s p <;> cases allOk p <;> cases someOk s p <;> simp
end Wh

set_option maxRecDepth 10000 in
set_option maxHeartbeats 4000000 in
theorem check6_any (p : Wh.P) (A : Option Addr) (c : Nat) (w : World) (hr : Rd numE w A c p.l) (hd : p.data.size ≤ 9223372036854775807) :
    Calls Tryd.prog 9 #[pV p A c] w fun e w' => e = .returned (.int .i64 (Wh.ck p)) ∧ Fresh w w' := by
  have hm := hr.1
  have hm2 := hr.2.1
  unfold maxLen at hm2
  have HSA : Hid (∀ W, Calls Tryd.prog 20 #[.int .i64 p.kind] W fun e w' => e = .returned (shV (Wh.shape p.kind)) ∧ Fresh W w') := fun W => shape6_any p.kind W
  have HCK : Hid (Wh.ck p = Wh.ckS (Wh.shape p.kind) p) := rfl
  have HR := Lib.hid hr
  clear hr
  generalize Wh.ck p = R at *
  generalize Wh.shape p.kind = s at *
  rw [show Wh.ckS s p = _ from Wh.ckS_b s p] at HCK
  obtain ⟨kind, sq, n, ps, mr, l, self, data⟩ := p
  obtain ⟨sd, ssq, sn, sl, sps, smr, sself, sis⟩ := s
  unfold pV
  unfold shV at HSA
  simp only at hm hm2 hd HSA HR HCK ⊢
  have HF : Hid (Fresh w (w.alloc (.cells #[.int .i64 kind, .int .i64 sq, .int .u32 n, .int .u32 ps, .int .u32 mr, .slice A l.length c, .bool self, .string data] 32))) := (Touch.refl _ w).alloc _
  have HB : Hid (Blk (w.alloc (.cells #[.int .i64 kind, .int .i64 sq, .int .u32 n, .int .u32 ps, .int .u32 mr, .slice A l.length c, .bool self, .string data] 32)) w.heap.size 32 [.int .i64 kind, .int .i64 sq, .int .u32 n, .int .u32 ps, .int .u32 mr, .slice A l.length c, .bool self, .string data]) := Blk.new _ _ _
  go_enter Tryd.func9, Tryd.ntmps9
  go_wp2_with fail
  refine (HSA.out _).mono ?_
  rintro e w2 ⟨rfl, f2⟩
  have HF2 : Hid (Fresh w (w2.alloc (.cells #[.int .i64 sd, .bool ssq, .bool sn, .int .i64 sl, .bool sps, .bool smr, .bool sself, .bool sis] 61))) := (HF.out.trans f2 (fun _ _ e => e)).alloc _
  have HB2 : Hid (Blk (w2.alloc (.cells #[.int .i64 sd, .bool ssq, .bool sn, .int .i64 sl, .bool sps, .bool smr, .bool sself, .bool sis] 61)) w.heap.size 32 [.int .i64 kind, .int .i64 sq, .int .u32 n, .int .u32 ps, .int .u32 mr, .slice A l.length c, .bool self, .string data]) := (f2.blk HB.out (fun e => e)).alloc _
  have HS2 : Hid (Blk (w2.alloc (.cells #[.int .i64 sd, .bool ssq, .bool sn, .int .i64 sl, .bool sps, .bool smr, .bool sself, .bool sis] 61)) w2.heap.size 61 [.int .i64 sd, .bool ssq, .bool sn, .int .i64 sl, .bool sps, .bool smr, .bool sself, .bool sis]) := Blk.new _ _ _
  clear f2 HF HB
  go_upto_region 2 with (fail)
  generalize (w2.alloc (.cells #[.int .i64 sd, .bool ssq, .bool sn, .int .i64 sl, .bool sps, .bool smr, .bool sself, .bool sis] 61)) = w3 at *
  generalize w2.heap.size = g2 at *
  have hgw : ∃ g, g = w.heap.size := ⟨_, rfl⟩
  obtain ⟨g, hg⟩ := hgw
  rw [← hg] at HB2 ⊢
  have d1 : w3.cell? ⟨g, 1, none⟩ = some (.int .i64 sq) := HB2.out.cell 1
  have d2 : w3.cell? ⟨g, 2, none⟩ = some (.int .u32 n) := HB2.out.cell 2
  have d3 : w3.cell? ⟨g, 3, none⟩ = some (.int .u32 ps) := HB2.out.cell 3
  have d4 : w3.cell? ⟨g, 4, none⟩ = some (.int .u32 mr) := HB2.out.cell 4
  have d5 : w3.cell? ⟨g, 5, none⟩ = some (.slice A l.length c) := HB2.out.cell 5
  have d6 : w3.cell? ⟨g, 6, none⟩ = some (.bool self) := HB2.out.cell 6
  have d7 : w3.cell? ⟨g, 7, none⟩ = some (.string data) := HB2.out.cell 7
  have s0 : w3.cell? ⟨g2, 0, none⟩ = some (.int .i64 sd) := HS2.out.cell 0
  have s1 : w3.cell? ⟨g2, 1, none⟩ = some (.bool ssq) := HS2.out.cell 1
  have s2 : w3.cell? ⟨g2, 2, none⟩ = some (.bool sn) := HS2.out.cell 2
  have s3 : w3.cell? ⟨g2, 3, none⟩ = some (.int .i64 sl) := HS2.out.cell 3
  have s4 : w3.cell? ⟨g2, 4, none⟩ = some (.bool sps) := HS2.out.cell 4
  have s5 : w3.cell? ⟨g2, 5, none⟩ = some (.bool smr) := HS2.out.cell 5
  have s6 : w3.cell? ⟨g2, 6, none⟩ = some (.bool sself) := HS2.out.cell 6
  have s7 : w3.cell? ⟨g2, 7, none⟩ = some (.bool sis) := HS2.out.cell 7
  have HR3 : Hid (Rd numE w3 A c l) := HR.out.touch HF2.out (fun _ _ _ e => e)
  clear HB2 HS2 HR hg
  cases sis
  · go_wp2
    go_ret
    exact ⟨by rw [HCK.out]; rfl, HF2.out⟩
  go_upto_region 4 with (fail)
  go_cut [29] (fun v wx => ∃ q : Bool, v = .bool q ∧ Hid (q = Wh.bigB ⟨sd, ssq, sn, sl, sps, smr, sself, true⟩ ⟨kind, sq, n, ps, mr, l, self, data⟩) ∧ wx = w3)
  case first => as_aux_lemma =>
    go_wp2
    all_goals
      go_meet
      case rel => exact ⟨_, rfl, by
        unfold Hid Wh.bigB
        simp only
        by_cases a : sd < (data.size : Int) <;> by_cases b : 0 < sd <;> by_cases e : 128 < l.length <;> simp [a, b, e] <;> omega, rfl⟩
  case rest =>
    obtain ⟨q1, rfl, HQ1, rfl⟩ := hcut
    cases q1
    case true =>
      go_wp2
      go_ret
      exact ⟨by rw [HCK.out, ← HQ1.out]; rfl, HF2.out⟩
    case false =>
      go_upto_region 6 with (fail)
      go_cut [4] (fun v wx => ∃ q : Bool, v = .bool q ∧ Hid (q = Wh.listOk ⟨sd, ssq, sn, sl, sps, smr, sself, true⟩ ⟨kind, sq, n, ps, mr, l, self, data⟩) ∧ wx = wc)
      case first => as_aux_lemma =>
        by_cases a : (l.length : Int) = sl
        · have a1 : ((l.length : Int) == sl) = true := by simpa using a
          go_wp2
          go_meet
          case rel => exact ⟨_, rfl, by unfold Hid Wh.listOk; simp [a], rfl⟩
        · have a1 : ((l.length : Int) == sl) = false := by simpa using a
          by_cases b : sl < 0
          · go_wp2
            go_meet
            case rel => exact ⟨_, rfl, by unfold Hid Wh.listOk; simp [a, b], rfl⟩
          · go_wp2
            go_meet
            case rel => exact ⟨_, rfl, by unfold Hid Wh.listOk; simp [a]; omega, rfl⟩
      case rest =>
        obtain ⟨q2, rfl, HQ2, rfl⟩ := hcut
        have HL := Lib.hid low6_any
        have HCN : Hid (Calls Tryd.prog 22 #[.slice A l.length c, .func (.func 23) #[] #[]] wc fun e w' => e = .returned (.bool (l.any fun x => !Wh.low x)) ∧ wc = w') := contains6_any A c l _ HR3.out
        have HAL : Hid (Wh.allOk ⟨kind, sq, n, ps, mr, l, self, data⟩ = (Wh.low n && (Wh.low ps && (Wh.low mr && !(l.any fun x => !Wh.low x))))) := rfl
        go_upto_region 7 with (fail)
        go_cut [5] (fun v wx => ∃ q : Bool, v = .bool q ∧ Hid (q = Wh.allOk ⟨kind, sq, n, ps, mr, l, self, data⟩) ∧ wx = wc)
        case first => as_aux_lemma =>
          generalize (l.any fun x => !Wh.low x) = ba at *
          cases hn : Wh.low n <;> cases hps : Wh.low ps <;> cases hmr : Wh.low mr
          all_goals
            have HN := Lib.hid hn
            have HPS := Lib.hid hps
            have HMR := Lib.hid hmr
            rw [hn, hps, hmr] at HAL
            clear hn hps hmr
            go_wp2_with (first
              | (go_at_call 21; (with_reducible refine (HL.out n _).mono ?_); rintro e w' ⟨rfl, rfl⟩; rw [HN.out])
              | (go_at_call 21; (with_reducible refine (HL.out ps _).mono ?_); rintro e w' ⟨rfl, rfl⟩; rw [HPS.out])
              | (go_at_call 21; (with_reducible refine (HL.out mr _).mono ?_); rintro e w' ⟨rfl, rfl⟩; rw [HMR.out])
              | (go_at_call 22; refine HCN.out.mono ?_; rintro e w' ⟨rfl, rfl⟩))
            go_meet
            case rel => exact ⟨_, rfl, by rw [HAL.out]; rfl, rfl⟩
        case rest =>
          obtain ⟨q3, rfl, HQ3, rfl⟩ := hcut
          have HSO : Hid (Wh.someOk ⟨sd, ssq, sn, sl, sps, smr, sself, true⟩ ⟨kind, sq, n, ps, mr, l, self, data⟩ = ((decide (0 < sd) || data.toList.isEmpty) && ((sn || n == 0) && ((sps || ps == 0) && ((smr || mr == 0) && (sself || !self)))))) := rfl
          obtain ⟨bn, hbn⟩ : ∃ b, (n == 0) = b := ⟨_, rfl⟩
          obtain ⟨bp, hbp⟩ : ∃ b, (ps == 0) = b := ⟨_, rfl⟩
          obtain ⟨bm, hbm⟩ : ∃ b, (mr == 0) = b := ⟨_, rfl⟩
          obtain ⟨be, hbe⟩ : ∃ b, data.toList.isEmpty = b := ⟨_, rfl⟩
          obtain ⟨bs, hbs⟩ : ∃ b, decide (0 < sd) = b := ⟨_, rfl⟩
          rw [hbn, hbp, hbm, hbe, hbs] at HSO
          go_upto_region 8 with (fail)
          go_cut [6] (fun v wx => ∃ q : Bool, v = .bool q ∧ Hid (q = Wh.someOk ⟨sd, ssq, sn, sl, sps, smr, sself, true⟩ ⟨kind, sq, n, ps, mr, l, self, data⟩) ∧ wx = wc)
          case first =>
            cases sn <;> cases sps
            all_goals as_aux_lemma =>
              go_wp2
              all_goals
                go_meet
                case rel => exact ⟨_, rfl, by show _ = _; rw [HSO.out]; simp [*], rfl⟩
          case rest =>
            obtain ⟨q4, rfl, HQ4, rfl⟩ := hcut
            have HRR : Hid (R = if Wh.badB ⟨sd, ssq, sn, sl, sps, smr, sself, true⟩ ⟨kind, sq, n, ps, mr, l, self, data⟩ q2 q3 q4 then 1 else 0) := by
              rw [HCK.out, ← HQ1.out, ← HQ2.out, ← HQ3.out, ← HQ4.out]
              rfl
            clear HCK HQ1 HQ2 HQ3 HQ4 HSO HAL hbn hbp hbm hbe hbs
            as_aux_lemma =>
              cases q2
              · go_wp2
                go_ret
                exact ⟨by rw [HRR.out]; rfl, HF2.out⟩
              cases q3
              · go_wp2
                go_ret
                exact ⟨by rw [HRR.out]; rfl, HF2.out⟩
              cases q4
              · go_wp2
                go_ret
                exact ⟨by rw [HRR.out]; rfl, HF2.out⟩
              by_cases a : sq < 0
              · go_wp2
                go_ret
                exact ⟨by rw [HRR.out]; simp [Wh.badB, a] <;> rfl, HF2.out⟩
              by_cases b : 255 < sq
              · go_wp2
                go_ret
                exact ⟨by rw [HRR.out]; simp [Wh.badB, b] <;> rfl, HF2.out⟩
              cases ssq
              · by_cases e : sq = 0
                · subst e
                  go_wp2
                  go_ret
                  exact ⟨by rw [HRR.out]; simp [Wh.badB] <;> rfl, HF2.out⟩
                · have e1 : (sq != 0) = true := by simpa using e
                  go_wp2
                  go_ret
                  exact ⟨by rw [HRR.out]; simp [Wh.badB, e] <;> rfl, HF2.out⟩
              · have HBB : Hid (Wh.badB ⟨sd, true, sn, sl, sps, smr, sself, true⟩ ⟨kind, sq, n, ps, mr, l, self, data⟩ true true true = false) := by
                  unfold Hid Wh.badB
                  simp <;> omega
                rw [HBB.out] at HRR
                go_wp2
                go_ret
                exact ⟨by rw [HRR.out]; rfl, HF2.out⟩
end Go.Proofs.YtpifgpmjnjbecaaDoor

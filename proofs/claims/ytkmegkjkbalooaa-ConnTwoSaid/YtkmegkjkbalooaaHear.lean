/-
  polliwoglaw14: pair.hear: sixty rounds by turns.
-/
import Derived.Test.YtkmegkjkbalooaaPairM
import Derived.Outline
namespace Go.Proofs.Ytkmegkjkbalooaa
open Go.RowKit Go.Shelf

/-- Who doesn't answer. -/
def skB (ans : List Bool) (n : Nat) : Bool := decide (n < ans.length) && !(ans.getD n false) && decide (n < 8)
theorem skB_late (ans : List Bool) (n : Nat) (h : 8 ≤ n) : skB ans n = false := by unfold skB; rw [show decide (n < 8) = false from decide_eq_false (by omega)]; simp

set_option maxHeartbeats 8000000 in
set_option maxRecDepth 100000 in
theorem hear_any {w : World} {gc g0 g1 ca cb : Nat} {p : Tw.P} {Ax : Option Addr} {cx : Nat} {ans : List Bool} (h : PairI 0 1 w gc g0 g1 ca cb p) (hr : Rd boolE w Ax cx ans)
    (hx : ∀ ad, Ax = some ad → 0 < ans.length → ad.block ≠ g0 ∧ ad.block ≠ g1 ∧ ad.block ≠ ca ∧ ad.block ≠ cb)
    (hlim : ∀ n, n ≤ 60 → Tw.Lim 480 (Tw.runH (skB ans) n p)) (hend : (Tw.runH (skB ans) 60 p).w0 = [] ∧ (Tw.runH (skB ans) 60 p).w1 = []) :
    Calls Try.prog 12 #[.agg #[.slice (some ⟨gc, 0, none⟩) 2 2, .slice (some ⟨g0, 0, none⟩) 2 2, .slice (some ⟨g1, 0, none⟩) 2 2], .slice Ax ans.length cx] w
      fun e w' => e = .returned (.bool true) ∧ PairI 0 1 w' gc g0 g1 ca cb (Tw.runH (skB ans) 60 p) ∧ Touch (fun k => (k = g0 ∨ k = g1) ∨ k = ca ∨ k = cb) w w' := by
  have HLT : Hid (w.heap.size ≤ w.heap.size) := Nat.le_refl _
  have HF : Hid (Fresh w (w.alloc (.cells #[.slice (some ⟨gc, 0, none⟩) 2 2, .slice (some ⟨g0, 0, none⟩) 2 2, .slice (some ⟨g1, 0, none⟩) 2 2] 35))) := (Touch.refl _ w).alloc _
  have HP : Hid (Blk (w.alloc (.cells #[.slice (some ⟨gc, 0, none⟩) 2 2, .slice (some ⟨g0, 0, none⟩) 2 2, .slice (some ⟨g1, 0, none⟩) 2 2] 35)) w.heap.size 35 [.slice (some ⟨gc, 0, none⟩) 2 2, .slice (some ⟨g0, 0, none⟩) 2 2, .slice (some ⟨g1, 0, none⟩) 2 2]) := Blk.new w _ _
  have H := Lib.hid h
  have HR := Lib.hid hr
  have HX := Lib.hid hx
  have HLIM := Lib.hid hlim
  have HEND := Lib.hid hend
  clear h hr hx hlim hend
  go_enter Try.func12, Try.ntmps12
  go_upto_block 0 with (fail)
  generalize (w.alloc (.cells #[.slice (some ⟨gc, 0, none⟩) 2 2, .slice (some ⟨g0, 0, none⟩) 2 2, .slice (some ⟨g1, 0, none⟩) 2 2] 35)) = W at *
  have HBP : Hid (w.heap.size < W.heap.size) := HP.out.lt
  generalize hbp : w.heap.size = bp at HP HBP
  have HBP2 := Lib.hid hbp
  clear hbp
  go_wp2_with fail
  go_loopw [5] (fun n wr => ∃ k : Nat, k ≤ 60 ∧ n = .int .i64 k ∧ Hid (PairI 0 1 wr gc g0 g1 ca cb (Tw.runH (skB ans) k p)) ∧ Hid (Blk wr bp 35 [.slice (some ⟨gc, 0, none⟩) 2 2, .slice (some ⟨g0, 0, none⟩) 2 2, .slice (some ⟨g1, 0, none⟩) 2 2]) ∧ Hid (Touch (fun k => (k = g0 ∨ k = g1) ∨ k = ca ∨ k = cb) w wr)) (fun n _ => (60 - intOf n).toNat)
  case atStart => exact ⟨0, by omega, rfl, H.out.old HF.out, HP, HF.out.mono fun _ _ e => e.elim⟩
  case round =>
    obtain ⟨k, hk, rfl, HI, HPR, HT⟩ := hrel
    clear HF HP H
    by_cases hlt : k < 60
    · have hd : decide ((k : Int) < 60) = true := decide_eq_true (by omega)
      obtain ⟨i, j, ci, cj, q, hi, hi2, hq, hql, hback, hci⟩ := HI.out.turn (HLIM.out k (by omega))
      have HQ := Lib.hid hq
      have HBACK := Lib.hid hback
      have HCI := Lib.hid hci
      have HQL := Lib.hid hql
      have HIJ := Lib.hid hi
      have hql0 : q.t0.length ≤ 480 := hql.2.t0
      clear hq hql hback hci hi
      go_upto_region 5 with (fail)
      rw [HIJ.out]
      obtain ⟨cs1, A1, k1, B1, d1, HB1, HE1, -, hs1, -⟩ := HQ.out.told
      have p2 : wr.cell? ⟨bp, 2, none⟩ = some (.slice (some ⟨g1, 0, none⟩) 2 2) := HPR.out.cell 2
      have t1 : wr.cell? ⟨g1, i, none⟩ = some (.slice A1 q.t0.length k1) := (HB1.cell i).trans HE1
      have HS1 := Lib.hid hs1
      clear hs1 HB1 HE1 HI
      generalize hsk : skB ans k = sk at HBACK
      have HSK := Lib.hid hsk
      clear hsk
      go_wp2_with fail
      go_loopw [27] (fun v wx => ∃ m : Nat, m ≤ q.t0.length ∧ v = .int .i64 m ∧ Hid (PairI i j wx gc g0 g1 ci cj ((q.t0.take m).foldl (Tw.tellS sk) q)) ∧ Hid (Blk wx bp 35 [.slice (some ⟨gc, 0, none⟩) 2 2, .slice (some ⟨g0, 0, none⟩) 2 2, .slice (some ⟨g1, 0, none⟩) 2 2]) ∧ Hid (Touch (fun k => (k = g0 ∨ k = g1) ∨ k = ca ∨ k = cb) w wx) ∧ Hid (Sl sigE wx A1 k1 q.t0) ∧ Hid (Tw.Bnd (8 + 100 * m) (480 + 100 * m) ((q.t0.take m).foldl (Tw.tellS sk) q))) (fun v _ => (q.t0.length - intOf v).toNat)
      case atStart => exact ⟨0, by omega, rfl, by simpa [Hid] using HQ.out, HPR, HT, HS1, by simpa [Hid] using HQL.out.2⟩
      case round =>
        clear HS1 HQ HPR HT p2 t1
        obtain ⟨m, hm, rfl, HQ, HPR, HT, HS1, HBN⟩ := hrel
        by_cases hml : m < q.t0.length
        · have hdm : decide ((m : Int) < (q.t0.length : Int)) = true := decide_eq_true (by omega)
          obtain ⟨gS, oS, rfl, HG, HXS⟩ := HS1.out.at_ m hml
          obtain ⟨sg, hsg⟩ : ∃ sg, q.t0[m] = sg := ⟨_, rfl⟩
          have HSN : Hid ((q.t0.take (m + 1)).foldl (Tw.tellS sk) q = Tw.tellS sk ((q.t0.take m).foldl (Tw.tellS sk) q) sg) := by rw [← hsg]; exact Tw.fold_snoc _ _ _ _ hml
          rw [hsg] at HXS
          clear hsg
          generalize (q.t0.take m).foldl (Tw.tellS sk) q = qm at *
          have x0 : wr.cell? ⟨gS, oS + m * 5, none⟩ = some (.int .i64 sg.kind) := by simpa [sigE, Nat.add_assoc] using HXS 0 _ rfl
          have x1 : wr.cell? ⟨gS, oS + m * 5 + 1, none⟩ = some (.string sg.data) := by simpa [sigE, Nat.add_assoc] using HXS 1 _ rfl
          have x2 : wr.cell? ⟨gS, oS + m * 5 + 2, none⟩ = some (.bool sg.self) := by simpa [sigE, Nat.add_assoc] using HXS 2 _ rfl
          have x3 : wr.cell? ⟨gS, oS + m * 5 + 3, none⟩ = some (.int .u8 sg.code) := by simpa [sigE, Nat.add_assoc] using HXS 3 _ rfl
          have x4 : wr.cell? ⟨gS, oS + m * 5 + 4, none⟩ = some (.int .i64 sg.n) := by simpa [sigE, Nat.add_assoc] using HXS 4 _ rfl
          clear HXS
          go_upto_region 9 with (fail)
          have HFB : Hid (Fresh wr (wr.alloc (.cells #[.int .i64 sg.kind, .string sg.data, .bool sg.self, .int .u8 sg.code, .int .i64 sg.n] 63))) := (Touch.refl _ _).alloc _
          have HBB : Hid (Blk (wr.alloc (.cells #[.int .i64 sg.kind, .string sg.data, .bool sg.self, .int .u8 sg.code, .int .i64 sg.n] 63)) wr.heap.size 63 [.int .i64 sg.kind, .string sg.data, .bool sg.self, .int .u8 sg.code, .int .i64 sg.n]) := Blk.new _ _ _
          clear x0 x1 x2 x3 x4 HG
          generalize wr.alloc (.cells #[.int .i64 sg.kind, .string sg.data, .bool sg.self, .int .u8 sg.code, .int .i64 sg.n] 63) = w3 at *
          have HQ3 := Lib.hid (HQ.out.old HFB.out)
          have HPR3 : Hid (Blk w3 bp 35 [.slice (some ⟨gc, 0, none⟩) 2 2, .slice (some ⟨g0, 0, none⟩) 2 2, .slice (some ⟨g1, 0, none⟩) 2 2]) := HFB.out.blk HPR.out (fun e => e)
          have HT3 : Hid (Touch (fun k => (k = g0 ∨ k = g1) ∨ k = ca ∨ k = cb) w w3) := HT.out.trans HFB.out (fun _ _ e => e.elim)
          have HS3 : Hid (Sl sigE w3 (some ⟨gS, oS, none⟩) k1 q.t0) := HS1.out.touch HFB.out (fun _ _ e => e)
          have y0 : w3.cell? ⟨wr.heap.size, 0, none⟩ = some (.int .i64 sg.kind) := HBB.out.cell 0
          clear HQ HPR HT HS1 HBB HFB
          generalize wr.heap.size = bs at *
          go_upto_block 4 with (fail)
          go_cut [9] (fun v wx => wx = w3 ∧ v = .int .i64 (Tw.want sg.kind))
          case first =>
            clear HQ3 HPR3 HT3 HS3 HSN HBN HSK HBACK HCI HQL
            go_wp2_with fail
            all_goals
              go_meet
              case rel => exact ⟨rfl, by congr 1; unfold Tw.want; simp_all⟩
          case rest =>
            obtain ⟨rfl, rfl⟩ := hcut
            generalize wc = w3 at *
            clear y0
            generalize hwk : Tw.want sg.kind = wk
            have HWK := Lib.hid hwk
            clear hwk
            go_upto_region 16 with (fail)
            go_cut [57] (fun v wx => wx = w3 ∧ ∃ b : Bool, v = .bool b ∧ Hid (b = (decide (wk = 0) || sk)))
            case first =>
              have HRW : Hid (Rd boolE w3 Ax cx ans) := HR.out.touch HT3.out (fun ad e hl h => by obtain ⟨n0, n1, n2, n3⟩ := HX.out ad e hl; rcases h with (h | h) | h | h <;> contradiction)
              have HE : Hid (skB ans k = (decide (k < ans.length) && !(ans.getD k false) && decide (k < 8))) := rfl
              clear HQ3 HPR3 HT3 HS3 HSN HBN HBACK HCI HQL HR HX HLIM HEND
              by_cases e0 : wk = 0
              · subst e0
                have HG : Hid (true = (decide ((0 : Int) = 0) || sk)) := rfl
                clear HSK HE HRW
                go_wp2_with fail
                go_meet
                case rel => exact ⟨rfl, _, rfl, HG⟩
              · have hb0 : (wk == 0) = false := by simpa using e0
                have HG : Hid ((decide (wk = 0) || sk) = (decide (k < ans.length) && !(ans.getD k false) && decide (k < 8))) := by unfold Hid; rw [decide_eq_false e0, Bool.false_or, ← HSK.out, HE.out]
                clear e0 HSK HE
                by_cases hka : k < ans.length
                · obtain ⟨gx, ox, rfl, _, hc⟩ := HRW.out.bool_at k hka
                  have hda : decide (k < ans.length) = true := decide_eq_true hka
                  have HDA := Lib.hid hda
                  generalize hgd : ans.getD k false = an at *
                  cases an
                  · by_cases h8 : k < 8
                    · have hd8 : decide ((k : Int) < 8) = true := decide_eq_true (by omega)
                      have HG2 : Hid (true = (decide (wk = 0) || sk)) := by unfold Hid; rw [HG.out, HDA.out, decide_eq_true h8]; rfl
                      clear HG HDA hgd
                      go_wp2_with fail
                      go_meet
                      case rel => exact ⟨rfl, _, rfl, HG2⟩
                    · have hd8 : decide ((k : Int) < 8) = false := decide_eq_false (by omega)
                      have HG2 : Hid (false = (decide (wk = 0) || sk)) := by unfold Hid; rw [HG.out, HDA.out, decide_eq_false h8]; rfl
                      clear HG HDA hgd
                      go_wp2_with fail
                      go_meet
                      case rel => exact ⟨rfl, _, rfl, HG2⟩
                  · have HG2 : Hid (false = (decide (wk = 0) || sk)) := by unfold Hid; rw [HG.out, HDA.out]; rfl
                    clear HG HDA hgd
                    go_wp2_with fail
                    go_meet
                    case rel => exact ⟨rfl, _, rfl, HG2⟩
                · have hda : decide (k < ans.length) = false := decide_eq_false hka
                  have HG2 : Hid (false = (decide (wk = 0) || sk)) := by unfold Hid; rw [HG.out, hda]; rfl
                  clear HG
                  go_wp2_with fail
                  go_meet
                  case rel => exact ⟨rfl, _, rfl, HG2⟩
            case rest =>
              obtain ⟨rfl, b, rfl, HG⟩ := hcut
              generalize wc = w3 at *
              cases b
              · have HQ4 := HQ3.out
                obtain ⟨cc, HBC, HC0, -⟩ := HQ3.out.conns
                have z0 : w3.cell? ⟨bp, 0, none⟩ = some (.slice (some ⟨gc, 0, none⟩) 2 2) := HPR3.out.cell 0
                have z1 : w3.cell? ⟨gc, i, none⟩ = some (.pointer (some ⟨ci, 0, none⟩)) := (HBC.cell i).trans HC0
                clear HBC HC0 HQ4
                go_wp2_with fail
                refine (crequest_any HQ3.out.s0 HQ3.out.o0 wk ByteArray.empty (by unfold maxLen; decide)).mono ?_
                rw [show (ByteArray.empty) = Cn.no from rfl]
                rintro e w4 ⟨v, rfl, hp⟩
                obtain ⟨E, hE⟩ : ∃ E, Cn.askErr qm.s0 wk Cn.no = E := ⟨_, rfl⟩
                have HE := Lib.hid hE
                rw [hE]
                clear hE
                obtain ⟨C1, e1, C2, e2, rfl, R1, R2, -, -⟩ := hp.res
                have HQ4 := Lib.hid (HQ3.out.called hp)
                have HFW := Lib.hid hp.few
                have HT4 := hp.touch
                have HB4 : Hid (Blk w4 bp 35 [.slice (some ⟨gc, 0, none⟩) 2 2, .slice (some ⟨g0, 0, none⟩) 2 2, .slice (some ⟨g1, 0, none⟩) 2 2]) := HT4.blk HPR3.out (Blk.ne_ HPR3.out HQ3.out.s0 (by decide))
                have HS4 : Hid (Sl sigE w4 (some ⟨gS, oS, none⟩) k1 q.t0) := HS3.out.touch HT4 (HS3.out.blk_ne HQ3.out.s0 (by decide))
                have HTT : Hid (Touch (fun k => (k = g0 ∨ k = g1) ∨ k = ca ∨ k = cb) w w4) := HT3.out.trans HT4 (fun x _ e => .inr (HCI.out x e))
                have HR1 := Lib.hid R1
                have HR2 := Lib.hid R2
                clear hp HT4 R1 R2 z0 z1 HQ3 HPR3 HT3 HS3
                generalize hY : Cn.askS qm.s0 wk Cn.no = Y at *
                have HY := Lib.hid hY
                clear hY
                by_cases e0 : E = 0
                · subst e0
                  have HN : Hid ((q.t0.take (m + 1)).foldl (Tw.tellS sk) q = qm.by_ Y) := by unfold Hid; rw [HSN.out, ← HY.out, ← HWK.out]; exact Tw.tellS_go (by rw [HWK.out]; exact HG.out) (by rw [HWK.out]; exact HE.out)
                  have HFR : Hid (Fresh w4 (w4.alloc (.cells #[.slice C1 Y.2.sigs.length e1, .slice C2 Y.2.units.length e2, .bool Y.2.begins, .bool Y.2.ends, .int .u32 Y.2.ms, .int .i64 Y.2.timer] 41))) := (Touch.refl _ _).alloc _
                  have HBR : Hid (Blk (w4.alloc (.cells #[.slice C1 Y.2.sigs.length e1, .slice C2 Y.2.units.length e2, .bool Y.2.begins, .bool Y.2.ends, .int .u32 Y.2.ms, .int .i64 Y.2.timer] 41)) w4.heap.size 41 [.slice C1 Y.2.sigs.length e1, .slice C2 Y.2.units.length e2, .bool Y.2.begins, .bool Y.2.ends, .int .u32 Y.2.ms, .int .i64 Y.2.timer]) := Blk.new _ _ _
                  go_upto_region 18 with (fail)
                  generalize w4.alloc (.cells #[.slice C1 Y.2.sigs.length e1, .slice C2 Y.2.units.length e2, .bool Y.2.begins, .bool Y.2.ends, .int .u32 Y.2.ms, .int .i64 Y.2.timer] 41) = w5 at *
                  have HQ5 := Lib.hid (HQ4.out.old HFR.out)
                  have HB5 : Hid (Blk w5 bp 35 [.slice (some ⟨gc, 0, none⟩) 2 2, .slice (some ⟨g0, 0, none⟩) 2 2, .slice (some ⟨g1, 0, none⟩) 2 2]) := HFR.out.blk HB4.out (fun e => e)
                  have HT5 : Hid (Touch (fun k => (k = g0 ∨ k = g1) ∨ k = ca ∨ k = cb) w w5) := HTT.out.trans HFR.out (fun _ _ e => e.elim)
                  have HS5 : Hid (Sl sigE w5 (some ⟨gS, oS, none⟩) k1 q.t0) := HS4.out.touch HFR.out (fun _ _ e => e)
                  have HR15 : Hid (Sl sigE w5 C1 e1 Y.2.sigs) := HR1.out.touch HFR.out (fun _ _ e => e)
                  have HR25 : Hid (Sl pduE w5 C2 e2 Y.2.units) := HR2.out.touch HFR.out (fun _ _ e => e)
                  generalize w4.heap.size = br at *
                  have b0 : w5.cell? ⟨bp, 0, none⟩ = some (.slice (some ⟨gc, 0, none⟩) 2 2) := HB5.out.cell 0
                  have b1 : w5.cell? ⟨bp, 1, none⟩ = some (.slice (some ⟨g0, 0, none⟩) 2 2) := HB5.out.cell 1
                  have b2 : w5.cell? ⟨bp, 2, none⟩ = some (.slice (some ⟨g1, 0, none⟩) 2 2) := HB5.out.cell 2
                  have r0 : w5.cell? ⟨br, 0, none⟩ = some (.slice C1 Y.2.sigs.length e1) := HBR.out.cell 0
                  have r1 : w5.cell? ⟨br, 1, none⟩ = some (.slice C2 Y.2.units.length e2) := HBR.out.cell 1
                  have r2 : w5.cell? ⟨br, 2, none⟩ = some (.bool Y.2.begins) := HBR.out.cell 2
                  have r3 : w5.cell? ⟨br, 3, none⟩ = some (.bool Y.2.ends) := HBR.out.cell 3
                  have r4 : w5.cell? ⟨br, 4, none⟩ = some (.int .u32 Y.2.ms) := HBR.out.cell 4
                  have r5 : w5.cell? ⟨br, 5, none⟩ = some (.int .i64 Y.2.timer) := HBR.out.cell 5
                  clear HFR HBR HQ4 HB4 HTT HS4 HR1 HR2 HSN
                  go_wp2_with fail
                  refine (give_any HQ5.out Y.2.begins Y.2.ends Y.2.ms Y.2.timer HR15.out HR25.out (by have h1 := HBN.out.w1; have h2 := HFW.out.2; show qm.w1.length + _ ≤ _; omega) (by have h1 := HBN.out.t0; have h2 := HFW.out.1; show qm.t0.length + _ ≤ _; omega)).mono ?_
                  rintro e w6 ⟨rfl, hq6, ht6⟩
                  have HQ6 : Hid (PairI i j w6 gc g0 g1 ci cj (qm.by_ Y)) := hq6
                  have HB6 : Hid (Blk w6 bp 35 [.slice (some ⟨gc, 0, none⟩) 2 2, .slice (some ⟨g0, 0, none⟩) 2 2, .slice (some ⟨g1, 0, none⟩) 2 2]) := by
                    obtain ⟨ca1, _, _, _, _, hca, _⟩ := HQ5.out.ways
                    obtain ⟨cb1, _, _, _, _, hcb, _⟩ := HQ5.out.told
                    exact ht6.blk HB5.out (fun e => e.elim (Blk.ne_ HB5.out hca (by decide)) (Blk.ne_ HB5.out hcb (by decide)))
                  have HT6 : Hid (Touch (fun k => (k = g0 ∨ k = g1) ∨ k = ca ∨ k = cb) w w6) := HT5.out.trans ht6 (fun _ _ e => .inl e)
                  have HS6 : Hid (Sl sigE w6 (some ⟨gS, oS, none⟩) k1 q.t0) := by
                    obtain ⟨ca1, _, _, _, _, hca, _⟩ := HQ5.out.ways
                    obtain ⟨cb1, _, _, _, _, hcb, _⟩ := HQ5.out.told
                    exact HS5.out.touch ht6 (fun ad ea e => e.elim (HS5.out.blk_ne hca (by decide) ad ea) (HS5.out.blk_ne hcb (by decide) ad ea))
                  have HBN6 : Hid (Tw.Bnd (8 + 100 * (m + 1)) (480 + 100 * (m + 1)) (qm.by_ Y)) := (HBN.out.by_ HFW.out).wide (by omega) (by omega)
                  clear hq6 ht6 HQ5 HB5 HT5 HS5 HR15 HR25 b0 b1 b2 r0 r1 r2 r3 r4 r5 HBN
                  go_wp2
                  go_roundw
                  case rel => exact ⟨m + 1, by omega, by go_num, by rw [HN.out]; exact HQ6, HB6, HT6, HS6, by rw [HN.out]; exact HBN6⟩
                  case measure => simp [intOf]; omega
                · have hb0 : (E == 0) = false := by simpa using e0
                  have HY2 : Hid (Y = (qm.s0, Cn.r0)) := by unfold Hid; rw [← HY.out]; exact Tw.askS_no (by rw [HE.out]; exact e0)
                  have HN : Hid ((q.t0.take (m + 1)).foldl (Tw.tellS sk) q = qm) := by unfold Hid; rw [HSN.out]; exact Tw.tellS_no (by rw [HWK.out]; exact HG.out) (by rw [HWK.out, HE.out]; exact e0)
                  have HFR : Hid (Fresh w4 (w4.alloc (.cells #[.slice C1 Y.2.sigs.length e1, .slice C2 Y.2.units.length e2, .bool Y.2.begins, .bool Y.2.ends, .int .u32 Y.2.ms, .int .i64 Y.2.timer] 41))) := (Touch.refl _ _).alloc _
                  have HQ5 : Hid (PairI i j (w4.alloc (.cells #[.slice C1 Y.2.sigs.length e1, .slice C2 Y.2.units.length e2, .bool Y.2.begins, .bool Y.2.ends, .int .u32 Y.2.ms, .int .i64 Y.2.timer] 41)) gc g0 g1 ci cj qm) := by
                    have e : ({ qm with s0 := Y.1 } : Tw.P) = qm := by rw [HY2.out]
                    exact e ▸ HQ4.out.old HFR.out
                  have HB5 : Hid (Blk (w4.alloc (.cells #[.slice C1 Y.2.sigs.length e1, .slice C2 Y.2.units.length e2, .bool Y.2.begins, .bool Y.2.ends, .int .u32 Y.2.ms, .int .i64 Y.2.timer] 41)) bp 35 [.slice (some ⟨gc, 0, none⟩) 2 2, .slice (some ⟨g0, 0, none⟩) 2 2, .slice (some ⟨g1, 0, none⟩) 2 2]) := HFR.out.blk HB4.out (fun e => e)
                  have HT5 : Hid (Touch (fun k => (k = g0 ∨ k = g1) ∨ k = ca ∨ k = cb) w (w4.alloc (.cells #[.slice C1 Y.2.sigs.length e1, .slice C2 Y.2.units.length e2, .bool Y.2.begins, .bool Y.2.ends, .int .u32 Y.2.ms, .int .i64 Y.2.timer] 41))) := HTT.out.trans HFR.out (fun _ _ e => e.elim)
                  have HS5 : Hid (Sl sigE (w4.alloc (.cells #[.slice C1 Y.2.sigs.length e1, .slice C2 Y.2.units.length e2, .bool Y.2.begins, .bool Y.2.ends, .int .u32 Y.2.ms, .int .i64 Y.2.timer] 41)) (some ⟨gS, oS, none⟩) k1 q.t0) := HS4.out.touch HFR.out (fun _ _ e => e)
                  clear HQ4 HB4 HTT HS4 HR1 HR2 HSN HFR
                  go_wp2_with fail
                  go_roundw
                  case rel => exact ⟨m + 1, by omega, by go_num, by rw [HN.out]; exact HQ5, HB5, HT5, HS5, by rw [HN.out]; exact Lib.hid (HBN.out.wide (by omega) (by omega))⟩
                  case measure => simp [intOf]; omega
              · have HN : Hid ((q.t0.take (m + 1)).foldl (Tw.tellS sk) q = qm) := by unfold Hid; rw [HSN.out]; exact Tw.tellS_skip (by rw [HWK.out]; exact HG.out)
                clear HSN
                go_wp2
                go_roundw
                case rel => exact ⟨m + 1, by omega, by go_num, by rw [HN.out]; exact HQ3, HPR3, HT3, HS3, by rw [HN.out]; exact Lib.hid (HBN.out.wide (by omega) (by omega))⟩
                case measure => simp [intOf]; omega
        · obtain rfl : m = q.t0.length := by omega
          rw [List.take_length] at HQ HBN
          obtain ⟨qm, hqm⟩ : ∃ qm, q.t0.foldl (Tw.tellS sk) q = qm := ⟨_, rfl⟩
          rw [hqm] at HQ HBN
          have HW0 : Hid (qm.w0.length ≤ 8) := by unfold Hid; rw [← hqm, Tw.fold_w0]; exact HQL.out.1
          have HQM : Hid (Tw.mid sk q = qm) := hqm
          clear hqm
          obtain ⟨cs2, A2, k2, B2, d2, hb2, he2, -, hs2, -⟩ := HQ.out.ways
          have p1 : wr.cell? ⟨bp, 1, none⟩ = some (.slice (some ⟨g0, 0, none⟩) 2 2) := HPR.out.cell 1
          have t1 : wr.cell? ⟨g0, i, none⟩ = some (.slice A2 qm.w0.length k2) := (hb2.cell i).trans he2
          have t2 : wr.frozen? ⟨g0, i, none⟩ = false := hb2.frozen i
          have HQ3 := Lib.hid HQ.out.cut
          have HS3 : Hid (Sl pduE (wr.setCell ⟨g0, i, none⟩ (.slice none 0 0)) A2 k2 qm.w0) := hs2.setCell (hs2.blk_ne hb2 (by decide)) _
          have HPR3 : Hid (Blk (wr.setCell ⟨g0, i, none⟩ (.slice none 0 0)) bp 35 [.slice (some ⟨gc, 0, none⟩) 2 2, .slice (some ⟨g0, 0, none⟩) 2 2, .slice (some ⟨g1, 0, none⟩) 2 2]) := HPR.out.far (Blk.ne_ HPR.out hb2 (by decide)) _
          have HT3 : Hid (Touch (fun k => (k = g0 ∨ k = g1) ∨ k = ca ∨ k = cb) w (wr.setCell ⟨g0, i, none⟩ (.slice none 0 0))) := HT.out.st (.inl (.inl rfl))
          have HB3 : Hid (Tw.Bnd (8 + 100 * 480) (480 + 100 * 480) (Tw.cut qm)) := by have := HBN.out.wide (a' := 8 + 100 * 480) (b' := 480 + 100 * 480) (by omega) (by omega); exact ⟨this.w1, this.t0⟩
          clear hb2 he2 hs2 HS1 HPR HT HQ HBN
          go_upto_region 23 with (fail)
          clear p1 t1 t2
          generalize (wr.setCell ⟨g0, i, none⟩ (.slice none 0 0)) = w3 at *
          have hw0 := HW0.out
          go_wp2_with fail
          go_loopw [86] (fun v wx => ∃ m : Nat, m ≤ qm.w0.length ∧ v = .int .i64 m ∧ Hid (PairI i j wx gc g0 g1 ci cj ((qm.w0.take m).foldl Tw.hearU (Tw.cut qm))) ∧ Hid (Blk wx bp 35 [.slice (some ⟨gc, 0, none⟩) 2 2, .slice (some ⟨g0, 0, none⟩) 2 2, .slice (some ⟨g1, 0, none⟩) 2 2]) ∧ Hid (Touch (fun k => (k = g0 ∨ k = g1) ∨ k = ca ∨ k = cb) w wx) ∧ Hid (Sl pduE wx A2 k2 qm.w0) ∧ Hid (Tw.Bnd (48008 + 100 * m) (48480 + 100 * m) ((qm.w0.take m).foldl Tw.hearU (Tw.cut qm)))) (fun v _ => (qm.w0.length - intOf v).toNat)
          case atStart => exact ⟨0, by omega, rfl, by simpa [Hid] using HQ3.out, HPR3, HT3, HS3, by simpa [Hid] using HB3.out⟩
          case round =>
            clear HS3 HQ3 HPR3 HT3 HB3
            obtain ⟨m, hm, rfl, HQ, HPR, HT, HS1, HBN⟩ := hrel
            by_cases hml : m < qm.w0.length
            · have hdm : decide ((m : Int) < (qm.w0.length : Int)) = true := decide_eq_true (by omega)
              obtain ⟨gS, oS, rfl, HG, HXS⟩ := HS1.out.at_ m hml
              obtain ⟨u, hsg⟩ : ∃ u, qm.w0[m] = u := ⟨_, rfl⟩
              have HSN : Hid ((qm.w0.take (m + 1)).foldl Tw.hearU (Tw.cut qm) = Tw.hearU ((qm.w0.take m).foldl Tw.hearU (Tw.cut qm)) u) := by rw [← hsg]; exact Tw.fold_snoc _ _ _ _ hml
              rw [hsg] at HXS
              clear hsg
              generalize (qm.w0.take m).foldl Tw.hearU (Tw.cut qm) = qn at *
              have x0 : wr.cell? ⟨gS, oS + m * 8, none⟩ = some (.int .i64 u.kind) := by simpa [pduE, Nat.add_assoc] using HXS 0 _ rfl
              have x1 : wr.cell? ⟨gS, oS + m * 8 + 1, none⟩ = some (.int .i64 u.sq) := by simpa [pduE, Nat.add_assoc] using HXS 1 _ rfl
              have x2 : wr.cell? ⟨gS, oS + m * 8 + 2, none⟩ = some (.int .u32 u.n) := by simpa [pduE, Nat.add_assoc] using HXS 2 _ rfl
              have x3 : wr.cell? ⟨gS, oS + m * 8 + 3, none⟩ = some (.int .u32 u.ps) := by simpa [pduE, Nat.add_assoc] using HXS 3 _ rfl
              have x4 : wr.cell? ⟨gS, oS + m * 8 + 4, none⟩ = some (.int .u32 u.mr) := by simpa [pduE, Nat.add_assoc] using HXS 4 _ rfl
              have x5 : wr.cell? ⟨gS, oS + m * 8 + 5, none⟩ = some (.slice u.lA u.ln u.lc) := by simpa [pduE, Nat.add_assoc] using HXS 5 _ rfl
              have x6 : wr.cell? ⟨gS, oS + m * 8 + 6, none⟩ = some (.bool u.self) := by simpa [pduE, Nat.add_assoc] using HXS 6 _ rfl
              have x7 : wr.cell? ⟨gS, oS + m * 8 + 7, none⟩ = some (.string u.data) := by simpa [pduE, Nat.add_assoc] using HXS 7 _ rfl
              clear HXS
              go_upto_region 26 with (fail)
              have HFB : Hid (Fresh wr (wr.alloc (.cells #[.int .i64 u.kind, .int .i64 u.sq, .int .u32 u.n, .int .u32 u.ps, .int .u32 u.mr, .slice u.lA u.ln u.lc, .bool u.self, .string u.data] 54))) := (Touch.refl _ _).alloc _
              have HBB : Hid (Blk (wr.alloc (.cells #[.int .i64 u.kind, .int .i64 u.sq, .int .u32 u.n, .int .u32 u.ps, .int .u32 u.mr, .slice u.lA u.ln u.lc, .bool u.self, .string u.data] 54)) wr.heap.size 54 [.int .i64 u.kind, .int .i64 u.sq, .int .u32 u.n, .int .u32 u.ps, .int .u32 u.mr, .slice u.lA u.ln u.lc, .bool u.self, .string u.data]) := Blk.new _ _ _
              clear x0 x1 x2 x3 x4 x5 x6 x7 HG
              generalize wr.alloc (.cells #[.int .i64 u.kind, .int .i64 u.sq, .int .u32 u.n, .int .u32 u.ps, .int .u32 u.mr, .slice u.lA u.ln u.lc, .bool u.self, .string u.data] 54) = w3 at *
              have HQ3 := Lib.hid (HQ.out.old HFB.out)
              have HPR3 : Hid (Blk w3 bp 35 [.slice (some ⟨gc, 0, none⟩) 2 2, .slice (some ⟨g0, 0, none⟩) 2 2, .slice (some ⟨g1, 0, none⟩) 2 2]) := HFB.out.blk HPR.out (fun e => e)
              have HT3 : Hid (Touch (fun k => (k = g0 ∨ k = g1) ∨ k = ca ∨ k = cb) w w3) := HT.out.trans HFB.out (fun _ _ e => e.elim)
              have HS3 : Hid (Sl pduE w3 (some ⟨gS, oS, none⟩) k2 qm.w0) := HS1.out.touch HFB.out (fun _ _ e => e)
              clear HQ HPR HT HS1 HFB
              generalize wr.heap.size = bs at *
              have HNE : Hid (∀ x t cs, Blk w3 x t cs → 68 ≠ t → 39 ≠ t → 38 ≠ t → ¬ ((x = g0 ∨ x = g1) ∨ x = ci)) := by
                obtain ⟨_, _, _, _, _, hca, _⟩ := HQ3.out.ways
                obtain ⟨_, _, _, _, _, hcb, _⟩ := HQ3.out.told
                intro x t cs hb n1 n2 n3 e
                rcases e with (e | e) | e
                · exact Blk.ne_ hb hca n2.symm e
                · exact Blk.ne_ hb hcb n3.symm e
                · exact Blk.ne_ hb HQ3.out.s0 n1.symm e
              have HPK : Hid (∀ wx, Touch (fun x => (x = g0 ∨ x = g1) ∨ x = ci) w3 wx → Blk wx bp 35 [.slice (some ⟨gc, 0, none⟩) 2 2, .slice (some ⟨g0, 0, none⟩) 2 2, .slice (some ⟨g1, 0, none⟩) 2 2]) := fun wx ht => ht.blk HPR3.out (HNE.out _ _ _ HPR3.out (by decide) (by decide) (by decide))
              have HSK3 : Hid (∀ wx, Touch (fun x => (x = g0 ∨ x = g1) ∨ x = ci) w3 wx → Sl pduE wx (some ⟨gS, oS, none⟩) k2 qm.w0) := fun wx ht => HS3.out.touch ht (fun ad ea => by
                obtain ⟨_, _, _, _, _, hca, _⟩ := HQ3.out.ways
                obtain ⟨_, _, _, _, _, hcb, _⟩ := HQ3.out.told
                exact fun e => by
                  rcases e with (e | e) | e
                  · exact HS3.out.blk_ne hca (by decide) ad ea e
                  · exact HS3.out.blk_ne hcb (by decide) ad ea e
                  · exact HS3.out.blk_ne HQ3.out.s0 (by decide) ad ea e)
              have HKEEP : Hid (∀ wx, Touch (fun x => (x = g0 ∨ x = g1) ∨ x = ci) w3 wx → wx.cell? ⟨bp, 0, none⟩ = some (.slice (some ⟨gc, 0, none⟩) 2 2) ∧ wx.cell? ⟨bp, 1, none⟩ = some (.slice (some ⟨g0, 0, none⟩) 2 2) ∧ wx.cell? ⟨bp, 2, none⟩ = some (.slice (some ⟨g1, 0, none⟩) 2 2) ∧ wx.cell? ⟨gc, i, none⟩ = some (.pointer (some ⟨ci, 0, none⟩)) ∧ wx.cell? ⟨bs, 0, none⟩ = some (.int .i64 u.kind) ∧ wx.cell? ⟨bs, 1, none⟩ = some (.int .i64 u.sq) ∧ wx.cell? ⟨bs, 2, none⟩ = some (.int .u32 u.n) ∧ wx.cell? ⟨bs, 3, none⟩ = some (.int .u32 u.ps) ∧ wx.cell? ⟨bs, 4, none⟩ = some (.int .u32 u.mr) ∧ wx.cell? ⟨bs, 5, none⟩ = some (.slice u.lA u.ln u.lc) ∧ wx.cell? ⟨bs, 6, none⟩ = some (.bool u.self) ∧ wx.cell? ⟨bs, 7, none⟩ = some (.string u.data)) := by
                intro wx ht
                have hb1 := HPK.out wx ht
                have hb2 := ht.blk HBB.out (HNE.out _ _ _ HBB.out (by decide) (by decide) (by decide))
                obtain ⟨cc, hcc, hc0, -⟩ := HQ3.out.conns
                have hb3 := ht.blk hcc (HNE.out _ _ _ hcc (by decide) (by decide) (by decide))
                exact ⟨hb1.cell 0, hb1.cell 1, hb1.cell 2, (hb3.cell i).trans hc0, hb2.cell 0, hb2.cell 1, hb2.cell 2, hb2.cell 3, hb2.cell 4, hb2.cell 5, hb2.cell 6, hb2.cell 7⟩
              have HRC : Hid (∀ wx, Fresh w3 wx → Calls Try.prog 15 #[.pointer (some ⟨ci, 0, none⟩), .agg #[.int .i64 u.kind, .int .i64 u.sq, .int .u32 u.n, .int .u32 u.ps, .int .u32 u.mr, .slice u.lA u.ln u.lc, .bool u.self, .string u.data]] wx fun e w' => ∃ v, e = .returned v ∧ ConnPost w3 ci (Cn.hearS qn.s0 u) v w') := fun wx ht => (creceive_any (HQ3.out.old ht).s0 (HQ3.out.old ht).o0 u).mono (fun e w' ⟨v, h1, h2⟩ => ⟨v, h1, h2.back ht (Blk.lt HQ3.out.s0)⟩)
              generalize hY : Cn.hearS qn.s0 u = Y at *
              have HY := Lib.hid hY
              clear hY HBB HNE
              have hii0 : (0 : Int) ≤ (i : Int) := by omega
              have hii1 : (i : Int) < 2 := by omega
              go_region_held3 (fun wx => wx.cell? ⟨bp, 0, none⟩ = some (.slice (some ⟨gc, 0, none⟩) 2 2) ∧ wx.cell? ⟨bp, 1, none⟩ = some (.slice (some ⟨g0, 0, none⟩) 2 2) ∧ wx.cell? ⟨bp, 2, none⟩ = some (.slice (some ⟨g1, 0, none⟩) 2 2) ∧ wx.cell? ⟨gc, i, none⟩ = some (.pointer (some ⟨ci, 0, none⟩)) ∧ wx.cell? ⟨bs, 0, none⟩ = some (.int .i64 u.kind) ∧ wx.cell? ⟨bs, 1, none⟩ = some (.int .i64 u.sq) ∧ wx.cell? ⟨bs, 2, none⟩ = some (.int .u32 u.n) ∧ wx.cell? ⟨bs, 3, none⟩ = some (.int .u32 u.ps) ∧ wx.cell? ⟨bs, 4, none⟩ = some (.int .u32 u.mr) ∧ wx.cell? ⟨bs, 5, none⟩ = some (.slice u.lA u.ln u.lc) ∧ wx.cell? ⟨bs, 6, none⟩ = some (.bool u.self) ∧ wx.cell? ⟨bs, 7, none⟩ = some (.string u.data))
                (first | exact HKEEP.out _ HT6.out | exact HKEEP.out _ HT4.out | exact HKEEP.out _ (Touch.refl _ _) | exact HKEEP.out _ (Touch.refl _ _).drew)
                (first
                  | (go_simp; go_at_call 15; with_reducible refine (HRC.out _ (by first | exact Touch.refl _ _ | exact (Touch.refl _ _).drew)).mono ?_; rintro e w4 ⟨v, rfl, hp⟩
                     have HP4 := Lib.hid hp
                     have HT4 : Hid (Touch (fun x => (x = g0 ∨ x = g1) ∨ x = ci) w3 w4) := hp.touch.mono (fun x _ e => .inr e)
                     obtain ⟨C1, e1, C2, e2, rfl, R1, R2, -, -⟩ := hp.res
                     have HR1 := Lib.hid R1
                     have HR2 := Lib.hid R2
                     have HQ4 := Lib.hid (HQ3.out.called hp)
                     clear hp R1 R2)
                  | (go_simp; go_at_call 9; with_reducible refine (give_any HQ4.out Y.2.begins Y.2.ends Y.2.ms Y.2.timer HR1.out HR2.out (by have h1 := HBN.out.w1; have h2 := Tw.few_u HP4.out.few; show qn.w1.length + _ ≤ _; omega) (by have h1 := HBN.out.t0; have h2 := Tw.few_s HP4.out.few; show qn.t0.length + _ ≤ _; omega)).mono ?_; rintro e w6 ⟨rfl, hq6, ht6⟩
                     have HT6 : Hid (Touch (fun x => (x = g0 ∨ x = g1) ∨ x = ci) w3 w6) := HT4.out.trans ht6 (fun x _ e => .inl e)
                     have HQ6 : Hid (PairI i j w6 gc g0 g1 ci cj (qn.by_ Y)) := hq6
                     clear hq6 ht6))
              all_goals
                have HN : Hid ((qm.w0.take (m + 1)).foldl Tw.hearU (Tw.cut qm) = qn.by_ Y) := by unfold Hid; rw [HSN.out, ← HY.out]; rfl
                have HB6 := Lib.hid (HPK.out _ HT6.out)
                have HS6 := Lib.hid (HSK3.out _ HT6.out)
                have HTT : Hid (Touch (fun k => (k = g0 ∨ k = g1) ∨ k = ca ∨ k = cb) w w6) := HT3.out.trans HT6.out (fun x _ e => e.elim .inl (fun e => .inr (HCI.out x e)))
                have HBN6 : Hid (Tw.Bnd (48008 + 100 * (m + 1)) (48480 + 100 * (m + 1)) (qn.by_ Y)) := (HBN.out.by_ HP4.out.few).wide (by omega) (by omega)
                go_wp2
                go_roundw
                case rel => exact ⟨m + 1, by omega, by go_num, by rw [HN.out]; exact HQ6, HB6, HTT, HS6, by rw [HN.out]; exact HBN6⟩
                case measure => simp [intOf]; omega
            · obtain rfl : m = qm.w0.length := by omega
              rw [List.take_length] at HQ HBN
              have HN := Lib.hid (HBACK.out wr (by unfold Tw.rnd; rw [HQM.out]; exact HQ.out))
              clear HBN HQ
              go_wp2
              go_roundw
              case rel => exact ⟨k + 1, by omega, by go_num, HN, HPR, HT⟩
              case measure => simp [intOf]; omega
    · obtain rfl : k = 60 := by omega
      obtain ⟨cs2, A2, k2, B2, d2, hb2, he2, he3, -, -⟩ := HI.out.ways
      have p1 : wr.cell? ⟨bp, 1, none⟩ = some (.slice (some ⟨g0, 0, none⟩) 2 2) := HPR.out.cell 1
      have t0 : wr.cell? ⟨g0, 0, none⟩ = some (.slice A2 0 k2) := by rw [hb2.cell 0, he2, HEND.out.1]; rfl
      have t1 : wr.cell? ⟨g0, 1, none⟩ = some (.slice B2 0 d2) := by rw [hb2.cell 1, he3, HEND.out.2]; rfl
      clear hb2 he2 he3
      go_upto_region 28 with (fail)
      go_quiet (fail)
      go_wp2
      go_ret
      exact ⟨rfl, HI.out.old ((Touch.refl _ _).drewN _), HT.out.drewN _⟩
end Go.Proofs.Ytkmegkjkbalooaa

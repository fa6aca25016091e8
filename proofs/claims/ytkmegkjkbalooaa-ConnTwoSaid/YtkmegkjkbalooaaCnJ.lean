/-
  conn: Request.
-/
import Derived.Test.YtkmegkjkbalooaaCnI
import Derived.Shelf.Abstract
namespace Go.Proofs.Ytkmegkjkbalooaa
open Go.RowKit Go.Shelf

set_option maxHeartbeats 4000000 in
theorem crequest_any {w : World} {c : Nat} {s : Cn.S} (h : ConnAt w c s) (ho : Cn.Ok s) (kind : Int) (d : ByteArray) (hd : d.size ≤ maxLen) :
    Calls Try.prog 11 #[.pointer (some ⟨c, 0, none⟩), .int .i64 kind, .string d] w fun e w' => ∃ v, e = .returned (.tuple #[v, .int .i64 (Cn.askErr s kind d)]) ∧ ConnPost w c (Cn.askS s kind d) v w' := by
  have HC := Lib.hid h
  have HO := Lib.hid ho
  have HLT : Hid (c < w.heap.size) := Blk.lt h
  have HS2 : Hid (∀ W, Fresh w W → W.cell? ⟨c, 2, none⟩ = some (.int .i64 s.state)) := fun W hf => Blk.cell (hf.blk h (fun e => e)) 2
  unfold maxLen at hd
  clear h ho
  have HF : Hid (Fresh w (((w.alloc (.cells #[.int .i64 kind] 3)).alloc (.cells #[.string d] 9)).alloc (.cells #[.slice none 0 0, .slice none 0 0, .bool false, .bool false, .int .u32 0, .int .i64 0] 41))) := (((Touch.refl _ w).alloc _).alloc _).alloc _
  have HR : Hid (Blk (((w.alloc (.cells #[.int .i64 kind] 3)).alloc (.cells #[.string d] 9)).alloc (.cells #[.slice none 0 0, .slice none 0 0, .bool false, .bool false, .int .u32 0, .int .i64 0] 41)) (w.heap.size + 1 + 1) 41 [.slice none 0 0, .slice none 0 0, .bool false, .bool false, .int .u32 0, .int .i64 0]) := by
    have := Blk.new ((w.alloc (.cells #[.int .i64 kind] 3)).alloc (.cells #[.string d] 9)) 41 [.slice none 0 0, .slice none 0 0, .bool false, .bool false, .int .u32 0, .int .i64 0]
    rwa [show ((w.alloc (.cells #[.int .i64 kind] 3)).alloc (.cells #[.string d] 9)).heap.size = w.heap.size + 1 + 1 by simp] at this
  have HBC : Hid (Blk (((w.alloc (.cells #[.int .i64 kind] 3)).alloc (.cells #[.string d] 9)).alloc (.cells #[.slice none 0 0, .slice none 0 0, .bool false, .bool false, .int .u32 0, .int .i64 0] 41)) w.heap.size 3 [.int .i64 kind]) := ((Blk.new w _ _).alloc _).alloc _
  have HBP : Hid (Blk (((w.alloc (.cells #[.int .i64 kind] 3)).alloc (.cells #[.string d] 9)).alloc (.cells #[.slice none 0 0, .slice none 0 0, .bool false, .bool false, .int .u32 0, .int .i64 0] 41)) (w.heap.size + 1) 9 [.string d]) := by
    have := (Blk.new (w.alloc (.cells #[.int .i64 kind] 3)) 9 [.string d]).alloc (.cells #[.slice none 0 0, .slice none 0 0, .bool false, .bool false, .int .u32 0, .int .i64 0] 41)
    rwa [show (w.alloc (.cells #[.int .i64 kind] 3)).heap.size = w.heap.size + 1 by simp] at this
  have HGG : Hid (w.heap.size ≤ w.heap.size + 1 + 1) := by unfold Hid; omega
  have HGW : Hid (w.heap.size + 1 + 1 < (((w.alloc (.cells #[.int .i64 kind] 3)).alloc (.cells #[.string d] 9)).alloc (.cells #[.slice none 0 0, .slice none 0 0, .bool false, .bool false, .int .u32 0, .int .i64 0] 41)).heap.size) := by simp [Hid]
  by_cases hk : kind < 1 ∨ 6 < kind
  · have HE : Hid (Cn.askErr s kind d = 10) := by unfold Hid Cn.askErr; rw [if_pos hk]
    have HE2 : Hid (Cn.askS s kind d = (s, Cn.r0)) := by unfold Hid Cn.askS; rw [HE.out, if_neg (by decide)]
    rw [HE.out, HE2.out]
    have HX := Lib.hid (ConnPost.none HC.out HO.out HF.out)
    clear HR HBC HBP
    by_cases h1 : kind < 1
    · have hb1 : decide (kind < 1) = true := decide_eq_true h1
      go_enter Try.func11, Try.ntmps11
      go_wp2
      exact bodyPost_ret (v := _) (by simp [results, Try.results11, go_sem]) rfl ⟨_, rfl, HX.out⟩
    · have h2 : 6 < kind := by omega
      have hb1 : decide (kind < 1) = false := decide_eq_false h1
      have hb2 : decide (6 < kind) = true := decide_eq_true h2
      go_enter Try.func11, Try.ntmps11
      go_wp2
      exact bodyPost_ret (v := _) (by simp [results, Try.results11, go_sem]) rfl ⟨_, rfl, HX.out⟩
  · have HN : Hid (¬ (kind < 1 ∨ 6 < kind)) := hk
    have hb1 : decide (kind < 1) = false := decide_eq_false (by omega)
    have hb2 : decide (6 < kind) = false := decide_eq_false (by omega)
    cases hbig : Cn.bigAsk kind d with
    | true =>
      have HE : Hid (Cn.askErr s kind d = 6) := by unfold Hid Cn.askErr; rw [if_neg hk, hbig]; rfl
      have HE2 : Hid (Cn.askS s kind d = (s, Cn.r0)) := by unfold Hid Cn.askS; rw [HE.out, if_neg (by decide)]
      rw [HE.out, HE2.out]
      have HX := Lib.hid (ConnPost.none HC.out HO.out HF.out)
      clear HR HBC HBP
      have h64 : decide (64 < (d.size : Int)) = true := by unfold Cn.bigAsk at hbig; simp only [Bool.and_eq_true] at hbig; exact hbig.1
      have hkk : kind = 1 ∨ kind = 3 ∨ kind = 4 := by unfold Cn.bigAsk at hbig; simp at hbig; omega
      clear hbig hk
      rcases hkk with e | e | e <;> subst e
      all_goals
        clear HE HE2 HN
        go_enter Try.func11, Try.ntmps11
        go_wp2
        exact bodyPost_ret (v := _) (by simp [results, Try.results11, go_sem]) rfl ⟨_, rfl, HX.out⟩
    | false =>
      have hcase : decide (64 < (d.size : Int)) = false ∨ (decide (64 < (d.size : Int)) = true ∧ (kind == 1) = false ∧ (kind == 3) = false ∧ (kind == 4) = false) := by
        unfold Cn.bigAsk at hbig
        cases e1 : decide (64 < (d.size : Int)) with
        | false => exact .inl rfl
        | true =>
          rw [e1] at hbig
          simp only [Bool.true_and, Bool.or_eq_false_iff] at hbig
          exact .inr ⟨rfl, hbig.1.1, hbig.1.2, hbig.2⟩
      obtain ⟨q, hq⟩ : ∃ q, Ru.may s.state kind = q := ⟨_, rfl⟩
      have HMAY : Hid (∀ W, Calls Try.prog 24 #[.int .i64 s.state, .int .i64 kind] W fun e w' => e = .returned (.bool q) ∧ Fresh W w') := fun W => by rw [← hq]; exact may_any s.state kind W
      have HE : Hid (Cn.askErr s kind d = if q then 0 else 8) := by unfold Hid Cn.askErr; rw [if_neg hk, hbig, hq]; rfl
      rw [HE.out]
      have HKE : Hid (∀ W, Fresh (((w.alloc (.cells #[.int .i64 kind] 3)).alloc (.cells #[.string d] 9)).alloc (.cells #[.slice none 0 0, .slice none 0 0, .bool false, .bool false, .int .u32 0, .int .i64 0] 41)) W → W.cell? ⟨c, 2, none⟩ = some (.int .i64 s.state) ∧ W.cell? ⟨w.heap.size, 0, none⟩ = some (.int .i64 kind)) := fun W hf => ⟨HS2.out W (HF.out.trans hf (fun _ _ e => e)), (hf.blk HBC.out (fun e => e)).cell 0⟩
      have hf1 : Fresh (((w.alloc (.cells #[.int .i64 kind] 3)).alloc (.cells #[.string d] 9)).alloc (.cells #[.slice none 0 0, .slice none 0 0, .bool false, .bool false, .int .u32 0, .int .i64 0] 41)) (((w.alloc (.cells #[.int .i64 kind] 3)).alloc (.cells #[.string d] 9)).alloc (.cells #[.slice none 0 0, .slice none 0 0, .bool false, .bool false, .int .u32 0, .int .i64 0] 41)).drew := (Touch.refl _ _).drew
      have HED := Lib.hid hbig
      clear hbig hq hk
      cases q
      all_goals
        first
          | (have HE2 : Hid (Cn.askS s kind d = (s, Cn.r0)) := by { unfold Hid Cn.askS; rw [HE.out, if_neg (by decide)] }
             rw [HE2.out, if_neg (by decide)])
          | (have HE2 : Hid (Cn.askS s kind d = Cn.ask (s, Cn.r0) kind d) := by { unfold Hid Cn.askS; rw [HE.out, if_pos (by rfl)] }
             rw [HE2.out, if_pos rfl])
        clear HE HE2
      all_goals rcases hcase with h64 | ⟨h64, k1, k3, k4⟩
      all_goals
        go_enter Try.func11, Try.ntmps11
        go_upto_region 5 with (fail)
        go_region_held3 (fun wx => wx.cell? ⟨c, 2, none⟩ = some (.int .i64 s.state) ∧ wx.cell? ⟨w.heap.size, 0, none⟩ = some (.int .i64 kind))
          (first
            | with_reducible exact HKE.out _ (by with_reducible assumption)
            | with_reducible assumption)
          (first
            | (go_simp; go_at_call 24; with_reducible refine (HMAY.out _).mono ?_; rintro e' w' ⟨rfl, hO⟩; have hf2 : Fresh (((w.alloc (.cells #[.int .i64 kind] 3)).alloc (.cells #[.string d] 9)).alloc (.cells #[.slice none 0 0, .slice none 0 0, .bool false, .bool false, .int .u32 0, .int .i64 0] 41)) w' := hf1.trans hO (fun _ _ h => h); clear hO))
        have HFW : Hid (Fresh w w') := HF.out.trans hf2 (fun _ _ e => e)
        have HRW := Lib.hid (hf2.blk HR.out (fun e => e))
        have HCW1 := Lib.hid (hf2.blk HBC.out (fun e => e))
        have HPW1 := Lib.hid (hf2.blk HBP.out (fun e => e))
        clear HKE hf1 hf2 HF HR HBC HBP HGW HMAY
        rename_i hH
        clear hH
        have HF := HFW
        have HR := HRW
        have HBC := HCW1
        have HBP := HPW1
        have HGW : Hid (w.heap.size + 1 + 1 < w'.heap.size) := HR.out.lt
        have HCW : Hid (ConnAt w' c s) := HF.out.blk HC.out (fun e => e)
        clear HFW HRW HCW1 HPW1
        generalize w' = W at *
      iterate 2
        · have HP := Lib.hid (ConnPost.none (w := W) HCW.out HO.out (Touch.refl _ W))
          have r0 := HR.out.cell 0
          have r1 := HR.out.cell 1
          have r2 := HR.out.cell 2
          have r3 := HR.out.cell 3
          have r4 := HR.out.cell 4
          have r5 := HR.out.cell 5
          have f0 := HR.out.frozen 0
          have f1 := HR.out.frozen 1
          have f2 := HR.out.frozen 2
          have f3 := HR.out.frozen 3
          have f4 := HR.out.frozen 4
          have f5 := HR.out.frozen 5
          simp only [List.getElem?_cons_zero, List.getElem?_cons_succ] at r0 r1 r2 r3 r4 r5
          go_wp2
          obtain ⟨hb6, ht6⟩ := HR.out.st6 (.slice none 0 0) (.slice none 0 0) (.bool false) (.bool false) (.int .u32 0) (.int .i64 0)
          have HX := Lib.hid (HP.out.stored HF.out HLT.out HGG.out HGW.out ht6)
          generalize ((((((W.setCell ⟨w.heap.size + 1 + 1, 0, none⟩ (.slice none 0 0)).setCell ⟨w.heap.size + 1 + 1, 1, none⟩ (.slice none 0 0)).setCell ⟨w.heap.size + 1 + 1, 2, none⟩ (.bool false)).setCell ⟨w.heap.size + 1 + 1, 3, none⟩ (.bool false)).setCell ⟨w.heap.size + 1 + 1, 4, none⟩ (.int .u32 0)).setCell ⟨w.heap.size + 1 + 1, 5, none⟩ (.int .i64 0)) = w6 at *
          have z0 := hb6.cell 0
          have z1 := hb6.cell 1
          have z2 := hb6.cell 2
          have z3 := hb6.cell 3
          have z4 := hb6.cell 4
          have z5 := hb6.cell 5
          simp only [List.getElem?_cons_zero, List.getElem?_cons_succ] at z0 z1 z2 z3 z4 z5
          exact bodyPost_ret (v := _) (by simp [results, Try.results11, go_sem, z0, z1, z2, z3, z4, z5]) rfl ⟨_, rfl, HX.out⟩
      iterate 2
        · have := HN
          go_wp2_with fail
          refine (done_any (m := 1) HCW.out HO.out 25 #[.pointer (some ⟨w.heap.size, 0, none⟩), .pointer (some ⟨w.heap.size + 1, 0, none⟩)] (by omega) (enters_of Try.func25 (by kernel_rfl) rfl) (y := (Cn.ask (s, Cn.r0) kind d)) (fun W0 a w1 hf1 hf2 hi => (askcl_any hi (by omega) (hf2.blk (hf1.blk HBC.out (fun e => e)) (fun e => e)) (hf2.blk (hf1.blk HBP.out (fun e => e)) (fun e => e))).mono fun e w' h => ⟨h.1, h.2.1.wide (by omega), h.2.2⟩)).mono ?_
          rintro e w2 ⟨v, rfl, hp⟩
          have HP := Lib.hid hp
          obtain ⟨A1, c1, A2, c2, rfl, _, _, _, _⟩ := hp.res
          have hbr := hp.touch.blk HR.out (by intro e; have e : w.heap.size + 1 + 1 = c := e; have := HLT.out; omega)
          clear hp
          have HBR := Lib.hid hbr
          have r0 := HBR.out.cell 0
          have r1 := HBR.out.cell 1
          have r2 := HBR.out.cell 2
          have r3 := HBR.out.cell 3
          have r4 := HBR.out.cell 4
          have r5 := HBR.out.cell 5
          have f0 := HBR.out.frozen 0
          have f1 := HBR.out.frozen 1
          have f2 := HBR.out.frozen 2
          have f3 := HBR.out.frozen 3
          have f4 := HBR.out.frozen 4
          have f5 := HBR.out.frozen 5
          simp only [List.getElem?_cons_zero, List.getElem?_cons_succ] at r0 r1 r2 r3 r4 r5
          clear hbr
          go_wp2
          obtain ⟨hb6, ht6⟩ := HBR.out.st6 (.slice A1 (Cn.ask (s, Cn.r0) kind d).2.sigs.length c1) (.slice A2 (Cn.ask (s, Cn.r0) kind d).2.units.length c2) (.bool (Cn.ask (s, Cn.r0) kind d).2.begins) (.bool (Cn.ask (s, Cn.r0) kind d).2.ends) (.int .u32 (Cn.ask (s, Cn.r0) kind d).2.ms) (.int .i64 (Cn.ask (s, Cn.r0) kind d).2.timer)
          have HX := Lib.hid (HP.out.stored HF.out HLT.out HGG.out HGW.out ht6)
          generalize ((((((w2.setCell ⟨w.heap.size + 1 + 1, 0, none⟩ (.slice A1 (Cn.ask (s, Cn.r0) kind d).2.sigs.length c1)).setCell ⟨w.heap.size + 1 + 1, 1, none⟩ (.slice A2 (Cn.ask (s, Cn.r0) kind d).2.units.length c2)).setCell ⟨w.heap.size + 1 + 1, 2, none⟩ (.bool (Cn.ask (s, Cn.r0) kind d).2.begins)).setCell ⟨w.heap.size + 1 + 1, 3, none⟩ (.bool (Cn.ask (s, Cn.r0) kind d).2.ends)).setCell ⟨w.heap.size + 1 + 1, 4, none⟩ (.int .u32 (Cn.ask (s, Cn.r0) kind d).2.ms)).setCell ⟨w.heap.size + 1 + 1, 5, none⟩ (.int .i64 (Cn.ask (s, Cn.r0) kind d).2.timer)) = w6 at *
          have z0 := hb6.cell 0
          have z1 := hb6.cell 1
          have z2 := hb6.cell 2
          have z3 := hb6.cell 3
          have z4 := hb6.cell 4
          have z5 := hb6.cell 5
          simp only [List.getElem?_cons_zero, List.getElem?_cons_succ] at z0 z1 z2 z3 z4 z5
          exact bodyPost_ret (v := _) (by simp [results, Try.results11, go_sem, z0, z1, z2, z3, z4, z5]) rfl ⟨_, rfl, HX.out⟩
end Go.Proofs.Ytkmegkjkbalooaa

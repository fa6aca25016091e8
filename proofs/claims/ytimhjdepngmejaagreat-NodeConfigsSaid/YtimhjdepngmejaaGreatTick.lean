/-
  timer.Bank: Tick.
-/
import Derived.Test.YtimhjdepngmejaaGreatTimer
import Derived.Test.YtimhjdepngmejaaGreatTy
import Derived.BigRegion
namespace Go.Proofs.YtimhjdepngmejaaGreat
open Go.RowKit
set_option maxRecDepth 20000
theorem Bk.tickStep {w : World} {g : Nat} {t : TypeId} {l c : List Int} {k : Nat} (h : Bk w g t (Tm.tickTo l k) c) (hk : k < 5) (hl : l.length = 5) (hne : l.getD k 0 ≠ 0) :
    Bk (w.setCell ⟨g, k, none⟩ (.int .i64 (l.getD k 0 - 1))) g t (Tm.tickTo l (k + 1)) c := by
  have hb := h.bd k
  rw [Tm.tickTo_get] at hb
  rw [Tm.tickTo_succ _ _ (by omega)]
  have : Tm.dec (l.getD k 0) = l.getD k 0 - 1 := by unfold Tm.dec; rw [if_neg hne]
  rw [this]
  exact h.set hk (by omega) (by omega)
theorem Bk.tickSkip {w : World} {g : Nat} {t : TypeId} {l c : List Int} {k : Nat} (h : Bk w g t (Tm.tickTo l k) c) (hk : k < 5) (hl : l.length = 5) (hne : l.getD k 0 = 0) :
    Bk w g t (Tm.tickTo l (k + 1)) c := by
  have e : Tm.tickTo l (k + 1) = Tm.tickTo l k := by
    rw [Tm.tickTo_succ _ _ (by omega), hne, ← hne, ← Tm.tickTo_get l k]
    have : Tm.dec ((Tm.tickTo l k).getD k 0) = (Tm.tickTo l k).getD k 0 := by rw [Tm.tickTo_get, hne]; rfl
    rw [this]
    have hlt : k < (Tm.tickTo l k).length := by have := h.1; omega
    simp [List.getD, List.getElem?_eq_getElem hlt]
  rw [e]; exact h

set_option maxHeartbeats 1000000 in
theorem tick_any (g : Nat) (T : TypeId) (hT : T ≠ 3) (l c : List Int) (w : World) (h : Bk w g T l c) :
    Calls Tryz.prog 107 #[.pointer (some ⟨g, 0, none⟩)] w fun e w' => ∃ A ca, e = .returned (.slice A (Tm.over l).length ca) ∧ Sl intE w' A ca (Tm.over l) ∧ Bk w' g T (Tm.tick l) c ∧ Touch (· = g) w w' := by
  have HL := Lib.hid h.1
  go_enter Tryz.func107, Tryz.ntmps107
  go_wp2
  go_loopw [3, 5] (fun v i wr => ∃ k : Nat, ∃ A ca L, k ≤ 5 ∧ i = .int .i64 k ∧ v = .slice A L.length ca ∧ Hid (L = Tm.overTo l k) ∧ Sl intE wr A ca L ∧ Bk wr g T (Tm.tickTo l k) c ∧ Touch (· = g) w wr ∧ (∀ ad, A = some ad → w.heap.size ≤ ad.block)) (fun _ i _ => 5 - (intOf i).toNat)
  case atStart => exact ⟨0, none, 0, [], by omega, rfl, rfl, rfl, Sl.nil _ _, by simpa [Tm.tickTo] using h, Touch.refl _ _, fun _ h => by cases h⟩
  case round =>
    obtain ⟨k, A, ca, L, hk, rfl, rfl, hL, hs, hb, ht, hA⟩ := hrel
    by_cases hlt : k < 5
    · have hc := hb.cell hlt
      rw [Tm.tickTo_get] at hc
      have hf := hb.frozen k
      have hbd := hb.bd k
      rw [Tm.tickTo_get] at hbd
      by_cases h0 : l.getD k 0 = 0
      · have HR : Hid (L = Tm.overTo l (k + 1) ∧ Bk wr g T (Tm.tickTo l (k + 1)) c) := by
          have e : Tm.overTo l (k + 1) = Tm.overTo l k := by rw [Tm.overTo_succ, h0]; simp
          rw [e]
          exact ⟨hL, hb.tickSkip hlt HL.out h0⟩
        clear hb hL
        rw [h0] at hc
        clear h0
        go_wp2
        go_roundw
        case rel => exact ⟨k + 1, A, ca, L, by omega, by go_num, rfl, HR.out.1, hs, HR.out.2, ht, hA⟩
        case measure => simp [intOf]; omega
      · have HB : Hid (Bk (wr.setCell ⟨g, k, none⟩ (.int .i64 (l.getD k 0 - 1))) g T (Tm.tickTo l (k + 1)) c) := hb.tickStep hlt HL.out h0
        have hAg : ∀ ad, A = some ad → ad.block ≠ g := hs.blk_ne hb.2.2 hT.symm
        by_cases h1 : l.getD k 0 = 1
        · have HO : Hid (Tm.overTo l (k + 1) = L ++ [(k : Int)]) := by show _ = _; rw [Tm.overTo_succ, if_pos h1, hL.out]
          have hlen : L.length ≤ k := by rw [hL.out]; exact Tm.overTo_len l k
          rw [h1] at hc HB
          have hgw := hb.lt
          have hgW := h.lt
          clear hb h0 h1 hbd hL
          go_wp2
          go_region
          go_wp2_with (at_builtin; refine app_int rfl rfl (l := L) (l2 := [(k : Int)]) rfl rfl (((hs.setCell (p := ⟨g, k, none⟩) hAg _).alloc _).drew) (Sl.rd (Sl.lit intE _ _ (by simp) _ _ rfl _ rfl (by decide))) (by simp; omega) ?_; intro A' ca' L' w' HL' hs' ht' hA')
          go_roundw
          case rel =>
            have tt : Touch (· = g) w w' := by
              refine ((((ht.setCell (p := ⟨g, k, none⟩) (fun _ => rfl) _).alloc _).drew).trans ht' fun j hj hjA => ?_)
              cases A with
              | none => cases hjA
              | some ad => have := hA ad rfl; simp at hjA; omega
            have bb : Bk w' g T (Tm.tickTo l (k + 1)) c := by
              have hb2 := HB.out
              refine ⟨hb2.1, hb2.2.1, ht'.blk ((hb2.2.2.alloc _).drew) ?_⟩
              intro hjA
              cases A with
              | none => cases hjA
              | some ad => have := hA ad rfl; simp at hjA; omega
            refine ⟨k + 1, A', ca', L', by omega, by go_num, rfl, HL'.out.trans HO.out.symm, hs', bb, tt, fun ad ha => ?_⟩
            subst ha
            rcases hA' with hA' | hA'
            · cases A with
              | none => cases hA'
              | some ad0 => have := hA ad0 rfl; simp at hA'; omega
            · have := ht.size; simp at hA'; omega
          case measure => simp [intOf]; omega
        · have HO : Hid (L = Tm.overTo l (k + 1)) := by show _ = _; rw [Tm.overTo_succ, if_neg h1, List.append_nil]; exact hL
          have hz : ((l.getD k 0 - 1) == 0) = false := beq_eq_false_iff_ne.2 (by omega)
          have hz0 : (l.getD k 0 == 0) = false := beq_eq_false_iff_ne.2 h0
          generalize l.getD k 0 = x at *
          clear hb h0 h1 hL
          go_wp2
          go_region
          go_wp2
          go_roundw
          case rel => exact ⟨k + 1, A, ca, L, by omega, by go_num, rfl, HO.out, (hs.setCell (p := ⟨g, k, none⟩) hAg _).drew, HB.out, (ht.setCell (p := ⟨g, k, none⟩) (fun _ => rfl) _).drew, hA⟩
          case measure => simp [intOf]; omega
    · have e5 : k = 5 := by omega
      subst e5
      have HO : Hid (L = Tm.over l ∧ Bk wr g T (Tm.tick l) c) := ⟨hL, by rw [← Tm.tickTo_all l HL.out]; exact hb⟩
      clear hb hL
      go_wp2
      go_ret
      exact ⟨A, ca, by rw [← HO.out.1]; rfl, by rw [← HO.out.1]; exact hs, HO.out.2, ht⟩
end Go.Proofs.YtimhjdepngmejaaGreat

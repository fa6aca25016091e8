/-
  ring.Ring[string]: what its exported calls do.
-/
import Derived.Test.YtngljhpplmbglaaRingStr
import Derived.BigRegion
import Derived.Deep.RegionHeld3
import Derived.Lib.SliceRun
namespace Go.Proofs.Ytngljhpplmbglaa
open Go.RowKit

section
variable {w w' : World} {g : Nat} {b : Option Nat} {most : Nat} {q : List ByteArray}
theorem RingStr.same (h : RingStr w g b most q) (he : w'.heap = w.heap) : RingStr w' g b most q := by
  obtain ⟨A, c, a, buf, h1, h2, h3, h4⟩ := h
  exact ⟨A, c, a, buf, by unfold Blk at h1 ⊢; rw [he]; exact h1, h2.keep (fun _ _ => by rw [he]), h3, h4⟩
theorem RingStr.wf (h : RingStr w g b most q) : ∀ k, Foot g b k → k < w.heap.size := by
  rintro k (rfl | e)
  · exact h.lt
  · exact h.ltb k e
end

theorem ringStr_len (g : Nat) (b : Option Nat) (most : Nat) (q : List ByteArray) (w : World) (h : RingStr w g b most q) :
    Calls Try.prog 38 #[.pointer (some ⟨g, 0, none⟩)] w fun e w' => e = .returned (.int .i64 q.length) ∧ w' = w := by
  obtain ⟨A, c, a, buf, hb, _⟩ := h
  have c2 : w.cell? ⟨g, 2, none⟩ = some (.int .i64 q.length) := hb.cell 2
  go_enter Try.func38, Try.ntmps38
  go_wp2
  go_ret
  exact ⟨rfl, rfl⟩


theorem ringStr_room (g : Nat) (b : Option Nat) (most : Nat) (q : List ByteArray) (w : World) (h : RingStr w g b most q) :
    Calls Try.prog 46 #[.pointer (some ⟨g, 0, none⟩)] w fun e w' => e = .returned (.int .i64 ((most : Int) - (q.length : Int))) ∧ ∃ m, w' = w.drewN m := by
  have hl := h.len_le
  obtain ⟨A, c, a, buf, hb, _⟩ := h
  have c2 : w.cell? ⟨g, 2, none⟩ = some (.int .i64 q.length) := hb.cell 2
  have c3 : w.cell? ⟨g, 3, none⟩ = some (.int .i64 most) := hb.cell 3
  go_enter Try.func46, Try.ntmps46
  go_wp2
  go_quiet (fail)
  go_wp2
  go_ret
  exact ⟨rfl, _, rfl⟩

set_option maxHeartbeats 1000000 in
theorem ringStr_put (g : Nat) (b : Option Nat) (most : Nat) (q : List ByteArray) (v : ByteArray) (w : World) (h : RingStr w g b most q) :
    Calls Try.prog 26 #[.pointer (some ⟨g, 0, none⟩), .string v] w fun e w' => e = .returned (.int .i64 (if q.length < most then 0 else 7)) ∧ ∃ b', RingStr w' g b' most (if q.length < most then q ++ [v] else q) ∧ Touch (Foot g b) w w' ∧
      ∀ k, b' = some k → b = some k ∨ w.heap.size ≤ k := by
  by_cases hlt : q.length < most
  · rw [if_pos hlt, if_pos hlt]
    have hr0 : ((most : Int) - (q.length : Int) == 0) = false := by simp; omega
    go_enter Try.func26, Try.ntmps26
    go_wp2_with fail
    refine (ringStr_room g b most q w h).mono ?_
    rintro e w1 ⟨rfl, m, rfl⟩
    go_wp2
    obtain ⟨A, c, a, buf, hb, hs, hA, hm1, hm2, hg⟩ := h
    have c0 : w.cell? ⟨g, 0, none⟩ = some (.slice A buf.length c) := hb.cell 0
    have c2 : w.cell? ⟨g, 2, none⟩ = some (.int .i64 q.length) := hb.cell 2
    have hql := hg.len
    have hcap := hs.1
    have hcapm := hs.2.1
    go_quiet (fail)
    clear c0 c2
    go_upto_if 17 with (fail)
    go_cut [] (fun wx => ∃ (A2 : Option Addr) (c2 a2 : Nat) (buf2 : List ByteArray), Blk wx g 93 [.slice A2 buf2.length c2, .int .i64 a2, .int .i64 q.length, .int .i64 most] ∧ Sl strE wx A2 c2 buf2 ∧ buf2.length ≤ most ∧ q.length < buf2.length ∧ Gone buf2 a2 q ∧ Touch (Foot g b) w wx ∧ ∀ ad, A2 = some ad → b = some ad.block ∨ w.heap.size ≤ ad.block)
    case first =>
      by_cases hfull : q.length = buf.length
      · have hfi : ((q.length : Int) == (buf.length : Int)) = true := by simp [hfull]
        go_wp2_with fail
        refine (ringStr_grow g A c a most buf q _ (hb.drewN _) hs ⟨hm1, hm2⟩ hg hfull hlt).mono ?_
        rintro e w2 ⟨rfl, gl, c', buf', hgl, b2, s2, hb1, hb2, g2, t2⟩
        go_wp2
        go_meet
        case rel => exact ⟨_, _, 0, buf', b2, s2, hb1, hb2, g2, ((Touch.refl _ w).drewN _).trans t2 (fun k _ e => .inl e), fun ad ha => .inr (by injection ha with ha; subst ha; exact hgl)⟩
      · have hfi : ((q.length : Int) == (buf.length : Int)) = false := by simp; omega
        go_wp2
        go_meet
        case rel => exact ⟨A, c, a, buf, hb, hs, hm1, by omega, hg, ((Touch.refl _ w).drewN _).drewN _, fun ad ha => .inl (by rw [← hA, ha]; rfl)⟩
    case rest =>
      clear hb hs hA hm1 hg hql hcap hcapm
      obtain ⟨A2, c2, a2, buf2, hb, hs, hm1, hlt2, hg, ht, hA⟩ := hcut
      obtain ⟨p, hp⟩ : ∃ p, Hid ((a2 + q.length) % buf2.length = p) := ⟨_, rfl⟩
      have hpl : p < buf2.length := by rw [← hp.out]; exact Nat.mod_lt _ (by omega)
      obtain ⟨gA, oA, rfl, hgA, hcell⟩ := hs.str_at p hpl
      have hfz := hs.frozen gA oA rfl (oA + p)
      have hne : gA ≠ g := hs.blk_ne hb (by decide) ⟨gA, oA, none⟩ rfl
      have ha : a2 ≤ 4096 := by rcases hg.pos with h | ⟨_, h⟩ <;> omega
      have c0 : wc.cell? ⟨g, 0, none⟩ = some (.slice (some ⟨gA, oA, none⟩) buf2.length c2) := hb.cell 0
      have c1 : wc.cell? ⟨g, 1, none⟩ = some (.int .i64 a2) := hb.cell 1
      have c2' : wc.cell? ⟨g, 2, none⟩ = some (.int .i64 q.length) := hb.cell 2
      have f2 := hb.frozen 2
      have hcap := hs.1
      have hcapm := hs.2.1
      have HR : Hid (RingStr ((wc.setCell ⟨gA, oA + p, none⟩ (.string v)).setCell ⟨g, 2, none⟩ (.int .i64 ((q.length : Int) + 1))) g (some gA) most (q ++ [v])) := by
        refine ⟨some ⟨gA, oA, none⟩, c2, a2, buf2.set p v, ?_, ?_, rfl, by simpa using hm1, hm2, ?_⟩
        · rw [List.length_set]
          exact ((hb.far (Ne.symm hne) _).set 2 _).eq_cells (by simp)
        · exact (hs.set1 rfl rfl (i := p) (x := v) (u := .string v) rfl).setCell (fun ad ha => by injection ha with ha; subst ha; exact hne) _
        · rw [← hp.out]; exact hg.put hlt2 v
      have HT : Hid (Touch (Foot g b) w ((wc.setCell ⟨gA, oA + p, none⟩ (.string v)).setCell ⟨g, 2, none⟩ (.int .i64 ((q.length : Int) + 1)))) :=
        (ht.setCell (fun hlt => by rcases hA _ rfl with e | e; exact .inr e; simp at e hlt; omega) _).st (.inl rfl)
      have HA := Lib.hid hA
      clear hb hs hA hg ht
      go_upto_region 5 with (fail)
      go_region_law (go_simp; go_at_call 48; refine (ringStr_place g _ c2 a2 q.length _ _ (by exact c0) (by exact c1) (by omega) (by omega) (by omega) (by omega) p hp).mono ?_; rintro e w' ⟨rfl, m2, rfl⟩)
      all_goals
        go_wp2
        go_ret
        exact ⟨rfl, some gA, HR.out.same rfl, ⟨HT.out.os, HT.out.tape, HT.out.output, HT.out.size, HT.out.block⟩, fun k hk => by injection hk with hk; subst hk; exact HA.out _ rfl⟩
  · rw [if_neg hlt, if_neg hlt]
    have hl := h.len_le
    have hr0 : ((most : Int) - (q.length : Int) == 0) = true := by simp; omega
    go_enter Try.func26, Try.ntmps26
    go_wp2_with fail
    refine (ringStr_room g b most q w h).mono ?_
    rintro e w1 ⟨rfl, m, rfl⟩
    go_wp2
    go_ret
    exact ⟨rfl, b, h.same rfl, (Touch.refl _ w).drewN _, fun k hk => .inl hk⟩

theorem ringStr_first (g : Nat) (b : Option Nat) (most : Nat) (q : List ByteArray) (w : World) (h : RingStr w g b most q) :
    Calls Try.prog 49 #[.pointer (some ⟨g, 0, none⟩)] w fun e w' => e = .returned (.tuple #[.string (q.getD 0 ByteArray.empty), .int .i64 (if q.length = 0 then 9 else 0)]) ∧ ∃ m, w' = w.drewN m := by
  obtain ⟨A, c, a, buf, hb, hs, rfl, hm1, hm2, hg⟩ := h
  have c0 : w.cell? ⟨g, 0, none⟩ = some (.slice A buf.length c) := hb.cell 0
  have c1 : w.cell? ⟨g, 1, none⟩ = some (.int .i64 a) := hb.cell 1
  have c2 : w.cell? ⟨g, 2, none⟩ = some (.int .i64 q.length) := hb.cell 2
  by_cases hq : q.length = 0
  · have : q = [] := List.eq_nil_of_length_eq_zero hq
    subst this
    go_enter Try.func49, Try.ntmps49
    go_wp2
    go_ret2
    exact ⟨rfl, 0, rfl⟩
  · rw [if_neg hq]
    have hq0 : ((q.length : Int) == 0) = false := by simpa using hq
    have hql := hg.len
    obtain ⟨hal, hget⟩ := hg.first (by omega)
    obtain ⟨gA, oA, rfl, hgA, hcell⟩ := hs.str_at a hal
    rw [List.getD_eq_getElem?_getD, hget, ← List.getD_eq_getElem?_getD] at hcell
    generalize q.getD 0 ByteArray.empty = x at *
    go_enter Try.func49, Try.ntmps49
    go_wp2
    go_quiet (fail)
    go_wp2
    go_ret2
    exact ⟨rfl, _, rfl⟩

set_option maxHeartbeats 1000000 in
theorem ringStr_take (g : Nat) (b : Option Nat) (most : Nat) (q : List ByteArray) (w : World) (h : RingStr w g b most q) :
    Calls Try.prog 28 #[.pointer (some ⟨g, 0, none⟩)] w fun e w' => e = .returned (.tuple #[.string (q.getD 0 ByteArray.empty), .int .i64 (if q.length = 0 then 9 else 0)]) ∧ RingStr w' g b most q.tail ∧ Touch (Foot g b) w w' := by
  have hfirst := ringStr_first g b most q w h
  by_cases hq : q.length = 0
  · have : q = [] := List.eq_nil_of_length_eq_zero hq
    subst this
    have HH := Lib.hid h
    clear h
    go_enter Try.func28, Try.ntmps28
    go_wp2_with fail
    refine hfirst.mono ?_
    rintro e w1 ⟨rfl, m, rfl⟩
    go_wp2
    go_ret2
    exact ⟨rfl, HH.out.same rfl, (Touch.refl _ w).drewN _⟩
  · rw [if_neg hq] at hfirst ⊢
    obtain ⟨A, c, a, buf, hb, hs, rfl, hm1, hm2, hg⟩ := h
    have hql := hg.len
    obtain ⟨hal, hget⟩ := hg.first (by omega)
    obtain ⟨gA, oA, rfl, hgA, hcell⟩ := hs.str_at a hal
    have hfz := hs.frozen gA oA rfl (oA + a)
    have hne : gA ≠ g := hs.blk_ne hb (by decide) ⟨gA, oA, none⟩ rfl
    have c0 : w.cell? ⟨g, 0, none⟩ = some (.slice (some ⟨gA, oA, none⟩) buf.length c) := hb.cell 0
    have c1 : w.cell? ⟨g, 1, none⟩ = some (.int .i64 a) := hb.cell 1
    have c2 : w.cell? ⟨g, 2, none⟩ = some (.int .i64 q.length) := hb.cell 2
    have f1 := hb.frozen 1
    have f2 := hb.frozen 2
    have hcap := hs.1
    have hcapm := hs.2.1
    obtain ⟨p, hp⟩ : ∃ p, Hid ((a + 1) % buf.length = p) := ⟨_, rfl⟩
    obtain ⟨k, hk⟩ : ∃ k : Nat, q.length = k + 1 := ⟨q.length - 1, by omega⟩
    have HR : Hid (RingStr (((w.setCell ⟨gA, oA + a, none⟩ (.string ByteArray.empty)).setCell ⟨g, 1, none⟩ (.int .i64 p)).setCell ⟨g, 2, none⟩ (.int .i64 ((q.length : Int) - 1))) g (some gA) most q.tail) := by
      refine ⟨some ⟨gA, oA, none⟩, c, p, buf.set a ByteArray.empty, ?_, ?_, rfl, by simpa using hm1, hm2, ?_⟩
      · rw [List.length_set]
        exact (((hb.far (Ne.symm hne) _).set 1 _).set 2 _).eq_cells (by simp [hk])
      · exact ((hs.set1 rfl rfl (i := a) (x := ByteArray.empty) (u := .string ByteArray.empty) rfl).setCell (fun ad ha => by injection ha with ha; subst ha; exact hne) _).setCell (fun ad ha => by injection ha with ha; subst ha; exact hne) _
      · rw [← hp.out]; exact hg.take (by omega) _
    have HT : Hid (Touch (Foot g (some gA)) w (((w.setCell ⟨gA, oA + a, none⟩ (.string ByteArray.empty)).setCell ⟨g, 1, none⟩ (.int .i64 p)).setCell ⟨g, 2, none⟩ (.int .i64 ((q.length : Int) - 1)))) :=
      (((Touch.refl _ w).setCell (fun _ => .inr rfl) _).st (.inl rfl)).st (.inl rfl)
    generalize q.getD 0 ByteArray.empty = x at *
    generalize hj : (q.length : Int) = j at *
    have hb1 : Blk (w.setCell ⟨gA, oA + a, none⟩ (.string ByteArray.empty)) g 93 [.slice (some ⟨gA, oA, none⟩) buf.length c, .int .i64 a, .int .i64 j, .int .i64 most] := hb.far (Ne.symm hne) _
    have d0 : (w.setCell ⟨gA, oA + a, none⟩ (.string ByteArray.empty)).cell? ⟨g, 0, none⟩ = some (.slice (some ⟨gA, oA, none⟩) buf.length c) := hb1.cell 0
    have d1 : (w.setCell ⟨gA, oA + a, none⟩ (.string ByteArray.empty)).cell? ⟨g, 1, none⟩ = some (.int .i64 a) := hb1.cell 1
    clear hb hs hg hb1 hget
    go_enter Try.func28, Try.ntmps28
    go_wp2_with fail
    refine hfirst.mono ?_
    rintro e w1 ⟨rfl, m, rfl⟩
    clear hfirst
    go_wp2
    go_region
    all_goals
      go_wp2_with fail
      refine (ringStr_place g _ c a 1 buf.length _ (by exact d0) (by exact d1) (by omega) (by omega) (by omega) (by omega) p hp).mono ?_
      rintro e w2 ⟨rfl, m2, rfl⟩
      go_wp2
      go_ret2
      exact ⟨rfl, HR.out.same rfl, ⟨HT.out.os, HT.out.tape, HT.out.output, HT.out.size, HT.out.block⟩⟩
end Go.Proofs.Ytngljhpplmbglaa

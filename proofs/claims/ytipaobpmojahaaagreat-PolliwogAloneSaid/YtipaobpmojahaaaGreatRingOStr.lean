/-
  ring.Ring[string]: what each call does · ring.Ring[string]: what its exported calls do.
-/
import Derived.Test.YtipaobpmojahaaaGreatEvD
import Derived.Test.YtipaobpmojahaaaGreatSpanP
import Derived.RegionTactic
import Derived.ChangeAlike
import Derived.Deep.QuietTactic
import Derived.BigQuiet
import Derived.Deep.DeepCutAuto
import Derived.Deep.CutBlock
import Derived.Deep.RegionLaw
import Derived.BigRegion
import Derived.Deep.RegionHeld3
import Derived.Lib.SliceRun
namespace Go.Proofs.YtipaobpmojahaaaGreat
open Go.RowKit
set_option maxRecDepth 4000

/-- A row of strings lies in block g, its slice in block b (if it has one): at most 'most', the elements q. -/
def RingStr (w : World) (g : Nat) (b : Option Nat) (most : Nat) (q : List ByteArray) : Prop :=
  ∃ (A : Option Addr) (c a : Nat) (buf : List ByteArray), Blk w g 265 [.slice A buf.length c, .int .i64 a, .int .i64 q.length, .int .i64 most] ∧ Sl strE w A c buf ∧ A.map Addr.block = b ∧
    buf.length ≤ most ∧ most ≤ 4096 ∧ Gone buf a q

section
variable {w w' : World} {g : Nat} {b : Option Nat} {most : Nat} {q : List ByteArray}
theorem RingStr.touch {S : Nat → Prop} (h : RingStr w g b most q) (ht : Touch S w w') (hg : ¬ S g) (hb : ∀ k, b = some k → ¬ S k) : RingStr w' g b most q := by
  obtain ⟨A, c, a, buf, h1, h2, h3, h4⟩ := h
  refine ⟨A, c, a, buf, ht.blk h1 hg, h2.touch ht (fun ad ha => hb _ ?_), h3, h4⟩
  rw [← h3, ha]; rfl
theorem RingStr.lt (h : RingStr w g b most q) : g < w.heap.size := by obtain ⟨A, c, a, buf, h1, _⟩ := h; exact h1.lt
theorem RingStr.ltb (h : RingStr w g b most q) : ∀ k, b = some k → k < w.heap.size := by
  obtain ⟨A, c, a, buf, h1, h2, rfl, _⟩ := h
  intro k hk
  cases A with
  | none => cases hk
  | some ad => have := h2.lt ad rfl; simp at hk; omega
theorem RingStr.len_le (h : RingStr w g b most q) : q.length ≤ most ∧ most ≤ 4096 := by
  obtain ⟨A, c, a, buf, h1, h2, h3, h4, h5, h6⟩ := h
  exact ⟨Nat.le_trans h6.len h4, h5⟩
end

/-- New. -/
theorem ringStr_new (n : Int) (w : World) :
    Calls Tryz.prog 185 #[.int .i64 n] w fun e w' => e = .returned (.pointer (some ⟨w.heap.size, 0, none⟩)) ∧ RingStr w' w.heap.size none (max 0 (min n 4096)).toNat [] ∧ Fresh w w' := by
  have hmm : ∀ m : Int, 0 ≤ m → m ≤ 4096 → RingStr (w.alloc (.cells #[.slice none 0 0, .int .i64 0, .int .i64 0, .int .i64 m] 265)) w.heap.size none m.toNat [] := fun m h0 h1 => by
    refine ⟨none, 0, 0, [], ?_, Sl.nil _ _, rfl, by simp, by omega, Gone.nil⟩
    have := Blk.new w 265 [.slice none 0 0, .int .i64 0, .int .i64 0, .int .i64 m]
    rw [Int.toNat_of_nonneg h0]
    exact this
  have HM := Lib.hid hmm
  clear hmm
  have hf : ∀ o, Hid (Fresh w (w.alloc o)) := fun o => (Touch.refl _ _).alloc _
  have HF := Lib.hid hf
  clear hf
  obtain ⟨m, hm⟩ : ∃ m, (if 4096 < n then (4096 : Int) else n) = m := ⟨_, rfl⟩
  obtain ⟨m', hm'⟩ : ∃ m', (if 0 < m then m else 0) = m' := ⟨_, rfl⟩
  have hx : Hid (max 0 (min n 4096) = m' ∧ 0 ≤ m' ∧ m' ≤ 4096) := by
    rw [← hm', ← hm]; refine ⟨?_, ?_, ?_⟩ <;> (split <;> (try split) <;> omega)
  go_enter Tryz.func185, Tryz.ntmps185
  go_wp2
  go_ret
  exact ⟨rfl, by rw [hx.out.1]; exact HM.out m' hx.out.2.1 hx.out.2.2, HF.out _⟩

/-- place. -/
theorem Strplace_mod (a n L : Nat) : ((a : Int) + (n : Int)) % (L : Int) = (((a + n) % L : Nat) : Int) := by
  rw [Int.natCast_emod]; rfl

theorem ringStr_place (g : Nat) (A : Option Addr) (c a n L : Nat) (w : World) (c0 : w.cell? ⟨g, 0, none⟩ = some (.slice A L c)) (c1 : w.cell? ⟨g, 1, none⟩ = some (.int .i64 a)) (ha : a ≤ 4096) (hn : n ≤ 4096) (hL : 0 < L) (hL2 : L ≤ 4096) (p : Nat) (Hp : Hid ((a + n) % L = p)) :
    Calls Tryz.prog 181 #[.pointer (some ⟨g, 0, none⟩), .int .i64 n] w fun e w' => e = .returned (.int .i64 p) ∧ ∃ m, w' = w.drewN m := by
  rw [← Hp.out]
  have hL0 : ((L : Int) == 0) = false := by simp; omega
  have hp := Strplace_mod a n L
  go_enter Tryz.func181, Tryz.ntmps181
  go_wp2
  go_quiet (fail)
  go_wp2
  go_ret
  exact ⟨rfl, _, rfl⟩

set_option maxHeartbeats 1000000 in
theorem ringStr_all (g : Nat) (A : Option Addr) (c a most : Nat) (buf q : List ByteArray) (w : World)
    (hb : Blk w g 265 [.slice A buf.length c, .int .i64 a, .int .i64 q.length, .int .i64 most]) (hs : Sl strE w A c buf) (hm : buf.length ≤ most ∧ most ≤ 4096) (hg : Gone buf a q) :
    Calls Tryz.prog 183 #[.pointer (some ⟨g, 0, none⟩)] w fun e w' => ∃ A' c', e = .returned (.slice A' q.length c') ∧ Sl strE w' A' c' q ∧ Fresh w w' ∧ (∀ ad, A' = some ad → w.heap.size ≤ ad.block) ∧ (A' = none → q = []) := by
  have c0 : w.cell? ⟨g, 0, none⟩ = some (.slice A buf.length c) := hb.cell 0
  have c1 : w.cell? ⟨g, 1, none⟩ = some (.int .i64 a) := hb.cell 1
  have c2 : w.cell? ⟨g, 2, none⟩ = some (.int .i64 q.length) := hb.cell 2
  have hql := hg.len
  have ha : a ≤ 4096 := by rcases hg.pos with h | ⟨_, h⟩ <;> omega
  obtain ⟨hm1, hm2⟩ := hm
  have HB := Lib.hid hb
  have HS := Lib.hid hs
  have HG := Lib.hid hg
  clear hb hs hg
  go_enter Tryz.func183, Tryz.ntmps183
  go_wp2_with fail
  clear c0 c1 c2
  go_loopw [3, 9] (fun v i wr => ∃ (k : Nat) (A' : Option Addr) (c' : Nat) (L : List ByteArray), k ≤ q.length ∧ i = .int .i64 k ∧ v = .slice A' L.length c' ∧ Hid (L = q.take k) ∧ Sl strE wr A' c' L ∧ Fresh w wr ∧ (∀ ad, A' = some ad → w.heap.size ≤ ad.block)) (fun _ i _ => q.length - (intOf i).toNat)
  case atStart => exact ⟨0, none, 0, [], by omega, rfl, rfl, by simp [Hid], Sl.nil _ _, Touch.refl _ _, fun _ h => by cases h⟩
  case round =>
    obtain ⟨k, A', c', L, hk, rfl, rfl, hL, hs', ht, hA'⟩ := hrel
    by_cases hlt : k < q.length
    · have hbk : Blk wr g 265 [.slice A buf.length c, .int .i64 a, .int .i64 q.length, .int .i64 most] := ht.blk HB.out (fun h => h)
      obtain ⟨p, hp⟩ : ∃ p, Hid ((a + k) % buf.length = p) := ⟨_, rfl⟩
      have hpl : p < buf.length := by rw [← hp.out]; exact Nat.mod_lt _ (by omega)
      obtain ⟨gA, oA, rfl, hgA, hcell⟩ := (HS.out.touch ht (fun _ _ h => h)).str_at p hpl
      have hget : buf.getD p ByteArray.empty = q.getD k ByteArray.empty := by
        rw [← hp.out, List.getD_eq_getElem?_getD, HG.out.get k hlt, ← List.getD_eq_getElem?_getD]
      rw [hget] at hcell
      have c0 : wr.cell? ⟨g, 0, none⟩ = some (.slice (some ⟨gA, oA, none⟩) buf.length c) := hbk.cell 0
      have c1 : wr.cell? ⟨g, 1, none⟩ = some (.int .i64 a) := hbk.cell 1
      have hll : L.length ≤ k := by rw [hL.out]; simp; omega
      have hLs : Hid (q.take (k + 1) = L ++ [q.getD k ByteArray.empty]) := by
        show _ = _
        rw [List.take_succ_eq_append_getElem hlt, hL.out]
        simp [List.getD, List.getElem?_eq_getElem hlt]
      generalize q.getD k ByteArray.empty = x at *
      clear hget hbk
      have HT := Lib.hid ht
      clear ht
      go_upto_region 5 with (fail)
      go_region_law (first
        | (refine stp_str rfl rfl (l := L) (l2 := [x]) rfl rfl (by exact hs'.alloc _) (by exact Sl.rd (Sl.lit strE wr _ rfl _ _ rfl _ rfl (by decide))) (by simp; omega) ?_; intro A2 c2 L2 w2 hL2 hs2 ht2 hA2)
        | (go_simp; go_at_call 181; refine (ringStr_place g _ c a k _ _ (by exact c0) (by exact c1) (by omega) (by omega) (by omega) (by omega) p hp).mono ?_; rintro e w' ⟨rfl, m, rfl⟩))
      all_goals
        have hfr : Hid (Fresh w w2) := by
          refine (((HT.out.drewN _).alloc _).trans ht2 ?_)
          intro j hj e
          cases A' with
          | none => cases e
          | some ad => have := hA' ad rfl; simp at e; omega
        have hAn : ∀ ad, A2 = some ad → w.heap.size ≤ ad.block := by
          intro ad ha
          have hsz := HT.out.size
          subst ha
          rcases hA2 with e | e
          · cases A' with
            | none => cases e
            | some ad0 => have := hA' ad0 rfl; simp at e; omega
          · simp at e; omega
        clear ht2 hA2 hcell c0 c1
        go_wp2
        go_roundw
        case rel => exact ⟨k + 1, A2, c2, L2, by omega, by go_num, rfl, hL2.out.trans hLs.out.symm, hs2, hfr.out, hAn⟩
        case measure => simp [intOf]; omega
    · have hkk : k = q.length := by omega
      subst hkk
      have hlq : Hid (L = q) := by have := hL.out; rw [List.take_length] at this; exact this
      clear hL
      go_wp2
      go_ret
      exact ⟨A', c', by rw [← hlq.out]; rfl, by rw [← hlq.out]; exact hs', ht, hA', fun ha => by have h1 := hs'.1; have h2 := hs'.2.2.1 ha; rw [← hlq.out]; exact List.eq_nil_of_length_eq_zero (by omega)⟩

section
variable {w w' : World} {g : Nat} {b : Option Nat} {most : Nat} {q : List ByteArray}
theorem RingStr.same (h : RingStr w g b most q) (he : w'.heap = w.heap) : RingStr w' g b most q := by
  obtain ⟨A, c, a, buf, h1, h2, h3, h4⟩ := h
  exact ⟨A, c, a, buf, by unfold Blk at h1 ⊢; rw [he]; exact h1, h2.keep (fun _ _ => by rw [he]), h3, h4⟩
end

theorem ringStr_len (g : Nat) (b : Option Nat) (most : Nat) (q : List ByteArray) (w : World) (h : RingStr w g b most q) :
    Calls Tryz.prog 95 #[.pointer (some ⟨g, 0, none⟩)] w fun e w' => e = .returned (.int .i64 q.length) ∧ w' = w := by
  obtain ⟨A, c, a, buf, hb, _⟩ := h
  have c2 : w.cell? ⟨g, 2, none⟩ = some (.int .i64 q.length) := hb.cell 2
  go_enter Tryz.func95, Tryz.ntmps95
  go_wp2
  go_ret
  exact ⟨rfl, rfl⟩


theorem ringStr_first (g : Nat) (b : Option Nat) (most : Nat) (q : List ByteArray) (w : World) (h : RingStr w g b most q) :
    Calls Tryz.prog 180 #[.pointer (some ⟨g, 0, none⟩)] w fun e w' => e = .returned (.tuple #[.string (q.getD 0 ByteArray.empty), .int .i64 (if q.length = 0 then 9 else 0)]) ∧ ∃ m, w' = w.drewN m := by
  obtain ⟨A, c, a, buf, hb, hs, rfl, hm1, hm2, hg⟩ := h
  have c0 : w.cell? ⟨g, 0, none⟩ = some (.slice A buf.length c) := hb.cell 0
  have c1 : w.cell? ⟨g, 1, none⟩ = some (.int .i64 a) := hb.cell 1
  have c2 : w.cell? ⟨g, 2, none⟩ = some (.int .i64 q.length) := hb.cell 2
  by_cases hq : q.length = 0
  · have : q = [] := List.eq_nil_of_length_eq_zero hq
    subst this
    go_enter Tryz.func180, Tryz.ntmps180
    go_wp2
    go_ret2
    exact ⟨rfl, 0, rfl⟩
  · rw [if_neg hq]
    have hq0 : ((q.length : Int) == 0) = false := by simpa using hq
    have hql := hg.len
    obtain ⟨hal, hget⟩ := hg.first (by omega)
    obtain ⟨gA, oA, rfl, hgA, hcell⟩ := hs.str_at a hal
    rw [List.getD_eq_getElem?_getD, hget, ← List.getD_eq_getElem?_getD] at hcell
    generalize q.getD 0 ByteArray.empty = x at *
    go_enter Tryz.func180, Tryz.ntmps180
    go_wp2
    go_quiet (fail)
    go_wp2
    go_ret2
    exact ⟨rfl, _, rfl⟩

set_option maxHeartbeats 1000000 in
theorem ringStr_take (g : Nat) (b : Option Nat) (most : Nat) (q : List ByteArray) (w : World) (h : RingStr w g b most q) :
    Calls Tryz.prog 94 #[.pointer (some ⟨g, 0, none⟩)] w fun e w' => e = .returned (.tuple #[.string (q.getD 0 ByteArray.empty), .int .i64 (if q.length = 0 then 9 else 0)]) ∧ RingStr w' g b most q.tail ∧ Touch (Foot g b) w w' := by
  have hfirst := ringStr_first g b most q w h
  by_cases hq : q.length = 0
  · have : q = [] := List.eq_nil_of_length_eq_zero hq
    subst this
    have HH := Lib.hid h
    clear h
    go_enter Tryz.func94, Tryz.ntmps94
    go_wp2_with fail
    refine hfirst.mono ?_
    rintro e w1 ⟨rfl, m, rfl⟩
    go_wp2
    go_ret2
    exact ⟨rfl, HH.out.same rfl, (Touch.refl _ w).drewN _⟩
  · rw [if_neg hq] at hfirst ⊢
    obtain ⟨A, c, a, buf, hb, hs, rfl, hm1, hm2, hg⟩ := h
    have hql := hg.len
    obtain ⟨hal, hget⟩ := hg.first (by omega)
    obtain ⟨gA, oA, rfl, hgA, hcell⟩ := hs.str_at a hal
    have hfz := hs.frozen gA oA rfl (oA + a)
    have hne : gA ≠ g := hs.blk_ne hb (by decide) ⟨gA, oA, none⟩ rfl
    have c0 : w.cell? ⟨g, 0, none⟩ = some (.slice (some ⟨gA, oA, none⟩) buf.length c) := hb.cell 0
    have c1 : w.cell? ⟨g, 1, none⟩ = some (.int .i64 a) := hb.cell 1
    have c2 : w.cell? ⟨g, 2, none⟩ = some (.int .i64 q.length) := hb.cell 2
    have f1 := hb.frozen 1
    have f2 := hb.frozen 2
    have hcap := hs.1
    have hcapm := hs.2.1
    obtain ⟨p, hp⟩ : ∃ p, Hid ((a + 1) % buf.length = p) := ⟨_, rfl⟩
    obtain ⟨k, hk⟩ : ∃ k : Nat, q.length = k + 1 := ⟨q.length - 1, by omega⟩
    have HR : Hid (RingStr (((w.setCell ⟨gA, oA + a, none⟩ (.string ByteArray.empty)).setCell ⟨g, 1, none⟩ (.int .i64 p)).setCell ⟨g, 2, none⟩ (.int .i64 ((q.length : Int) - 1))) g (some gA) most q.tail) := by
      refine ⟨some ⟨gA, oA, none⟩, c, p, buf.set a ByteArray.empty, ?_, ?_, rfl, by simpa using hm1, hm2, ?_⟩
      · rw [List.length_set]
        exact (((hb.far (Ne.symm hne) _).set 1 _).set 2 _).eq_cells (by simp [hk])
      · exact ((hs.set1 rfl rfl (i := a) (x := ByteArray.empty) (u := .string ByteArray.empty) rfl).setCell (fun ad ha => by injection ha with ha; subst ha; exact hne) _).setCell (fun ad ha => by injection ha with ha; subst ha; exact hne) _
      · rw [← hp.out]; exact hg.take (by omega) _
    have HT : Hid (Touch (Foot g (some gA)) w (((w.setCell ⟨gA, oA + a, none⟩ (.string ByteArray.empty)).setCell ⟨g, 1, none⟩ (.int .i64 p)).setCell ⟨g, 2, none⟩ (.int .i64 ((q.length : Int) - 1)))) :=
      (((Touch.refl _ w).setCell (fun _ => .inr rfl) _).st (.inl rfl)).st (.inl rfl)
    generalize q.getD 0 ByteArray.empty = x at *
    generalize hj : (q.length : Int) = j at *
    have hb1 : Blk (w.setCell ⟨gA, oA + a, none⟩ (.string ByteArray.empty)) g 265 [.slice (some ⟨gA, oA, none⟩) buf.length c, .int .i64 a, .int .i64 j, .int .i64 most] := hb.far (Ne.symm hne) _
    have d0 : (w.setCell ⟨gA, oA + a, none⟩ (.string ByteArray.empty)).cell? ⟨g, 0, none⟩ = some (.slice (some ⟨gA, oA, none⟩) buf.length c) := hb1.cell 0
    have d1 : (w.setCell ⟨gA, oA + a, none⟩ (.string ByteArray.empty)).cell? ⟨g, 1, none⟩ = some (.int .i64 a) := hb1.cell 1
    clear hb hs hg hb1 hget
    go_enter Tryz.func94, Tryz.ntmps94
    go_wp2_with fail
    refine hfirst.mono ?_
    rintro e w1 ⟨rfl, m, rfl⟩
    clear hfirst
    go_wp2
    go_region
    all_goals
      go_wp2_with fail
      refine (ringStr_place g _ c a 1 buf.length _ (by exact d0) (by exact d1) (by omega) (by omega) (by omega) (by omega) p hp).mono ?_
      rintro e w2 ⟨rfl, m2, rfl⟩
      go_wp2
      go_ret2
      exact ⟨rfl, HR.out.same rfl, ⟨HT.out.os, HT.out.tape, HT.out.output, HT.out.size, HT.out.block⟩⟩
end Go.Proofs.YtipaobpmojahaaaGreat

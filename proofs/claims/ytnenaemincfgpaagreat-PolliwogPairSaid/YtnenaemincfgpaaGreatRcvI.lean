/-
  recv.Recv: missing: a loop over a map · recv.Recv: Stat, still · recv.Recv: still · recv.Recv: Gap.
-/
import Derived.Test.YtnenaemincfgpaaGreatRcvF
import Derived.Test.YtnenaemincfgpaaGreatFlat
import Derived.Deep.RegionHeld3
import Derived.Test.YtnenaemincfgpaaGreatGapS
set_option maxHeartbeats 8000000
namespace Go.Proofs.YtnenaemincfgpaaGreat
open Go.RowKit

def Rv.Miss (st : Rv.S) (S : List (Int × Int)) : Prop := Sp.Good S ∧ ∀ n, Sp.mem S n ↔ 0 <= n ∧ n < (st.h - st.r) % 16777216 ∧ ∀ q ∈ st.m, (q.1 - st.r) % 16777216 ≠ n

theorem Rv.Miss.len {st : Rv.S} {S : List (Int × Int)} (h : Rv.Miss st S) (hd : (st.h - st.r) % 16777216 <= 100000) : S.length <= 100000 := by
 have := Sp.Canon.len_le h.1.1 0 100000 (by omega) (fun n hn => by have := (h.2 n).1 hn; omega)
 omega

set_option maxRecDepth 4000 in
theorem rmissing_any (p : Nat) (F : Nat -> Prop) (st : Rv.S) (w : World) (h : RecvAt w p F st) (hd : (st.h - st.r) % 16777216 <= 100000) :
  Calls Tryz.prog 55 #[.pointer (some ⟨p, 0, none⟩)] w fun e w' => ∃ B d S, e = .returned (.slice B S.length d) ∧ Mine spanE w w' B d S ∧ Rv.Miss st S := by
 obtain ⟨k, A, c, G, d, h1, hF, hL⟩ := h
 have HI := lh h1
 clear h1 hF hL
 have KEEP : Hid (∀ W, Fresh w W -> W.cell? ⟨p, 0, none⟩ = some (.int .u32 st.r) ∧ W.cell? ⟨p, 1, none⟩ = some (.int .u32 st.h)) := fun W hf => ⟨(HI.out.old hf).blk.cell 0, (HI.out.old hf).blk.cell 1⟩
 obtain ⟨dd, hdd⟩ := qx ((st.h - st.r) % 16777216)
 have hd0 : 0 <= dd := by omega
 have HTO := lh (to_any st.r st.h)
 rw [hdd] at HTO hd
 have HDD := lh hdd
 clear hdd
 have hf1 : Fresh w w.drew := (Touch.refl _ _).drew
 have R1 : Hid (∀ W : World, Rd spanE (W.alloc (.cells #[.int .i64 0, .int .i64 dd] 172)) (some ⟨W.heap.size, 0, none⟩) 1 [(0, dd)]) := fun W => Sl.rd (Sl.lit spanE W _ rfl #[.int .i64 0, .int .i64 dd] [(0, dd)] rfl 1 rfl (by decide))
 have HOF : Hid (∀ W A c, Rd spanE W A c [(0, dd)] -> Calls Tryz.prog 100 #[.slice A 1 c] W fun e w' => ∃ B d S, e = .returned (.slice B S.length d) ∧ Mine spanE W w' B d S ∧ Sp.Good S ∧ ∀ n, Sp.mem S n ↔ 0 <= n ∧ n < dd) := fun W A c hr => (of_any A c [(0, dd)] W hr (by simp)).mono fun e w' ⟨B, d, S, e1, m, ho, _⟩ => ⟨B, d, S, e1, m, ho.good, fun n => by
  rw [ho.mem_small (fun x hx => by rw [List.mem_singleton.1 hx]; simp only; omega), mem_one]
  rfl⟩
 go_enter Tryz.func55, Tryz.ntmps55
 go_wp2_with fail
 go_region_held3 (fun wx => wx.cell? ⟨p, 0, none⟩ = some (.int .u32 st.r) ∧ wx.cell? ⟨p, 1, none⟩ = some (.int .u32 st.h))
  (first
   |with_reducible exact KEEP.out _ (by with_reducible assumption)
   |exact KEEP.out _ (((Touch.refl (fun _ => False) w).alloc _).drew)
   |with_reducible assumption)
  (first
   |(go_simp; go_at_call 101; with_reducible refine (HTO.out _).mono ?_; rintro e' w' ⟨rfl, rfl⟩)
   |(go_simp; go_at_call 100; refine (HOF.out ((w.alloc (.cells #[.int .i64 0, .int .i64 dd] 172)).drew) _ _ (R1.out w)).mono ?_; rintro e' w' ⟨B', d', S', rfl, hM, hG, hS⟩; have hf2 : Fresh w w' := (((Touch.refl (fun _ => False) w).alloc _).drew).trans hM.fresh (fun _ _ h => h)))
 all_goals
  have M2 : Hid (Mine spanE w w' B' d' S') := hM.back (((Touch.refl (fun _ => False) w).alloc _).drew)
  have HS2 : Hid (Sp.Good S' ∧ ∀ n, Sp.mem S' n ↔ 0 <= n ∧ n < dd ∧ ∀ q ∈ ([] : List Int), (q - st.r) % 16777216 ≠ n) := ⟨hG, fun n => by rw [hS]; simp⟩
  have I2 := lh (HI.out.old hf2)
  have c4 : w'.cell? ⟨p, 4, none⟩ = some (.map (some k)) := I2.out.blk.cell 4
  clear hM hG hS R1 HOF HTO hf1
  go_wp2_with (first
   |(at_range; refine wpList_rangeM rfl rfl rfl I2.out.map Tryz.underlying118 ?_; intro w3 hit hf3)
   |go_in)
  go_frame
  have HIT := lh hit
  have M3 := lh (M2.out.old hf3)
  obtain ⟨r, hr⟩ := xq w'.heap.size
  rw [<- hr] at HIT ⊢
  have hrw : w.heap.size <= r := by have := hf2.size; omega
  clear hit hf3 M2 I2 c4 hf2 hr
  go_loopw [3] (fun s3 wr => ∃ (D : List Int) (B : Option Addr) (d : Nat) (S : List (Int × Int)), s3 = .slice B S.length d ∧ Hid (IterAt numK wr r k (Rv.bufV st.m) D) ∧ Hid (Mine spanE w wr B d S) ∧ Hid (Sp.Good S ∧ ∀ n, Sp.mem S n ↔ 0 <= n ∧ n < dd ∧ ∀ q ∈ D, (q - st.r) % 16777216 ≠ n) ∧ Hid (∀ q ∈ D, ∃ q2 ∈ st.m, q2.1 = q)) (fun _ wr => wr.rangeLeft k r)
  case atStart => exact ⟨[], B', d', S', rfl, HIT, M3, HS2, fun _ h => by cases h⟩
  case round =>
   clear HIT M3 HS2
   obtain ⟨D, B, d3, S, rfl, HIT, HM, HS, HITD⟩ := hrel
   go_wp2_with (first
    |(at_next; refine wpList_nextM rfl rfl rfl HIT.out ?_ ?_)
    |go_in)
   ·intro hdone
    have HX : Hid (Rv.Miss st S) := ⟨HS.out.1, fun n => by
     rw [HS.out.2 n, HDD.out]
     constructor
     ·rintro ⟨h1, h2, h3⟩
      exact ⟨h1, h2, fun q hq => h3 q.1 (hdone q.1 (.string q.2) (List.mem_map.2 ⟨q, hq, rfl⟩))⟩
     ·rintro ⟨h1, h2, h3⟩
      refine ⟨h1, h2, fun q hq => ?_⟩
      obtain ⟨q2, hq2, e⟩ := HITD.out q hq
      have := h3 q2 hq2
      rwa [e] at this⟩
    clear hdone
    go_wp2
    go_ret
    exact ⟨B, d3, S, rfl, HM.out, HX.out⟩
   ·intro key qv w4 hq hqD hit4 ht4 hlt hen
    have IT4 := lh hit4
    have hrS : ∀ x, x = r -> w.heap.size <= x := fun x e => by omega
    have M4 : Hid (Mine spanE w w4 B d3 S) := HM.out.own ht4 hrS (fun ad e e2 => by
     obtain ⟨_, cs, hb, _⟩ := HM.out.sl.2.2.2 ad e
     obtain ⟨es, cl, si, se, c0, _, _, _, _, hr4, _⟩ := HIT.out.ex
     unfold Blk at hb
     rw [e2, hr4] at hb
     cases hb)
    have F4 := lh M4.out.fresh
    have HLT := lh hlt
    obtain ⟨q2, hq2, hqe⟩ := List.mem_map.1 hq
    have HQ2 : Hid (q2 ∈ st.m ∧ q2.1 = key) := ⟨hq2, by have := congrArg Prod.fst hqe; exact this⟩
    have hen2 : (Instr.entry (.pointer (some ⟨r, 0, none⟩))).run Tryz.prog w4 = .ok (.tuple #[.int .u32 key, qv]) w4 := hen
    have c0 : w4.cell? ⟨p, 0, none⟩ = some (.int .u32 st.r) := (HI.out.old F4.out).blk.cell 0
    have HMT : Hid (∀ W, Fresh w4 W -> W.rangeLeft k r = w4.rangeLeft k r) := fun W hf => IT4.out.left_eq hf (fun h => h) (fun h => h)
    have HIT4 : Hid (∀ W, Fresh w4 W -> IterAt numK W r k (Rv.bufV st.m) (key :: D)) := fun W hf => IT4.out.touch hf (fun h => h) (fun h => h)
    have HTO := lh (to_any st.r key)
    obtain ⟨at_, hat⟩ := qx ((key - st.r) % 16777216)
    have hatb : 0 <= at_ ∧ at_ < 16777216 := by omega
    rw [hat] at HTO
    have HAT := lh hat
    have hSl : S.length <= 1000000 := by
     have := Sp.Canon.len_le HS.out.1.1 0 100000 (by omega) (fun n hn => by have := (HS.out.2 n).1 hn; omega)
     omega
    clear hit4 ht4 hlt hen hat hq hqD hq2 hqe HM HIT hrS IT4
    go_wp2_with fail
    refine (HTO.out w4).mono ?_
    rintro e w5 ⟨rfl, rfl⟩
    simp only
    have HDR := lh (drop_any B d3 S (at_, at_ + 1) w5 M4.out.sl.rd HS.out.1 hSl)
    go_wp2_with fail
    refine HDR.out.mono ?_
    rintro e w6 ⟨B6, d6, S6, rfl, M6, G6, h6⟩
    have F6 := lh M6.fresh
    have M7 := lh (M6.back F4.out)
    have HS7 : Hid (Sp.Good S6 ∧ ∀ n, Sp.mem S6 n ↔ 0 <= n ∧ n < dd ∧ ∀ q ∈ key :: D, (q - st.r) % 16777216 ≠ n) := ⟨G6, fun n => by
     rw [h6, Sp.near_id _ (by simp only; omega) (by simp only; omega) (by simp only; omega) (by simp only; omega), HS.out.2 n]
     unfold Sp.In
     simp only [List.mem_cons, forall_eq_or_imp, HAT.out]
     constructor
     ·rintro ⟨⟨h1, h2, h3⟩, h4⟩
      exact ⟨h1, h2, by omega, h3⟩
     ·rintro ⟨h1, h2, h3, h4⟩
      exact ⟨⟨h1, h2, h4⟩, by omega⟩⟩
    have HD7 : Hid (∀ q ∈ key :: D, ∃ q2 ∈ st.m, q2.1 = q) := fun q hq => by
     rcases List.mem_cons.1 hq with rfl | hq
     ·exact ⟨q2, HQ2.out.1, HQ2.out.2⟩
     ·exact HITD.out q hq
    clear M6 G6 h6 HDR M4 HS HITD
    simp only
    go_wp2
    go_roundw
    case rel => exact ⟨key :: D, B6, d6, S6, rfl, HIT4.out _ F6.out, M7, HS7, HD7⟩
    case measure => rw [HMT.out _ F6.out]; exact HLT.out

theorem half_near {S T : List (Int × Int)} (h : Gp.Half S T) (hg : Sp.Good S) (hb : ∀ n, Sp.mem S n -> 0 <= n ∧ n < 8388609) : T = S := Sp.Canon.uniq h.1.1 hg.1 fun n => by
 rw [h.2]
 exact ⟨fun h => h.1, fun h => ⟨h, hb n h⟩⟩

theorem Rv.renew_eq (st : Rv.S) : ∃ x, Rv.renew st = { st with mr := x } := ⟨_, rfl⟩

set_option maxRecDepth 4000 in
theorem rstat_any (p : Nat) (F : Nat -> Prop) (st : Rv.S) (w : World) (h : RecvAt w p F st) (hd : (st.h - st.r) % 16777216 <= 100000) (hw : 0 <= st.window ∧ st.window <= 64) (hi : st.inbox.length <= 1000000) :
  Calls Tryz.prog 23 #[.pointer (some ⟨p, 0, none⟩)] w fun e w' => ∃ B d S, e = .returned (.tuple #[.slice B (Gp.gl st.r S).length d, .int .u32 st.r, .int .u32 (Rv.renew st).mr]) ∧ RecvAt w' p F (Rv.renew st) ∧ Touch F w w' ∧
   Sl numE w' B d (Gp.gl st.r S) ∧ (∀ ad, B = some ad -> w.heap.size <= ad.block) ∧ Rv.Miss st S := by
 have HL := lh h.lim
 have HRN := lh (rrenew_any p F st w h hw hi)
 obtain ⟨x, hx⟩ := Rv.renew_eq st
 have HX := lh hx
 rw [hx] at HRN ⊢
 clear h hx
 go_enter Tryz.func23, Tryz.ntmps23
 go_wp2_with fail
 refine HRN.out.mono ?_
 rintro e w1 ⟨rfl, h1, t1⟩
 have H1 := lh h1
 have T1 := lh t1
 obtain ⟨k, A, c, G, d, i1, hF, hL⟩ := h1
 have I1 := lh i1
 have HMI : Hid (∀ W, Fresh w1 W -> Calls Tryz.prog 55 #[.pointer (some ⟨p, 0, none⟩)] W fun e w' => ∃ B d S, e = .returned (.slice B S.length d) ∧ Mine spanE W w' B d S ∧ Rv.Miss { st with mr := x } S) := fun W hf => rmissing_any p F _ W (H1.out.old hf) hd
 have HLI : Hid (∀ W B d S, Rd spanE W B d S -> Rv.Miss { st with mr := x } S -> Calls Tryz.prog 54 #[.int .u32 st.r, .slice B S.length d] W fun e w' => ∃ B' d', e = .returned (.slice B' (Gp.gl st.r S).length d') ∧ Mine numE W w' B' d' (Gp.gl st.r S)) := fun W B d S hr hm => (listg_any st.r B d S W hr hm.1 (by have := hm.len hd; omega)).mono fun e w' ⟨B', d', T, e1, m1, hh⟩ => by
  obtain rfl : T = S := half_near hh hm.1 (fun n hn => by have := (hm.2 n).1 hn; have hd' : (st.h - st.r) % 16777216 <= 100000 := hd; simp only at this; omega)
  exact ⟨B', d', e1, m1⟩
 have KEEP : Hid (∀ W, Fresh w1 W -> W.cell? ⟨p, 0, none⟩ = some (.int .u32 st.r) ∧ W.cell? ⟨p, 2, none⟩ = some (.int .u32 x)) := fun W hf => ⟨(I1.out.old hf).blk.cell 0, (I1.out.old hf).blk.cell 2⟩
 have hf1 : Fresh w1 w1.drew := (Touch.refl _ _).drew
 clear t1 i1 hF hL HRN
 simp only
 go_wp2_with fail
 go_region_held3 (fun wx => wx.cell? ⟨p, 0, none⟩ = some (.int .u32 st.r) ∧ wx.cell? ⟨p, 2, none⟩ = some (.int .u32 x))
  (first
   |with_reducible exact KEEP.out _ (by with_reducible assumption)
   |with_reducible assumption)
  (first
   |(go_simp; go_at_call 55; with_reducible refine (HMI.out _ (by with_reducible assumption)).mono ?_; rintro e' w' ⟨B2, d2, S2, rfl, hM2, hMs⟩; have hf2 : Fresh w1 w' := hf1.trans hM2.fresh (fun _ _ h => h); have hR2 := hM2.sl.rd; clear hM2)
   |(go_simp; go_at_call 54; with_reducible refine (HLI.out _ _ _ _ (by with_reducible assumption) (by with_reducible assumption)).mono ?_; rintro e' w' ⟨B3, d3, rfl, hM3⟩; have hf3 : Fresh w1 w' := hf2.trans hM3.fresh (fun _ _ h => h)))
 all_goals
  have HS3 : Hid (Sl numE w' B3 d3 (Gp.gl st.r S2)) := hM3.sl
  have HB3 : Hid (∀ ad, B3 = some ad -> w.heap.size <= ad.block) := fun ad e => by
   have h1 := hM3.base ad e
   have h2 := T1.out.size
   have h3 := hf2.size
   omega
  have H3 := lh (H1.out.old hf3)
  have T3 : Hid (Touch F w w') := T1.out.trans hf3 (fun _ _ h => h.elim)
  have HM : Hid (Rv.Miss st S2) := hMs
  clear hM3 hR2 hMs hf1 hf2 hf3 KEEP HLI HMI I1 H1 T1
  go_wp2
  go_ret3
  exact ⟨B3, d3, S2, rfl, H3.out, T3.out, HS3.out, HB3.out, HM.out⟩

def Rv.StillIn (st : Rv.S) (g : Int × Int) (n : Int) : Prop :=
 (g.2 - st.r) % 16777216 <= (st.h - st.r) % 16777216 ∧ (0 <= n ∧ n < (st.h - st.r) % 16777216 ∧ ∀ q ∈ st.m, (q.1 - st.r) % 16777216 ≠ n) ∧ (g.2 - st.r) % 16777216 - (g.2 - g.1) % 16777216 <= n ∧ n < (g.2 - st.r) % 16777216

set_option maxRecDepth 4000 in
theorem rstill_any (p : Nat) (F : Nat -> Prop) (st : Rv.S) (g : Int × Int) (w : World) (h : RecvAt w p F st) (hd : (st.h - st.r) % 16777216 <= 100000) :
  Calls Tryz.prog 56 #[.pointer (some ⟨p, 0, none⟩), .agg #[.int .u32 g.1, .int .u32 g.2]] w fun e w' => ∃ B d S, e = .returned (.slice B S.length d) ∧ Mine spanE w w' B d S ∧ Sp.Good S ∧ ∀ n, Sp.mem S n ↔ Rv.StillIn st g n := by
 obtain ⟨g1, g2⟩ := g
 have H0 := lh h
 obtain ⟨k, A, c, G, d, i1, hF, hL⟩ := h
 have I0 := lh i1
 clear i1 hF hL
 obtain ⟨t, ht⟩ := qx ((g2 - st.r) % 16777216)
 obtain ⟨s, hs⟩ := qx ((g2 - g1) % 16777216)
 obtain ⟨dd, hdd⟩ := qx ((st.h - st.r) % 16777216)
 have hb : 0 <= t ∧ t < 16777216 ∧ 0 <= s ∧ s < 16777216 ∧ 0 <= dd := by omega
 have HST : Hid (∀ n, Rv.StillIn st (g1, g2) n ↔ t <= dd ∧ (0 <= n ∧ n < dd ∧ ∀ q ∈ st.m, (q.1 - st.r) % 16777216 ≠ n) ∧ t - s <= n ∧ n < t) := fun n => by
  unfold Rv.StillIn
  rw [ht, hs, hdd]
 have HT1 := lh (to_any st.r g2)
 have HT2 := lh (to_any st.r st.h)
 have HT3 := lh (to_any g1 g2)
 rw [ht] at HT1
 rw [hdd] at HT2
 rw [hs] at HT3
 have HHD : Hid ((st.h - st.r) % 16777216 <= 100000) := hd
 have HDD := lh hdd
 rw [hdd] at hd
 clear ht hs hdd
 obtain ⟨hb1, hb2, hb3, hb4, hb5⟩ := hb
 simp only
 go_enter Tryz.func56, Tryz.ntmps56
 go_wp2_with fail
 have F1 : Hid (Fresh w (w.alloc (.cells #[.int .u32 g1, .int .u32 g2] 127))) := (Touch.refl _ _).alloc _
 have B1 : Hid (Blk (w.alloc (.cells #[.int .u32 g1, .int .u32 g2] 127)) w.heap.size 127 [.int .u32 g1, .int .u32 g2]) := Blk.new w _ _
 generalize w.alloc (.cells #[.int .u32 g1, .int .u32 g2] 127) = w1 at *
 obtain ⟨b, hbe⟩ := xq w.heap.size
 rw [<- hbe] at B1 ⊢
 clear hbe
 have KE : Hid (∀ W, Fresh w1 W -> W.cell? ⟨p, 0, none⟩ = some (.int .u32 st.r) ∧ W.cell? ⟨p, 1, none⟩ = some (.int .u32 st.h) ∧ W.cell? ⟨b, 0, none⟩ = some (.int .u32 g1) ∧ W.cell? ⟨b, 1, none⟩ = some (.int .u32 g2)) := fun W hf =>
  ⟨(I0.out.old (F1.out.trans hf (fun _ _ h => h))).blk.cell 0, (I0.out.old (F1.out.trans hf (fun _ _ h => h))).blk.cell 1, (hf.blk B1.out (fun h => h)).cell 0, (hf.blk B1.out (fun h => h)).cell 1⟩
 obtain ⟨k0, k1, k2, k3⟩ := KE.out w1 (Touch.refl _ _)
 go_upto_region 1 with (fail)
 go_quiet ((go_at_call 101; with_reducible refine Calls.quiet_of_same (HT1.out _)))
 have f2 : Hid (Fresh w1 (w1.drewN nq)) := (Touch.refl _ _).drewN _
 clear k0 k1 k2 k3
 generalize w1.drewN nq = w2 at *
 obtain ⟨k0, k1, k2, k3⟩ := KE.out w2 f2.out
 go_upto_region 2 with (fail)
 go_quiet ((go_at_call 101; with_reducible refine Calls.quiet_of_same (HT2.out _)))
 have f3 : Hid (Fresh w1 (w2.drewN nq)) := f2.out.drewN _
 clear k0 k1 k2 k3 f2
 generalize w2.drewN nq = w3 at *
 by_cases htd : dd < t
 ·have hdt : decide (dd < t) = true := decide_eq_true htd
  have HN : Hid (∀ n, Sp.mem ([] : List (Int × Int)) n ↔ Rv.StillIn st (g1, g2) n) := fun n => by
   rw [HST.out n]
   simp [Sp.mem]
   omega
  have FR : Hid (Fresh w w3) := F1.out.trans f3.out (fun _ _ h => h)
  go_wp2
  go_ret
  exact ⟨none, 0, [], rfl, ⟨Sl.nil _ _, FR.out, fun _ e => by cases e⟩, Sp.Good.nil, HN.out⟩
 ·have hdt : decide (dd < t) = false := decide_eq_false htd
  have hts : IntKind.i64.wrap (t - s) = t - s := IntWalk.i64_in _ ⟨by omega, by omega⟩
  have HMI : Hid (∀ W, Fresh w1 W -> Calls Tryz.prog 55 #[.pointer (some ⟨p, 0, none⟩)] W fun e w' => ∃ B d S, e = .returned (.slice B S.length d) ∧ Mine spanE W w' B d S ∧ Rv.Miss st S) := fun W hf => rmissing_any p F _ W (H0.out.old (F1.out.trans hf (fun _ _ h => h))) HHD.out
  have R1 : Hid (∀ W : World, Rd spanE (W.alloc (.cells #[.int .i64 (t - s), .int .i64 t] 172)) (some ⟨W.heap.size, 0, none⟩) 1 [(t - s, t)]) := fun W => Sl.rd (Sl.lit spanE W _ rfl #[.int .i64 (t - s), .int .i64 t] [(t - s, t)] rfl 1 rfl (by decide))
  have HOF : Hid (∀ W A c, Rd spanE W A c [(t - s, t)] -> Calls Tryz.prog 100 #[.slice A 1 c] W fun e w' => ∃ B d S, e = .returned (.slice B S.length d) ∧ Mine spanE W w' B d S ∧ (Sp.Good S ∧ S.length <= 1 ∧ ∀ n, Sp.mem S n ↔ t - s <= n ∧ n < t)) := fun W A c hr => (of_any A c [(t - s, t)] W hr (by simp)).mono fun e w' ⟨B, d, S, e1, m, ho, hl⟩ => ⟨B, d, S, e1, m, ho.good, hl, fun n => by
   rw [ho.mem_small (fun x hx => by rw [List.mem_singleton.1 hx]; simp only; omega), mem_one]
   rfl⟩
  have HBO : Hid (∀ W B d S B' d' S', Rd spanE W B d S -> Rd spanE W B' d' S' -> Rv.Miss st S -> (Sp.Good S' ∧ S'.length <= 1 ∧ ∀ n, Sp.mem S' n ↔ t - s <= n ∧ n < t) -> Calls Tryz.prog 99 #[.slice B S.length d, .slice B' S'.length d'] W fun e w' => ∃ B d S, e = .returned (.slice B S.length d) ∧ Mine spanE W w' B d S ∧ Sp.Good S ∧ ∀ n, Sp.mem S n ↔ Rv.StillIn st (g1, g2) n) := fun W B d S B' d' S' hr hr' hm hs' => (both_any B d S B' d' S' W hr hr' hm.1 hs'.1 (by have := hm.len HHD.out; omega) (by omega)).mono fun e w' ⟨B2, d2, S2, e1, m, hg, hmm⟩ => ⟨B2, d2, S2, e1, m, hg, fun n => by
   rw [hmm, hm.2, hs'.2.2, HST.out, HDD.out]
   exact ⟨fun ⟨a, b⟩ => ⟨by omega, a, b⟩, fun ⟨_, a, b⟩ => ⟨a, b⟩⟩⟩
  have hf4 : Fresh w1 w3.drew := f3.out.drew
  clear HHD HDD HST HT1 HT2
  go_upto_region 4 with (fail)
  go_region_held3 (fun wx => wx.cell? ⟨p, 0, none⟩ = some (.int .u32 st.r) ∧ wx.cell? ⟨p, 1, none⟩ = some (.int .u32 st.h) ∧ wx.cell? ⟨b, 0, none⟩ = some (.int .u32 g1) ∧ wx.cell? ⟨b, 1, none⟩ = some (.int .u32 g2))
   (first
    |with_reducible exact KE.out _ (by with_reducible assumption)
    |exact KE.out _ (Touch.alloc (by with_reducible assumption) _)
    |with_reducible assumption)
   (first
    |(go_simp; go_at_call 101; with_reducible refine (HT3.out _).mono ?_; rintro e' w' ⟨rfl, rfl⟩)
    |(go_simp; go_at_call 55; with_reducible refine (HMI.out _ (by with_reducible assumption)).mono ?_; rintro e' w5 ⟨B5, d5, S5, rfl, hM5, hMs5⟩; have hf5 : Fresh w1 w5 := hf4.trans hM5.fresh (fun _ _ h => h); have hR5 := hM5.sl.rd; clear hM5)
    |(go_simp; go_at_call 100; refine (HOF.out _ _ _ (R1.out _)).mono ?_; rintro e' w6 ⟨B6, d6, S6, rfl, hM6, hs6⟩; have hf56 := Touch.trans ((Touch.refl (fun _ => False) _).alloc _) hM6.fresh (fun _ _ h => h); have hf6 : Fresh w1 w6 := hf5.trans hf56 (fun _ _ h => h); have hR6 := hM6.sl.rd; have hR56 := hR5.touch hf56 (fun _ _ _ h => h); clear hM6)
    |(go_simp; go_at_call 99; with_reducible refine (HBO.out _ _ _ _ _ _ _ (by with_reducible assumption) (by with_reducible assumption) (by with_reducible assumption) (by with_reducible assumption)).mono ?_; rintro e' w7 ⟨B7, d7, S7, rfl, hM7, hG7, hs7⟩; have hf7 : Fresh w1 w7 := hf6.trans hM7.fresh (fun _ _ h => h)))
  all_goals
   have M8 : Hid (Mine spanE w w7 B7 d7 S7) := hM7.back (F1.out.trans hf6 (fun _ _ h => h))
   have HG := lh (And.intro hG7 hs7)
   clear hM7 hG7 hs7 hf7 hR56 hR6 hf6 hf56 hs6 hR5 hf5 hMs5
   go_wp2
   go_ret
   exact ⟨B7, d7, S7, rfl, M8.out, HG.out.1, HG.out.2⟩

def Rv.GapTold (st : Rv.S) (l : List Int) (is : Bool) (st' : Rv.S) : Prop :=
 (is = false ∧ l = [] ∧ st' = { st with gaps := [] } ∧ ∀ g ∈ st.gaps, ∀ n, ¬ Rv.StillIn st g n) ∨
 (is = true ∧ ∃ (pre post : List (Int × Int)) (g : Int × Int) (x : Int × Int) (S : List (Int × Int)), st.gaps = pre ++ g :: post ∧ (∀ g' ∈ pre, ∀ n, ¬ Rv.StillIn st g' n) ∧ Sp.Good (x :: S) ∧ (∀ n, Sp.mem (x :: S) n ↔ Rv.StillIn st g n) ∧
  l = [(st.r + x.1) % 16777216, (st.r + x.2) % 16777216] ∧ st' = Rv.renew { st with gaps := post })

def RGapPost (w : World) (p : Nat) (F : Nat -> Prop) (st : Rv.S) (e : Ending) (w' : World) : Prop :=
 ∃ B d l is st', e = .returned (.tuple #[.slice B l.length d, .int .u32 (if is then st'.r else 0), .int .u32 (if is then st'.mr else 0), .bool is]) ∧ Rv.GapTold st l is st' ∧ RecvAt w' p F st' ∧ Touch F w w' ∧
  Sl numE w' B d l ∧ ∀ ad, B = some ad -> w.heap.size <= ad.block

theorem results_tmp4r {fn : Func} {t u v x : Tmp} (h : fn.results = #[.tmp t, .tmp u, .tmp v, .tmp x]) (tmps : Array Value) (P : Program) (w : World) :
  (results fn tmps).run P w = .ok (.tuple #[tmps.getD t undef, tmps.getD u undef, tmps.getD v undef, tmps.getD x undef]) w := by
 simp [results, h]

set_option maxRecDepth 4000 in
theorem rgap_any (p : Nat) (F : Nat -> Prop) (st : Rv.S) (w : World) (h : RecvAt w p F st) (hd : (st.h - st.r) % 16777216 <= 100000) (hw : 0 <= st.window ∧ st.window <= 64) (hi : st.inbox.length <= 1000000) (_hgl : st.gaps.length <= 1000000) :
  Calls Tryz.prog 24 #[.pointer (some ⟨p, 0, none⟩)] w (RGapPost w p F st) := by
 have H0 := lh h
 have HL := lh h.lim
 have HHD : Hid ((st.h - st.r) % 16777216 <= 100000) := hd
 have HW : Hid (0 <= st.window ∧ st.window <= 64) := hw
 clear h hd hw
 go_enter Tryz.func24, Tryz.ntmps24
 go_wp2_with fail
 go_loopw [6] (fun _ wr => ∃ (pre post : List (Int × Int)), Hid (st.gaps = pre ++ post) ∧ Hid (∀ g' ∈ pre, ∀ n, ¬ Rv.StillIn st g' n) ∧ Hid (RecvAt wr p F { st with gaps := post }) ∧ Hid (Touch F w wr)) (fun _ wr => match wr.cell? ⟨p, 6, none⟩ with | some (.slice _ n _) => n | _ => 0)
 case atStart => exact ⟨[], st.gaps, rfl, fun _ h => (by cases h), H0, Touch.refl _ _⟩
 case round =>
  clear H0
  obtain ⟨pre, post, HGS, HPR, HR, HT⟩ := hrel
  have HR2 := HR
  obtain ⟨k, A, c, G, d, i1, hF, hL⟩ := HR2.out
  have I1 := lh i1
  have HF := lh hF
  have c6 : wr.cell? ⟨p, 6, none⟩ = some (.slice G post.length d) := i1.blk.cell 6
  have C6 := lh c6
  clear i1 hF hL HR2
  cases hp : post with
  |nil =>
   subst hp
   have HX : Hid (RGapPost w p F st (.returned (.tuple #[.slice none 0 0, .int .u32 0, .int .u32 0, .bool false])) wr) :=
    ⟨none, 0, [], false, { st with gaps := [] }, rfl, .inl ⟨rfl, rfl, rfl, fun g hg => HPR.out g (by rw [HGS.out, List.append_nil] at hg; exact hg)⟩, HR.out, HT.out, Sl.nil _ _, fun _ e => by cases e⟩
   clear HGS HPR HR HT I1 HF C6
   rw [List.length_nil] at c6
   go_wp2
   refine bodyPost_ret (results_tmp4r rfl _ _ _) rfl ?_
   exact HX.out
  |cons g rest =>
   subst hp
   obtain ⟨gg, go, rfl, _, e0, e1⟩ := I1.out.gap.gap_at 0 (by simp)
   simp only [List.getD_cons_zero, Nat.zero_mul, Nat.add_zero] at e0 e1
   have HSI := lh (rstill_any p F _ g wr HR.out HHD.out)
   obtain ⟨g1, g2⟩ := g
   have hcap := I1.out.gap.1
   have hcapm := I1.out.gap.2.1
   unfold maxLen at hcapm
   rw [List.length_cons] at c6 C6 hcap
   obtain ⟨N, hN⟩ := qx rest.length
   rw [hN] at c6 C6 hcap
   have HN := lh hN
   obtain ⟨G2, hG2⟩ := qx ((if d = 1 then some (⟨gg, go, none⟩ : Addr) else some ⟨gg, go + 2, none⟩))
   have HS1 : Hid (∀ W, Fresh wr W -> Sl gapE W G2 (d - 1) rest) := fun W hf => by
    have := (I1.out.gap.touch hf (fun _ _ h => h)).from_ (k := 1) (by simp)
    rw [<- hG2]
    by_cases h1 : d = 1
    ·rw [if_pos h1] at this ⊢
     exact this
    ·rw [if_neg h1] at this ⊢
     simpa [Addr.add_lit, gapE] using this
   have HG2 : Hid (∀ ad, G2 = some ad -> F ad.block) := fun ad e => by
    have := HF.out.G _ rfl
    rw [<- hG2] at e
    split at e <;> (injection e with e; subst e; exact this)
   have hlz : (0 : Int) < (N : Int) + 1 := by omega
   have hdz : decide ((0 : Int) < (N : Int) + 1) = true := decide_eq_true hlz
   have h1c : (1 : Int) <= (N : Int) + 1 := by omega
   have hNc : (N : Int) + 1 <= (d : Int) := by omega
   clear hN
   simp only at e0 e1
   go_upto_region 3 with (go_at_call 56; refine HSI.out.mono ?_; rintro e w2 ⟨B2, d2, S2, rfl, m2, gs2, hs2⟩; have M2 := lh m2; have F2 := lh m2.fresh; have HS2 := lh (And.intro gs2 hs2); clear m2 gs2 hs2)
   have I2 := lh (I1.out.old F2.out)
   have C62 : w2.cell? ⟨p, 6, none⟩ = some (.slice (some ⟨gg, go, none⟩) (N + 1) d) := by
    have := (F2.out.blk I1.out.blk (fun h => h)).cell 6
    exact this.trans ((I1.out.blk.cell 6).symm.trans C6.out)
   have fz2 := I2.out.blk.frozen 6
   have I3 : Hid (RecvIn (w2.setCell ⟨p, 6, none⟩ (.slice G2 N (d - 1))) p k A c G2 (d - 1) { st with gaps := rest }) := by
    have := I2.out.gapped (HS1.out w2 F2.out)
    rwa [HN.out] at this
   have T3 : Hid (Touch F w (w2.setCell ⟨p, 6, none⟩ (.slice G2 N (d - 1)))) := (HT.out.trans F2.out (fun _ _ h => h.elim)).st HF.out.p
   have M3 : Hid (Mine spanE w2 (w2.setCell ⟨p, 6, none⟩ (.slice G2 N (d - 1))) none 0 [] -> True) := fun _ => trivial
   have SM3 : Hid (Sl spanE (w2.setCell ⟨p, 6, none⟩ (.slice G2 N (d - 1))) B2 d2 S2) := M2.out.sl.setCell (p := ⟨p, 6, none⟩) (M2.out.sl.blk_ne I2.out.blk (by decide)) _
   have R3 : Hid (RecvAt (w2.setCell ⟨p, 6, none⟩ (.slice G2 N (d - 1))) p F { st with gaps := rest }) := RecvAt.mk' I3.out ⟨HF.out.p, HF.out.k, HF.out.A, HG2.out⟩ HL.out T3.out.size
   have HWS : Hid (w.heap.size <= wr.heap.size) := HT.out.size
   have HMS : Hid ((match wr.cell? ⟨p, 6, none⟩ with | some (.slice _ n _) => n | _ => 0) = N + 1) := by unfold Hid; rw [C6.out]
   clear M3 HS1 HG2 HR HT I1 c6 C6 e0 e1 HSI I2
   go_cut [] (fun wx => wx = w2.setCell ⟨p, 6, none⟩ (.slice G2 N (d - 1)))
   case first =>
    by_cases h1 : d = 1
    ·rw [if_pos h1] at hG2
     subst h1
     have hN0 : N = 0 := by omega
     subst hN0
     subst hG2
     clear I3 T3 SM3 R3 hdz
     go_wp2
     go_meet
     case rel => first | rfl | trivial
    ·rw [if_neg h1] at hG2
     subst hG2
     clear I3 T3 SM3 R3 hdz
     go_wp2
     go_meet
     case rel => first | rfl | trivial
   case rest =>
    subst hcut
    have c6n : Hid ((match (w2.setCell ⟨p, 6, none⟩ (.slice G2 N (d - 1))).cell? ⟨p, 6, none⟩ with | some (.slice _ n _) => n | _ => 0) = N) := by
     have := I3.out.blk.cell 6
     unfold Hid
     rw [this]
     exact HN.out
    clear C62 fz2 hG2
    generalize w2.setCell ⟨p, 6, none⟩ (.slice G2 N (d - 1)) = w3 at *
    cases S2 with
    |nil =>
     have HPR2 : Hid (∀ g' ∈ pre ++ [(g1, g2)], ∀ n, ¬ Rv.StillIn st g' n) := fun g' hg n => by
      rcases List.mem_append.1 hg with hg | hg
      ·exact HPR.out g' hg n
      ·rw [List.mem_singleton.1 hg]
       exact fun hs => by
        have := (HS2.out.2 n).2 hs
        simp [Sp.mem] at this
     have HGS2 : Hid (st.gaps = (pre ++ [(g1, g2)]) ++ rest) := by unfold Hid; rw [HGS.out]; simp
     clear HPR HGS HS2 M2 F2 SM3 I3
     simp only [List.length_nil]
     go_wp2
     go_roundw
     case rel => exact ⟨pre ++ [(g1, g2)], rest, HGS2, HPR2, R3, T3⟩
     case measure => rw [HMS.out, c6n.out]; omega
    |cons x S' =>
     obtain ⟨gb, ob, rfl, hgb, _⟩ := SM3.out.at_ 0 (by simp)
     have HBF : Hid (¬ F gb) := fun hf => by
      have h1 := HL.out gb hf
      have h2 := M2.out.base _ rfl
      have h3 : w.heap.size <= wr.heap.size := by have := HWS.out; exact this
      simp only at h2
      omega
     have hx0 : 0 <= x.1 ∧ x.1 < x.2 ∧ x.2 <= (st.h - st.r) % 16777216 := by
      have hlt := HS2.out.1.1.1 x (by simp)
      have h1 := (HS2.out.2 x.1).1 ⟨x, by simp, by omega, hlt⟩
      have h2 := (HS2.out.2 (x.2 - 1)).1 ⟨x, by simp, by omega, by omega⟩
      have a1 : 0 <= x.1 := h1.2.1.1
      have a2 : x.2 - 1 < (st.h - st.r) % 16777216 := h2.2.1.2.1
      omega
     have hgx : Sp.Good [x] := ⟨⟨fun y hy => by rw [List.mem_singleton.1 hy]; omega, by simp⟩, fun y hy => by
      rw [List.mem_singleton.1 hy]
      have := HHD.out
      omega⟩
     have hhd := HHD.out
     obtain ⟨mr2, hmr2⟩ := Rv.renew_eq { st with gaps := rest }
     have HRE := lh hmr2
     have HRN := lh (rrenew_any p F { st with gaps := rest } w3 R3.out HW.out hi)
     rw [hmr2] at HRN
     have hnl : (0 : Int) < ((x :: S').length : Int) := by rw [List.length_cons]; omega
     have h1d : (1 : Int) <= ((x :: S').length : Int) := by rw [List.length_cons]; omega
     have hcd : ((x :: S').length : Int) <= (d2 : Int) := by have := SM3.out.1; omega
     have hcdm := SM3.out.2.1
     unfold maxLen at hcdm
     generalize hNS : (x :: S').length = ns at *
     have hnd : decide ((0 : Int) < (ns : Int)) = true := decide_eq_true hnl
     clear hmr2
     have h1d2 : (1 : Int) <= (d2 : Int) := by omega
     go_upto_region 6 with (go_at_call 53; refine HRN.out.mono ?_; rintro e w4 ⟨rfl, r4, t4⟩; have R4 := lh r4; have T4 := lh t4; clear r4 t4)
     have S4 : Hid (Rd spanE w4 (some ⟨gb, ob, none⟩) d2 [x]) := by
      have := (SM3.out.touch T4.out (fun ad e => by injection e with e; subst e; exact HBF.out)).rd.upto (k := 1) (by simp)
      exact this
     have HLI : Hid (∀ W, Fresh w4 W -> Calls Tryz.prog 54 #[.int .u32 st.r, .slice (some ⟨gb, ob, none⟩) 1 d2] W fun e w' => ∃ B' d', e = .returned (.slice B' 2 d') ∧ Mine numE W w' B' d' [(st.r + x.1) % 16777216, (st.r + x.2) % 16777216]) := fun W hf => (listg_any st.r _ d2 [x] W (S4.out.touch hf (fun _ _ _ h => h)) hgx (by simp)).mono fun e w' ⟨B', d', T, e1, m1, hh⟩ => by
      obtain rfl : T = [x] := half_near hh hgx (fun n hn => by
       obtain ⟨y, hy, h1, h2⟩ := hn
       rw [List.mem_singleton.1 hy] at h1 h2
       omega)
      rw [Gp.gl_one] at e1 m1
      exact ⟨B', d', e1, m1⟩
     obtain ⟨k4, A4, c4', G4, d4, i4, _, _⟩ := R4.out
     have I4 := lh i4
     have KE : Hid (∀ W, Fresh w4 W -> W.cell? ⟨p, 0, none⟩ = some (.int .u32 st.r) ∧ W.cell? ⟨p, 2, none⟩ = some (.int .u32 mr2)) := fun W hf => ⟨(I4.out.old hf).blk.cell 0, (I4.out.old hf).blk.cell 2⟩
     have hf4 : Fresh w4 w4.drew := (Touch.refl _ _).drew
     have HT4 : Hid (Touch F w w4) := T3.out.trans T4.out (fun _ _ h => h)
     have HGT : Hid (Rv.GapTold st [(st.r + x.1) % 16777216, (st.r + x.2) % 16777216] true { st with gaps := rest, mr := mr2 }) :=
      .inr ⟨rfl, pre, rest, (g1, g2), x, S', HGS.out, HPR.out, HS2.out.1, HS2.out.2, rfl, HRE.out.symm⟩
     clear i4 HRN SM3 M2 F2 HS2 HPR HGS I3 T3 T4 R3 HRE HMS c6n
     go_region_held3 (fun wx => wx.cell? ⟨p, 0, none⟩ = some (.int .u32 st.r) ∧ wx.cell? ⟨p, 2, none⟩ = some (.int .u32 mr2))
      (first
       |with_reducible exact KE.out _ (by with_reducible assumption)
       |with_reducible assumption)
      (first
       |(go_simp; go_at_call 54; with_reducible refine (HLI.out _ (by with_reducible assumption)).mono ?_; rintro e' w7 ⟨B7, d7, rfl, hM7⟩; have hf7 : Fresh w4 w7 := hf4.trans hM7.fresh (fun _ _ h => h)))
     all_goals
      have R7 := lh (R4.out.old hf7)
      have T7 : Hid (Touch F w w7) := HT4.out.trans hf7 (fun _ _ h => h.elim)
      have S7 : Hid (Sl numE w7 B7 d7 [(st.r + x.1) % 16777216, (st.r + x.2) % 16777216]) := hM7.sl
      have B7b : Hid (∀ ad, B7 = some ad -> w.heap.size <= ad.block) := fun ad e => by
       have h1 := hM7.base ad e
       have h2 := HT4.out.size
       have h3 := hf4.size
       omega
      have HX : Hid (RGapPost w p F st (.returned (.tuple #[.slice B7 2 d7, .int .u32 st.r, .int .u32 mr2, .bool true])) w7) := ⟨B7, d7, _, true, _, rfl, HGT.out, R7.out, T7.out, S7.out, B7b.out⟩
      clear hM7 hf7 hf4 KE HLI R4 HT4 R7 T7 S7 B7b HGT
      go_wp2
      refine bodyPost_ret (results_tmp4r rfl _ _ _) rfl ?_
      exact HX.out
end Go.Proofs.YtnenaemincfgpaaGreat

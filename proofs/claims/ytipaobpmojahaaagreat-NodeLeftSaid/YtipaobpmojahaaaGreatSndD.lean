/-
  send.Send: Due, Poll, Next of what goes again.
-/
import Derived.Test.YtipaobpmojahaaaGreatSnd
import Derived.Test.YtipaobpmojahaaaGreatSfM
import Derived.Deep.DeepCutAuto
import Derived.Test.YtipaobpmojahaaaGreatGapS
import Derived.Lib.SliceRun
import Derived.Test.YtipaobpmojahaaaGreatRow2
set_option maxHeartbeats 4000000
namespace Go.Proofs.YtipaobpmojahaaaGreat
open Go.RowKit

theorem spoll_any (p : Nat) (F : Nat -> Prop) (st : Sd.S) (w : World) (h : SendAt w p F st) :
  Calls Tryz.prog 40 #[.pointer (some ⟨p, 0, none⟩)] w fun e w' => e = .returned (.tuple #[.int .u32 ((st.ps + 1) % 16777216), .int .u32 st.s]) ∧ SendAt w' p F { st with ps := (st.ps + 1) % 16777216, units := 0 } ∧ Touch F w w' := by
 obtain ⟨g, b, k, A, c, h1, hF⟩ := h.open_
 have c3 : w.cell? ⟨p, 3, none⟩ = some (.int .u32 st.ps) := h1.blk.cell 3
 have f3 := h1.blk.frozen 3
 have i2 : SendIn (w.setCell ⟨p, 3, none⟩ (.int .u32 ((st.ps + 1) % 16777216))) p g b k A c { st with ps := (st.ps + 1) % 16777216 } := h1.scalar 3 _ rfl rfl rfl rfl rfl
 have f5 := i2.blk.frozen 5
 have c5 : (w.setCell ⟨p, 3, none⟩ (.int .u32 ((st.ps + 1) % 16777216))).cell? ⟨p, 5, none⟩ = some (.int .i64 st.units) := i2.blk.cell 5
 have i3 : SendIn ((w.setCell ⟨p, 3, none⟩ (.int .u32 ((st.ps + 1) % 16777216))).setCell ⟨p, 5, none⟩ (.int .i64 0)) p g b k A c { st with ps := (st.ps + 1) % 16777216, units := 0 } := i2.scalar 5 _ rfl rfl rfl rfl rfl
 have T3 : Hid (Touch F w ((w.setCell ⟨p, 3, none⟩ (.int .u32 ((st.ps + 1) % 16777216))).setCell ⟨p, 5, none⟩ (.int .i64 0))) := ((Touch.refl F w).st hF.p).st hF.p
 have I3 := lh i3
 have HF := lh hF
 have d0 : ((w.setCell ⟨p, 3, none⟩ (.int .u32 ((st.ps + 1) % 16777216))).setCell ⟨p, 5, none⟩ (.int .i64 0)).cell? ⟨p, 0, none⟩ = some (.int .u32 st.s) := i3.blk.cell 0
 have d3 : ((w.setCell ⟨p, 3, none⟩ (.int .u32 ((st.ps + 1) % 16777216))).setCell ⟨p, 5, none⟩ (.int .i64 0)).cell? ⟨p, 3, none⟩ = some (.int .u32 ((st.ps + 1) % 16777216)) := i3.blk.cell 3
 clear h h1 hF i2 i3
 go_enter Tryz.func40, Tryz.ntmps40
 go_wp2_with fail
 refine (sadd_any st.ps 1 w).mono ?_
 rintro e w1 ⟨rfl, rfl⟩
 simp only
 go_upto_region 2 with (fail)
 generalize (World.setCell (w1.setCell ⟨p, 3, none⟩ (.int .u32 ((st.ps + 1) % 16777216))) ⟨p, 5, none⟩ (.int .i64 0)) = w2 at *
 go_quiet (fail)
 go_wp2
 go_ret2
 exact ⟨rfl, SendAt.mk' (I3.out.drewN _) HF.out, T3.out.drewN _⟩

set_option maxRecDepth 4000 in
theorem snext_again (p : Nat) (F : Nat -> Prop) (st : Sd.S) (n : Int) (r : List Int) (v : ByteArray) (q : Int) (w : World) (h : SendAt w p F st) (ha : st.again = n :: r) (hm : mget st.m n = some (v, q)) (hu : 0 <= st.units ∧ st.units < 4611686018427387904) :
  Calls Tryz.prog 43 #[.pointer (some ⟨p, 0, none⟩)] w fun e w' => e = .returned (.tuple #[.int .u32 n, .string v, .bool false, .bool true]) ∧ SendAt w' p F (Sd.out { st with again := r } n v) ∧ Touch F w w' := by
 obtain ⟨g, b, k, A, c, h1, hF⟩ := h.open_
 have hag := h1.ag
 rw [ha] at hag
 obtain ⟨ga, oa, hAe, hga, ca⟩ := hag.num_at 0 (by simp)
 rw [Nat.add_zero, List.getD_cons_zero] at ca
 subst hAe
 have c9 : w.cell? ⟨p, 9, none⟩ = some (.slice (some ⟨ga, oa, none⟩) st.again.length c) := h1.blk.cell 9
 rw [ha, List.length_cons] at c9
 have c8 : w.cell? ⟨p, 8, none⟩ = some (.map (some k)) := h1.blk.cell 8
 have f9 := h1.blk.frozen 9
 have hcl := hag.1
 have hcm := hag.2.1
 unfold maxLen at hcm
 rw [List.length_cons] at hcl
 obtain ⟨B, hB⟩ := qx ((if c = 1 then some (⟨ga, oa, none⟩ : Addr) else some ⟨ga, oa + 1, none⟩))
 have hs2 : Sl numE w B (c - 1) r := by
  have := hag.from_ (k := 1) (by simp)
  rw [<- hB]
  by_cases h1 : c = 1
  ·rw [if_pos h1] at this ⊢
   exact this
  ·rw [if_neg h1] at this ⊢
   simpa [Addr.add_lit, numE] using this
 have hBA : ∀ ad, B = some ad -> ad.block = ga := fun ad e => by
  rw [<- hB] at e
  split at e <;> (injection e with e; subst e; rfl)
 have i2 : SendIn (w.setCell ⟨p, 9, none⟩ (.slice B r.length (c - 1))) p g b k B (c - 1) { st with again := r } := by
  have ht := Touch.set1 w p 9 (.slice B r.length (c - 1))
  refine ⟨h1.blk.set 9 _, h1.ring.touch ht (fun e => h1.ne_g e.symm) (fun z e e2 => h1.ne_b (by rw [e, e2])), h1.map.setCell (by exact h1.ne_k) _, hs2.setCell (p := ⟨p, 9, none⟩) (fun ad e => ?_) _⟩
  rw [hBA ad e]
  exact h1.ne_A _ rfl
 have HF2 : Hid (SendF p g b k B F) := ⟨hF.p, hF.g, hF.b, hF.k, fun ad e => by rw [hBA ad e]; exact hF.A _ rfl⟩
 have T2 : Hid (Touch F w (w.setCell ⟨p, 9, none⟩ (.slice B r.length (c - 1)))) := (Touch.refl F w).st hF.p
 have I2 := lh i2
 have D8 : Hid ((w.setCell ⟨p, 9, none⟩ (.slice B r.length (c - 1))).cell? ⟨p, 8, none⟩ = some (.map (some k))) := i2.blk.cell 8
 have HL : Hid (mget (Sd.mapV st.m) n = some (Sd.itemV (v, q))) := by unfold Hid; rw [Sd.mapV_get, hm]; rfl
 have HU := lh hu
 obtain ⟨N, hN⟩ := qx r.length
 rw [hN] at c9 hcl D8 I2 T2
 have hlz : (0 : Int) < (N : Int) + 1 := by omega
 have hdz : decide ((0 : Int) < (N : Int) + 1) = true := decide_eq_true hlz
 have h1c : (1 : Int) <= (N : Int) + 1 := by omega
 have hNc : (N : Int) + 1 <= (c : Int) := by omega
 clear h h1 hF hag hs2 hBA i2 ha hm hu hN
 go_enter Tryz.func43, Tryz.ntmps43
 go_upto_region 3 with (fail)
 go_cut [] (fun wx => wx = w.setCell ⟨p, 9, none⟩ (.slice B N (c - 1)))
 case first =>
  by_cases h1 : c = 1
  ·rw [if_pos h1] at hB
   subst h1
   have hN0 : N = 0 := by omega
   subst hN0
   subst hB
   clear I2 T2 HF2 D8 hdz
   go_wp2
   go_meet
   case rel => first | rfl | trivial
  ·rw [if_neg h1] at hB
   subst hB
   clear I2 T2 HF2 D8 hdz
   go_wp2
   go_meet
   case rel => first | rfl | trivial
 case rest =>
  subst hcut
  have d8 := D8.out
  clear D8 hB c9 c8 f9 hlz hdz h1c hNc
  generalize w.setCell ⟨p, 9, none⟩ (.slice B N (c - 1)) = w2 at *
  have hz : ∀ W, (zeroValue 189).run Tryz.prog W = .ok (.agg #[.string ByteArray.empty, .int .u32 0]) W := fun W => by kernel_rfl
  have hfd : (Instr.field 189 (Value.agg #[Value.string v, Value.int .u32 q]) 0).run Tryz.prog w2 = .ok (.string v) w2 := by kernel_rfl
  go_upto_region 4 with (fail)
  go_wp2_with (refine wpList_lookM rfl rfl (K := numK) (k := n) rfl rfl I2.out.map Tryz.underlying183 (hz _) ?_; rw [if_neg (by decide), HL.out]; simp only [Option.getD_some, Sd.itemV])
  go_wp2_with fail
  refine (sout_any p F { st with again := r } n v w2 (SendAt.mk' I2.out HF2.out) HU.out).mono ?_
  rintro e w3 ⟨rfl, h3, t3⟩
  have HX := lh h3
  have HT : Hid (Touch F w w3) := T2.out.trans t3 (fun _ _ h => h)
  clear h3 t3
  simp only
  go_wp2
  exact bodyPost_ret (results_tmp4 rfl _ _ _) rfl ⟨rfl, HX.out, HT.out⟩

theorem ringStr_allm (g : Nat) (b : Option Nat) (most : Nat) (q : List ByteArray) (w : World) (h : RingStr w g b most q) :
  Calls Tryz.prog 183 #[.pointer (some ⟨g, 0, none⟩)] w fun e w' => ∃ A' c', e = .returned (.slice A' q.length c') ∧ Mine strE w w' A' c' q := by
 obtain ⟨A, c, a, buf, hb, hs, rfl, hm1, hm2, hg⟩ := h
 exact (ringStr_all g A c a most buf q w hb hs ⟨hm1, hm2⟩ hg).mono fun e w' ⟨A', c', h1, h2, h3, h4, _⟩ => ⟨A', c', h1, h2, h3, h4⟩

set_option maxRecDepth 4000 in
theorem sleft_any (p : Nat) (F : Nat -> Prop) (x : Sf.S) (lo hi : Int) (hok : Sf.Ok x lo hi) (w : World) (h : SendAt w p F (Sf.prog x)) :
  Calls Tryz.prog 103 #[.pointer (some ⟨p, 0, none⟩)] w fun e w' => ∃ B d, e = .returned (.slice B (x.kept ++ x.wait).length d) ∧ Mine strE w w' B d (x.kept ++ x.wait) := by
 obtain ⟨g, b, k, A, c, h1, hF⟩ := h.open_
 have HI := lh h1
 have KEEP : Hid (∀ W, Fresh w W -> W.cell? ⟨p, 0, none⟩ = some (.int .u32 (x.s % 16777216)) ∧ W.cell? ⟨p, 1, none⟩ = some (.int .u32 (x.a % 16777216)) ∧ W.cell? ⟨p, 7, none⟩ = some (.pointer (some ⟨g, 0, none⟩)) ∧ W.cell? ⟨p, 8, none⟩ = some (.map (some k)) ∧ MapAt numK W k (Sd.mapV (Sf.prog x).m) ∧ RingStr W g b x.most x.wait) := fun W hf =>
  ⟨(hf.blk h1.blk (fun h => h)).cell 0, (hf.blk h1.blk (fun h => h)).cell 1, (hf.blk h1.blk (fun h => h)).cell 7, (hf.blk h1.blk (fun h => h)).cell 8, h1.map.touch hf (fun h => h), h1.ring.touch hf (fun h => h) (fun _ _ h => h)⟩
 have hk := hok.klen
 have hl := hok.kl
 have hwl := hok.wlen
 have hmo := hok.most
 have HG : Hid (∀ j, j < x.kept.length -> mget (Sd.mapV (Sf.prog x).m) ((x.a + (j : Int)) % 16777216) = some (Sd.itemV (x.kept.getD j default, x.last.getD j 0 % 16777216))) := fun j hj => by
  rw [Sd.mapV_get]
  have := hok.left j hj
  rw [show (x.a % 16777216 + (j : Int)) % 16777216 = (x.a + (j : Int)) % 16777216 by omega] at this
  rw [this]
  rfl
 have hz : ∀ W, (zeroValue 189).run Tryz.prog W = .ok (.agg #[.string ByteArray.empty, .int .u32 0]) W := fun W => by kernel_rfl
 obtain ⟨c0, c1, c7, c8, _, _⟩ := KEEP.out w (Touch.refl _ _)
 clear h h1 hF hok HI
 go_enter Tryz.func103, Tryz.ntmps103
 go_wp2_with fail
 go_loopw [3, 4] (fun s3 s4 wr => ∃ (j : Nat) (C : Option Addr) (d : Nat) (M : List ByteArray), j <= x.kept.length ∧ s3 = .slice C M.length d ∧ s4 = .int .u32 ((x.a + (j : Int)) % 16777216) ∧ Hid (M = x.kept.take j) ∧ Hid (Mine strE w wr C d M)) (fun _ s4 _ => ((x.s - intOf s4) % 16777216).toNat)
 case atStart => exact ⟨0, none, 0, [], by omega, rfl, by simp, by unfold Hid; simp, Mine.nil _ _⟩
 case round =>
  obtain ⟨j, C, d, M, hj, rfl, rfl, HMe, HM⟩ := hrel
  clear c0 c1 c7 c8
  obtain ⟨c0, c1, c7, c8, hmap, hring⟩ := KEEP.out wr HM.out.fresh
  have HMap := lh hmap
  have HRing := lh hring
  clear hmap hring
  have hML : Hid (M.length = j) := by unfold Hid; rw [HMe.out]; simp; omega
  by_cases hlt : j < x.kept.length
  ·have hne : ((x.a + (j : Int)) % 16777216 == x.s % 16777216) = false := by simp; omega
   have HMs : Hid (x.kept.take (j + 1) = M ++ [x.kept.getD j default]) := by
    unfold Hid
    rw [List.take_succ_eq_append_getElem hlt, HMe.out]
    simp [List.getD, List.getElem?_eq_getElem hlt]
   have HGj := lh (HG.out j hlt)
   have hnx : ((x.a + (j : Int)) % 16777216 + 1) % 16777216 = (x.a + ((j + 1 : Nat) : Int)) % 16777216 := by omega
   have hms : ((x.s - (x.a + ((j + 1 : Nat) : Int)) % 16777216) % 16777216).toNat < ((x.s - (x.a + (j : Int)) % 16777216) % 16777216).toNat := by omega
   have HSA := lh (sadd_any ((x.a + (j : Int)) % 16777216) 1)
   rw [hnx] at HSA
   generalize hv : x.kept.getD j default = v at *
   generalize hq : x.last.getD j 0 % 16777216 = q at *
   generalize hn0 : (x.a + (j : Int)) % 16777216 = n0 at *
   have hfd : (Instr.field 189 (Value.agg #[Value.string v, Value.int .u32 q]) 0).run Tryz.prog wr = .ok (.string v) wr := by kernel_rfl
   have hMb : M.length + 1 <= 8796093022208 := by have := hML.out; omega
   clear hML HMe HG hv hq hn0 hnx HRing
   go_wp2_with (first
    |(refine wpList_lookM rfl rfl (K := numK) (k := n0) rfl rfl HMap.out Tryz.underlying183 (hz _) ?_; rw [if_neg (by decide), HGj.out]; simp only [Option.getD_some, Sd.itemV])
    |(at_builtin; refine app_str rfl rfl (l := M) (l2 := [v]) rfl rfl (by exact HM.out.sl.alloc _) (Sl.rd (Sl.lit strE _ _ rfl _ _ rfl _ rfl (by decide))) (by simp; omega) ?_; intro A2 c2 L2 w2 hL2 hs2 ht2 hA2)
    |(go_at_call 16; refine (HSA.out _).mono ?_; rintro e' w' ⟨rfl, rfl⟩))
   have HM2 := lh ((HM.out.alloc (.cells #[.string v] 9)).app hs2 ht2 hA2)
   have HMe2 : Hid (L2 = x.kept.take (j + 1)) := by unfold Hid; rw [hL2.out, HMs.out]
   go_roundw
   case rel => exact ⟨j + 1, A2, c2, L2, hlt, rfl, rfl, HMe2, HM2⟩
   case measure => simp only [intOf]; exact hms
  ·obtain rfl : j = x.kept.length := by omega
   have hne : ((x.a + (x.kept.length : Int)) % 16777216 == x.s % 16777216) = true := by rw [hk]; simp
   have HA := lh (ringStr_allm g b x.most x.wait wr HRing.out)
   have HME : Hid (M = x.kept) := by unfold Hid; rw [HMe.out, List.take_length]
   have hMb : M.length + x.wait.length <= 8796093022208 := by have := hML.out; omega
   clear hML HMe HG HRing HMap
   go_wp2_with fail
   refine HA.out.mono ?_
   rintro e w3 ⟨B, d3, rfl, m3⟩
   have HM3 := lh (HM.out.old m3.fresh)
   have HW := lh m3.sl.rd
   clear m3
   simp only
   go_wp2_with (at_builtin; refine app_str rfl rfl (l := M) (l2 := x.wait) rfl rfl HM3.out.sl HW.out hMb ?_; intro A2 c2 L2 w2 hL2 hs2 ht2 hA2)
   have HM4 := lh (HM3.out.app hs2 ht2 hA2)
   have HL2 : Hid (L2 = x.kept ++ x.wait) := by unfold Hid; rw [hL2.out, HME.out]
   go_ret
   exact ⟨A2, c2, by rw [<- HL2.out]; rfl, HL2.out ▸ HM4.out⟩

theorem swithin_any (a x b : Int) (w : World) : Calls Tryz.prog 227 #[.int .u32 a, .int .u32 x, .int .u32 b] w fun e w' => e = .returned (.bool (decide ((x - a) % 16777216 <= (b - a) % 16777216))) ∧ w' = w := by
 have H1 := lh (to_any a x)
 have H2 := lh (to_any a b)
 generalize (x - a) % 16777216 = d at *
 generalize (b - a) % 16777216 = f at *
 go_enter Tryz.func227, Tryz.ntmps227
 go_wp2_with fail
 refine (H1.out _).mono ?_
 rintro e w1 ⟨rfl, rfl⟩
 simp only
 go_wp2_with fail
 refine (H2.out _).mono ?_
 rintro e w1 ⟨rfl, rfl⟩
 simp only
 go_wp2
 go_ret
 exact ⟨rfl, rfl⟩

def ToldPost (x : Sf.S) (r : Int) (l : List Int) (w : World) (e : Ending) (w' : World) : Prop :=
 (Sf.toldOk x r l = true -> ∃ C g S, e = .returned (.tuple #[.slice C S.length g, .bool true]) ∧ Mine spanE w w' C g S ∧ Sp.IsOf (Gp.prs (Gp.ats (Sf.at_ x r) l)) S) ∧
 (Sf.toldOk x r l = false -> e = .returned (.tuple #[.slice none 0 0, .bool false]) ∧ Fresh w w')

theorem stold_any (p : Nat) (F : Nat -> Prop) (x : Sf.S) (lo hi : Int) (hok : Sf.Ok x lo hi) (r : Int) (A : Option Addr) (c : Nat) (l : List Int) (w : World) (h : SendAt w p F (Sf.prog x)) (hr : Rd numE w A c l) (hl : l.length <= 1000000) :
  Calls Tryz.prog 228 #[.pointer (some ⟨p, 0, none⟩), .int .u32 r, .slice A l.length c] w (ToldPost x r l w) := by
 obtain ⟨g, b, k, A', c', h1, hF⟩ := h.open_
 have c0 : w.cell? ⟨p, 0, none⟩ = some (.int .u32 (x.s % 16777216)) := h1.blk.cell 0
 have c1 : w.cell? ⟨p, 1, none⟩ = some (.int .u32 (x.a % 16777216)) := h1.blk.cell 1
 have HWI : Hid (∀ W, Calls Tryz.prog 227 #[.int .u32 (x.a % 16777216), .int .u32 r, .int .u32 (x.s % 16777216)] W fun e w' => e = .returned (.bool (decide (Sf.at_ x r <= x.s))) ∧ w' = W) := fun W => by
  rw [<- hok.within r]
  exact swithin_any _ _ _ W
 have HS : Hid (∀ W, Fresh w W -> Calls Tryz.prog 256 #[.int .u32 r, .int .u32 (x.s % 16777216), .slice A l.length c] W (SetPost r (x.s % 16777216) l W)) := fun W hf => gset_any r (x.s % 16777216) A c l W (hr.touch hf (fun _ _ _ h => h)) hl
 have HP : Hid (∀ W e w', Fresh w W -> SetPost r (x.s % 16777216) l W e w' -> Sf.at_ x r <= x.s -> ToldPost x r l w e w') := fun W e w' hf hp hle => by
  have e1 : Sf.toldOk x r l = Gp.okSet r (x.s % 16777216) l := by unfold Sf.toldOk; rw [decide_eq_true hle, Sf.okSet_at]; rfl
  unfold ToldPost
  rw [e1, <- Sf.ats_at x r l]
  refine ⟨fun h => ?_, fun h => ?_⟩
  ·obtain ⟨C, g, S, e1, m, ho⟩ := hp.1 h
   exact ⟨C, g, S, e1, m.back hf, ho⟩
  ·obtain ⟨e1, f1⟩ := hp.2 h
   exact ⟨e1, hf.trans f1 (fun _ _ h => h)⟩
 have HN : Hid (¬ Sf.at_ x r <= x.s -> Sf.toldOk x r l = false) := fun hn => by unfold Sf.toldOk; rw [decide_eq_false hn]; rfl
 clear h h1 hF hok hr
 generalize x.s % 16777216 = sv at *
 generalize x.a % 16777216 = av at *
 go_enter Tryz.func228, Tryz.ntmps228
 by_cases hle : Sf.at_ x r <= x.s
 ·rw [decide_eq_true hle] at HWI
  have HP2 := lh (fun W e w' hf h => HP.out W e w' hf h hle)
  clear HP HN hle
  go_upto_region 1 with (fail)
  go_quiet ((go_at_call 227; refine Calls.quiet_of_same (HWI.out _)))
  have F1 : Hid (Fresh w (w.drewN nq)) := (Touch.refl _ _).drewN _
  have c0' : (w.drewN nq).cell? ⟨p, 0, none⟩ = some (.int .u32 sv) := c0
  generalize w.drewN nq = w1 at *
  go_wp2_with fail
  refine (HS.out _ F1.out).mono ?_
  rintro e w2 hp
  have HQ := HP2.out _ e w2 F1.out hp
  clear hp HP2 HS HWI c0 c0' c1
  cases ht : Sf.toldOk x r l with
  |true =>
   obtain ⟨C, g2, S, rfl, m, ho⟩ := HQ.1 ht
   have HM := lh m
   have HO := lh ho
   clear HQ m ho
   go_wp2
   go_ret2
   exact ⟨fun _ => ⟨C, g2, S, rfl, HM.out, HO.out⟩, fun hh => absurd (ht.symm.trans hh) (by decide)⟩
  |false =>
   obtain ⟨rfl, f⟩ := HQ.2 ht
   have HM := lh f
   clear HQ f
   go_wp2
   go_ret2
   exact ⟨fun hh => absurd (ht.symm.trans hh) (by decide), fun _ => ⟨rfl, HM.out⟩⟩
 ·rw [decide_eq_false hle] at HWI
  have HF := HN.out hle
  clear HP HN hle HS
  go_upto_region 1 with (fail)
  go_quiet ((go_at_call 227; refine Calls.quiet_of_same (HWI.out _)))
  go_wp2
  go_ret2
  exact ⟨fun hh => absurd (HF.symm.trans hh) (by decide), fun _ => ⟨rfl, (Touch.refl _ _).drewN _⟩⟩

set_option maxRecDepth 4000 in
theorem sackcl_any (s p k : Nat) (m : List (Int × (ByteArray × Int))) (n : Int) (w : World) (cs : w.cell? ⟨s, 0, none⟩ = some (.pointer (some ⟨p, 0, none⟩))) (c8 : w.cell? ⟨p, 8, none⟩ = some (.map (some k))) (hm : MapAt numK w k (Sd.mapV m)) :
  Calls Tryz.prog 258 #[.int .u32 n, .pointer (some ⟨s, 0, none⟩)] w fun e w' => e = .returned (.bool (!(mget m n).isSome)) ∧ Fresh w w' := by
 have hz : ∀ W, (zeroValue 189).run Tryz.prog W = .ok (.agg #[.string ByteArray.empty, .int .u32 0]) W := fun W => by kernel_rfl
 have HM := lh hm
 have HL : Hid (∃ v q, (mget (Sd.mapV m) n).getD (.agg #[.string ByteArray.empty, .int .u32 0]) = .agg #[.string v, .int .u32 q] ∧ (mget (Sd.mapV m) n).isSome = (mget m n).isSome) := by
  unfold Hid
  rw [Sd.mapV_get]
  cases mget m n with
  |none => exact ⟨_, _, rfl, rfl⟩
  |some y => exact ⟨_, _, rfl, rfl⟩
 obtain ⟨v, q, hv, hs⟩ := HL.out
 have HV := lh hv
 have HS := lh hs
 clear hm hv hs HL
 generalize (mget m n).isSome = z at *
 go_enter Tryz.func258, Tryz.ntmps258
 go_wp2_with (refine wpList_lookM rfl rfl (K := numK) (k := n) rfl rfl HM.out Tryz.underlying183 (hz _) ?_; rw [if_pos rfl, HV.out, HS.out])
 go_ret
 exact ⟨rfl, (by first | exact ((Touch.refl _ _).alloc _) | exact (((Touch.refl _ w).alloc _).setCell (fun h => by simp at h) _))⟩

set_option maxRecDepth 4000 in
theorem sidxf_any (s : Nat) (pr : Int -> Bool) (A : Option Addr) (c : Nat) (l : List Int) (w : World) (h : Rd numE w A c l) (hl : l.length <= 1000000)
  (hp : ∀ W x, Fresh w W -> Calls Tryz.prog 258 #[.int .u32 x, .pointer (some ⟨s, 0, none⟩)] W fun e w' => e = .returned (.bool (pr x)) ∧ Fresh W w') :
  Calls Tryz.prog 205 #[.slice A l.length c, .func (.func 258) #[] #[.pointer (some ⟨s, 0, none⟩)]] w fun e w' => Fresh w w' ∧ ((e = .returned (.int .i64 (-1)) ∧ ∀ x ∈ l, pr x = false) ∨ ∃ k : Nat, k < l.length ∧ e = .returned (.int .i64 k) ∧ pr (l.getD k 0) = true ∧ ∀ x ∈ l.take k, pr x = false) := by
 have H := lh h
 have HP := lh hp
 have eg : ∀ args w, (callFunc 258 args).run Tryz.prog w = .ok (.enter 258 args) w := enters_of Tryz.func258 (by kernel_rfl) rfl
 clear h hp
 go_enter Tryz.func205, Tryz.ntmps205
 go_wp2_with fail
 go_loopw [8] (fun s8 wr => ∃ k : Nat, k <= l.length ∧ s8 = .int .i64 k ∧ Hid (∀ x ∈ l.take k, pr x = false) ∧ Hid (Fresh w wr)) (fun s8 _ => l.length - (intOf s8).toNat)
 case atStart => exact ⟨0, by omega, rfl, fun x hx => by simp at hx, Touch.refl _ _⟩
 case round =>
  obtain ⟨k, hk, rfl, HB, HF⟩ := hrel
  by_cases hlt : k < l.length
  ·have hk1 : (k : Int) < (l.length : Int) := by omega
   have hk0 : (0 : Int) <= (k : Int) := by omega
   obtain ⟨g, o, rfl, _, c0⟩ := (H.out.touch HF.out (fun _ _ _ h => h)).num_at k hlt
   have HT : Hid (l.take (k + 1) = l.take k ++ [l.getD k 0]) := by
    unfold Hid
    rw [List.take_succ_eq_append_getElem hlt]
    simp [List.getD, List.getElem?_eq_getElem hlt]
   generalize hy : l.getD k 0 = y at *
   have HC := lh (HP.out wr y HF.out)
   generalize hz : pr y = z at *
   go_wp2_with fail
   refine HC.out.mono ?_
   rintro e w2 ⟨rfl, f2⟩
   have F2 := lh (HF.out.trans f2 (fun _ _ h => h))
   clear f2 HC HF eg
   cases z with
   |true =>
    go_wp2
    go_ret
    exact ⟨F2.out, .inr ⟨k, hlt, rfl, by rw [hy, hz], HB.out⟩⟩
   |false =>
    have HB2 : Hid (∀ x ∈ l.take (k + 1), pr x = false) := fun x hx => by
     rw [HT.out] at hx
     rcases List.mem_append.1 hx with hx | hx
     ·exact HB.out x hx
     ·rw [List.mem_singleton.1 hx]
      exact hz
    clear HB
    go_wp2
    go_roundw
    case rel => exact ⟨k + 1, hlt, by go_num, HB2, F2⟩
    case measure => simp [intOf]; omega
  ·obtain rfl : k = l.length := by omega
   have HB2 : Hid (∀ x ∈ l, pr x = false) := fun x hx => HB.out x (by rw [List.take_length]; exact hx)
   clear HB
   go_wp2
   go_ret
   exact ⟨HF.out, .inl ⟨rfl, HB2.out⟩⟩

theorem filt_succ (pr : Int -> Bool) (l : List Int) (j : Nat) (hj : j < l.length) : (l.take (j + 1)).filter (fun x => !pr x) = if pr (l.getD j 0) = true then (l.take j).filter (fun x => !pr x) else (l.take j).filter (fun x => !pr x) ++ [l.getD j 0] := by
 have e : l.getD j 0 = l[j] := by simp [List.getD, List.getElem?_eq_getElem hj]
 rw [List.take_succ_eq_append_getElem hj, List.filter_append, e]
 by_cases h : pr l[j] = true
 ·rw [if_pos h]
  simp [h]
 ·rw [if_neg h]
  simp [h]
theorem filt_le (pr : Int -> Bool) (l : List Int) (j : Nat) : ((l.take j).filter (fun x => !pr x)).length <= j := by
 refine Nat.le_trans (List.length_filter_le _ _) ?_
 simp
 omega
structure DelAt (pr : Int -> Bool) (l M : List Int) (j : Nat) : Prop where
 len : M.length = l.length
 take : M.take ((l.take j).filter (fun x => !pr x)).length = (l.take j).filter (fun x => !pr x)
 drop : M.drop j = l.drop j
theorem DelAt.getD {pr : Int -> Bool} {l M : List Int} {j : Nat} (h : DelAt pr l M j) (_hj : j < l.length) : M.getD j 0 = l.getD j 0 := by
 have h1 : M[j]? = l[j]? := by
  have := congrArg (fun L => L[0]?) h.drop
  simpa using this
 simp [List.getD, h1]
theorem DelAt.skip {pr : Int -> Bool} {l M : List Int} {j : Nat} (h : DelAt pr l M j) (hj : j < l.length) (hp : pr (l.getD j 0) = true) : DelAt pr l M (j + 1) := by
 refine ⟨h.len, ?_, ?_⟩
 ·rw [filt_succ pr l j hj, if_pos hp]
  exact h.take
 ·have := congrArg (List.drop 1) h.drop
  simpa [List.drop_drop, Nat.add_comm] using this
theorem DelAt.keep {pr : Int -> Bool} {l M : List Int} {j : Nat} (h : DelAt pr l M j) (hj : j < l.length) (hp : pr (l.getD j 0) = false) : DelAt pr l (M.set ((l.take j).filter (fun x => !pr x)).length (l.getD j 0)) (j + 1) := by
 have hle := filt_le pr l j
 have e := filt_succ pr l j hj
 rw [if_neg (by rw [hp]; decide)] at e
 refine ⟨by rw [List.length_set]; exact h.len, ?_, ?_⟩
 ·rw [e, List.length_append, List.length_singleton, List.take_succ_eq_append_getElem (by rw [List.length_set, h.len]; omega), List.getElem_set_self, List.take_set_of_le (Nat.le_refl _), h.take]
 ·rw [List.drop_set_of_lt (by omega)]
  have := congrArg (List.drop 1) h.drop
  simpa [List.drop_drop, Nat.add_comm] using this
theorem DelAt.first {pr : Int -> Bool} {l : List Int} {k : Nat} (hk : k <= l.length) (h : ∀ x ∈ l.take k, pr x = false) : DelAt pr l l k ∧ ((l.take k).filter (fun x => !pr x)).length = k := by
 have e : (l.take k).filter (fun x => !pr x) = l.take k := List.filter_eq_self.2 fun x hx => by simp [h x hx]
 have e2 : (l.take k).length = k := by simp; omega
 exact ⟨⟨rfl, by rw [e, e2], rfl⟩, by rw [e, e2]⟩

theorem Sl.tail_set {w : World} {g o c : Nat} {l : List Int} (h : Sl numE w (some ⟨g, o, none⟩) c l) (i : Nat) (hi : i <= l.length) (vs : List Value) (hv : i + vs.length <= c) :
  Sl numE (w.setCells g (o + i) vs) (some ⟨g, o, none⟩) c (l.take i) := by
 refine ⟨by have := h.1; simp; omega, h.2.1, h.2.2.1, fun ad ha => ?_⟩
 obtain ⟨h1, cs, hb, h2, h3⟩ := h.2.2.2 ad ha
 injection ha with ha
 subst ha
 have hz : numE.size = 1 := rfl
 rw [hz, Nat.mul_one] at h2 h3
 simp only at h2 h3 hb
 have e1 : numE.all (l.take i) = (numE.all l).take i := by have := numE.all_take l i; rw [hz, Nat.mul_one] at this; exact this.symm
 have e2 : (l.take i).length = i := by simp; omega
 have hcl := h.1
 refine ⟨rfl, _, Blk.setCells_at vs (o + i) hb (by omega), ?_, ?_⟩
 ·rw [hz, Nat.mul_one]
  show o + c <= _
  simp
  omega
 ·show List.take _ (List.drop o _) = _
  rw [hz, Nat.mul_one, e1, <- h3, e2, List.take_take, Nat.min_eq_left hi, List.append_assoc, List.drop_append_of_le_length (by simp; omega), List.take_append_of_le_length (by simp; omega), List.drop_take, List.take_take]
  congr 1
  omega

set_option maxRecDepth 4000 in
theorem sdelf_any (s : Nat) (pr : Int -> Bool) (g o c : Nat) (l : List Int) (w : World) (h : Sl numE w (some ⟨g, o, none⟩) c l) (hl : l.length <= 1000000)
  (hp : ∀ W x, Touch (· = g) w W -> Calls Tryz.prog 258 #[.int .u32 x, .pointer (some ⟨s, 0, none⟩)] W fun e w' => e = .returned (.bool (pr x)) ∧ Fresh W w') :
  Calls Tryz.prog 257 #[.slice (some ⟨g, o, none⟩) l.length c, .func (.func 258) #[] #[.pointer (some ⟨s, 0, none⟩)]] w fun e w' => e = .returned (.slice (some ⟨g, o, none⟩) (l.filter fun x => !pr x).length c) ∧ Sl numE w' (some ⟨g, o, none⟩) c (l.filter fun x => !pr x) ∧ Touch (· = g) w w' := by
 have H := lh h
 have HP := lh hp
 have HI := lh (sidxf_any s pr (some ⟨g, o, none⟩) c l w h.rd hl (fun W x hf => hp W x (hf.mono (fun _ _ h => h.elim))))
 have eg : ∀ args w, (callFunc 258 args).run Tryz.prog w = .ok (.enter 258 args) w := enters_of Tryz.func258 (by kernel_rfl) rfl
 have hcl := h.1
 have hcm := h.2.1
 unfold maxLen at hcm
 clear h hp
 go_enter Tryz.func257, Tryz.ntmps257
 go_wp2_with fail
 refine HI.out.mono ?_
 rintro e w1 ⟨f1, hcase⟩
 have F1 := lh f1
 rcases hcase with ⟨rfl, hall⟩ | ⟨k, hk, rfl, hpk, hfirst⟩
 ·have HA : Hid (l.filter (fun x => !pr x) = l) := List.filter_eq_self.2 fun x hx => by simp [hall x hx]
  clear f1 hall HI HP
  simp only
  go_wp2
  go_ret
  exact ⟨by rw [HA.out]; rfl, by rw [HA.out]; exact H.out.touch F1.out (fun _ _ h => h), F1.out.mono (fun _ _ h => h.elim)⟩
 ·have hke : ((k : Int) == -1) = false := by simp
  obtain ⟨d1, d2⟩ := DelAt.first (pr := pr) (l := l) (Nat.le_of_lt hk) hfirst
  have HD0 := lh (d1.skip hk hpk)
  have HL0 : Hid (((l.take (k + 1)).filter (fun x => !pr x)).length = k) := by unfold Hid; rw [filt_succ pr l k hk, if_pos hpk]; exact d2
  have S1 := lh (H.out.touch f1 (fun _ _ h => h))
  have T1 : Hid (Touch (· = g) w w1) := f1.mono (fun _ _ h => h.elim)
  clear f1 d1 d2 hfirst hpk HI F1 H
  simp only
  go_wp2_with fail
  go_loopw [5, 6] (fun s5 s6 wr => ∃ (i j : Nat) (M : List Int), j <= l.length ∧ i < j ∧ s5 = .int .i64 i ∧ s6 = .int .i64 j ∧ Hid (((l.take j).filter (fun x => !pr x)).length = i) ∧ Hid (DelAt pr l M j) ∧ Hid (Sl numE wr (some ⟨g, o, none⟩) c M) ∧ Hid (Touch (· = g) w wr)) (fun _ s6 _ => l.length - (intOf s6).toNat)
  case atStart => exact ⟨k, k + 1, l, hk, by omega, rfl, by go_num, HL0, HD0, S1, T1⟩
  case round =>
   clear HD0 HL0 S1 T1
   obtain ⟨i, j, M, hj, hij, rfl, rfl, HL, HD, HS, HT⟩ := hrel
   by_cases hlt : j < l.length
   ·have hj1 : (j : Int) < (l.length : Int) := by omega
    have hj0 : (0 : Int) <= (j : Int) := by omega
    have hi1 : (i : Int) < (l.length : Int) := by omega
    have hi0 : (0 : Int) <= (i : Int) := by omega
    have hML : M.length = l.length := HD.out.len
    obtain ⟨_, _, e1, _, c0⟩ := HS.out.num_at j (by omega)
    cases e1
    rw [HD.out.getD hlt] at c0
    have HK := lh (fun h => HD.out.keep hlt h)
    have HSk := lh (fun h => HD.out.skip hlt h)
    have HLs := lh (filt_succ pr l j hlt)
    have HC := lh (HP.out wr (l.getD j 0) HT.out)
    generalize hy : l.getD j 0 = y at *
    generalize hz : pr y = z at *
    go_wp2_with fail
    refine HC.out.mono ?_
    rintro e w2 ⟨rfl, f2⟩
    have S2 := lh (HS.out.touch f2 (fun _ _ h => h))
    have T2 := lh (HT.out.trans f2 (fun _ _ h => h.elim))
    clear f2 HC HS HT
    cases z with
    |true =>
     go_wp2
     go_roundw
     case rel => exact ⟨i, j + 1, M, hlt, by omega, rfl, by go_num, by unfold Hid; rw [HLs.out]; simp only [if_true]; exact HL.out, HSk.out (by first | rfl | trivial), S2, T2⟩
     case measure => simp [intOf]; omega
    |false =>
     obtain ⟨_, _, e1, _, ci⟩ := S2.out.num_at i (by omega)
     cases e1
     have fi := S2.out.frozen g o rfl (o + i)
     have S3 := lh (S2.out.set1 rfl rfl (i := i) (x := y) (u := .int .u32 y) rfl)
     have T3 : Hid (Touch (· = g) w (w2.setCell ⟨g, o + i, none⟩ (.int .u32 y))) := T2.out.st rfl
     have HK2 := lh (HK.out rfl)
     rw [HL.out] at HK2
     go_wp2
     go_roundw
     case rel => exact ⟨i + 1, j + 1, M.set i y, hlt, by omega, by go_num, by go_num, by unfold Hid; rw [HLs.out]; simp only [Bool.false_eq_true, if_false]; rw [List.length_append, HL.out]; rfl, HK2, S3, T3⟩
     case measure => simp [intOf]; omega
   ·obtain rfl : j = l.length := by omega
    have hi1 : (i : Int) <= (l.length : Int) := by omega
    have hi0 : (0 : Int) <= (i : Int) := by omega
    have hn0 : ((l.length : Nat) : Int) <= (c : Int) := by omega
    clear hlt hj
    have hS := HS.out
    have hML : M.length = l.length := HD.out.len
    have hci : (c = i) = False := by simp; omega
    have hclr : ∀ ty, (Builtin.clear_ #[56] ty #[.slice (some ⟨g, o + i, none⟩) (l.length - i) (c - i)]).run Tryz.prog wr = .ok (.tuple #[]) (wr.setCells g (o + i) (List.replicate (l.length - i) (.int .u32 0))) := fun ty =>
     Lib.run_clear_slice wr 56 55 ty (.int .u32 0) Tryz.underlying56 (fun W => by kernel_rfl) rfl rfl g (o + i) (l.length - i) (c - i) (by omega)
      (fun j hj => by
       obtain ⟨_, _, e1, _, c0⟩ := hS.num_at (i + j) (by omega)
       cases e1
       rw [Nat.add_assoc, c0]
       rfl)
      (fun j hj => hS.frozen g o rfl _)
    have HE : Hid (Sl numE (wr.setCells g (o + i) (List.replicate (l.length - i) (.int .u32 0))) (some ⟨g, o, none⟩) c (l.filter fun x => !pr x)) := by
     have h1 := HD.out.take
     rw [HL.out, List.take_length] at h1
     unfold Hid
     rw [<- h1]
     exact hS.tail_set i (by omega) _ (by simp; omega)
    have HT2 : Hid (Touch (· = g) w (wr.setCells g (o + i) (List.replicate (l.length - i) (.int .u32 0)))) := Touch.setCells (S := (· = g)) rfl _ _ HT.out
    have HLf : Hid ((l.filter fun x => !pr x).length = i) := by have := HL.out; rw [List.take_length] at this; exact this
    clear hS hML HS HD HL HT HP
    go_upto_region 11 with (fail)
    go_wp2
    go_ret
    exact ⟨by rw [HLf.out]; rfl, HE.out, HT2.out⟩

theorem sdelf_none (s : Nat) (pr : Int -> Bool) (w : World)
  (hp : ∀ W x, Fresh w W -> Calls Tryz.prog 258 #[.int .u32 x, .pointer (some ⟨s, 0, none⟩)] W fun e w' => e = .returned (.bool (pr x)) ∧ Fresh W w') :
  Calls Tryz.prog 257 #[.slice none 0 0, .func (.func 258) #[] #[.pointer (some ⟨s, 0, none⟩)]] w fun e w' => e = .returned (.slice none 0 0) ∧ Fresh w w' := by
 have HI := lh (sidxf_any s pr none 0 [] w (Sl.nil numE w).rd (by decide) hp)
 clear hp
 go_enter Tryz.func257, Tryz.ntmps257
 go_wp2_with fail
 refine HI.out.mono ?_
 rintro e w1 ⟨f1, hcase⟩
 have F1 := lh f1
 rcases hcase with ⟨rfl, hall⟩ | ⟨k, hk, _⟩
 ·clear f1 hall HI
  simp only
  go_wp2
  go_ret
  exact ⟨rfl, F1.out⟩
 ·exact absurd hk (by simp)

def DelPost (w : World) (A : Option Addr) (c : Nat) (L : List Int) (e : Ending) (w' : World) : Prop := e = .returned (.slice A L.length c) ∧ Sl numE w' A c L ∧ Touch (fun k => A.map Addr.block = some k) w w'
theorem sdel_any (s : Nat) (pr : Int -> Bool) (A : Option Addr) (c : Nat) (l : List Int) (w : World) (h : Sl numE w A c l) (hl : l.length <= 1000000)
  (hp : ∀ W x, Touch (fun k => A.map Addr.block = some k) w W -> Calls Tryz.prog 258 #[.int .u32 x, .pointer (some ⟨s, 0, none⟩)] W fun e w' => e = .returned (.bool (pr x)) ∧ Fresh W w') :
  Calls Tryz.prog 257 #[.slice A l.length c, .func (.func 258) #[] #[.pointer (some ⟨s, 0, none⟩)]] w (DelPost w A c (l.filter fun x => !pr x)) := by
 cases A with
 |none =>
  obtain rfl : c = 0 := h.2.2.1 rfl
  obtain rfl : l = [] := List.eq_nil_of_length_eq_zero (by have := h.1; omega)
  refine (sdelf_none s pr w fun W x hf => hp W x (hf.mono (fun _ _ h => h.elim))).mono ?_
  rintro e w' ⟨rfl, f⟩
  exact ⟨rfl, Sl.nil _ _, f.mono (fun _ _ h => h.elim)⟩
 |some ad =>
  obtain ⟨hs, _⟩ := h.2.2.2 ad rfl
  obtain ⟨g, o, sp⟩ := ad
  obtain rfl : sp = none := hs
  refine (sdelf_any s pr g o c l w h hl fun W x hf => hp W x (hf.mono (fun k _ e => by rw [e]; rfl))).mono ?_
  rintro e w' ⟨rfl, h1, h2⟩
  exact ⟨rfl, h1, h2.mono (fun k _ e => by rw [e]; rfl)⟩
end Go.Proofs.YtipaobpmojahaaaGreat

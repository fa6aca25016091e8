/-
  polliwoglaw16.Step at the first act: both ends hear a BGN. Conditions: the end may be, and tells one signal.
-/
import Derived.Test.YtipaobpmojahaaaGreatOpP
import Derived.Test.YtipaobpmojahaaaGreatEnR
import Derived.Test.YtipaobpmojahaaaGreatDetP
set_option maxHeartbeats 4000000
namespace Go.Proofs.YtipaobpmojahaaaGreat
open Go.RowKit
set_option maxRecDepth 20000
set_option linter.constructorNameAsVariable false

theorem actI : (Tryz.prog.info? 79).map (·.size) = some 10 := by kernel_rfl
structure SbWD (k : Nat) (D : Nat -> Nat) (w w5 : World) (n g p q : Nat) (N : Int) (y : Rn) (z : En.X) (A : Option Addr) (d : Nat) (b : Option Addr × Nat) (dn : Nat -> Bool) (W : World) : Prop where
 bq : Blk W q 40 y.cells
 bp : Blk W p 139 (pdL N)
 br : Blk W (g + 1 + 1) 40 (if dn 7 = true then y.cells else rnZ)
 sl : Sl rs16E W A d [Cn.sig 1 false Cn.no]
 et : ∃ D', EndTo k D D' w W n (if dn 4 = true then (En.receive z (bgU N) []).1 else z) ∧ D' (g + 1 + 1) = k + 8 ∧ D' q = k + 8 ∧ D' p = k + 8 ∧ ∀ ad, A = some ad -> D' ad.block = k + 8
 ps : dn 4 = true -> Sl sigE W b.1 b.2 [Cn.sig 1 false Cn.no] ∧ ∀ ad, b.1 = some ad -> w5.heap.size <= ad.block
 sz : w5.heap.size <= W.heap.size
theorem SbWD.fresh {k : Nat} {D : Nat -> Nat} {w w5 : World} {n g p q : Nat} {N : Int} {y : Rn} {z : En.X} {A : Option Addr} {d : Nat} {b : Option Addr × Nat} {dn : Nat -> Bool} {W W' : World} (H : SbWD k D w w5 n g p q N y z A d b dn W) (ht : Fresh W W') {i : Nat} (h4 : i ≠ 4) (h7 : i ≠ 7) : SbWD k D w w5 n g p q N y z A d b (Dag.upd dn i true) W' := by
 obtain ⟨h1, h2, h3, h5, ⟨D', e1, e2, e3, e4, e5⟩, h6, h8⟩ := H
 refine ⟨ht.blk h1 (fun e => e), ht.blk h2 (fun e => e), ?_, h5.touch ht (fun _ _ e => e), ⟨D', ?_, e2, e3, e4, e5⟩, ?_, Nat.le_trans h8 ht.size⟩
 ·rw [Dag.upd_far _ _ (Ne.symm h7)]; exact ht.blk h3 (fun e => e)
 ·rw [Dag.upd_far _ _ (Ne.symm h4)]; exact ⟨e1.at_.old ht (fun _ _ => rfl), e1.lab, e1.touch.trans ht (fun _ _ e => e.elim)⟩
 ·rw [Dag.upd_far _ _ (Ne.symm h4)]; intro e; exact ⟨(h6 e).1.touch ht (fun _ _ e => e), (h6 e).2⟩
def sbslot (i : Nat) : Nat := [158, 159, 160, 161, 162, 163, 164, 1007, 7].getD i 2000
def sbidx (k : Nat) : Nat := if k = 158 then 0 else if k = 159 then 1 else if k = 160 then 2 else if k = 161 then 3 else if k = 162 then 4 else if k = 163 then 5 else if k = 164 then 6 else 8
def sbD : List Nat := [7, 158, 159, 160, 161, 162, 163, 164]
def sbval (y : Rn) (n : Nat) (N : Int) (A : Option Addr) (d : Nat) (b : Option Addr × Nat) (i : Nat) : Value := [.agg y.cells.toArray, .pointer (some ⟨n, 0, none⟩), .agg (pdL N).toArray, pduV (bgU N), .slice b.1 1 b.2, .slice A 1 d, .bool true, undef, .bool true].getD i undef
theorem EndTo.off {k : Nat} {D D' : Nat -> Nat} {w W W' : World} {n r : Nat} {x : En.X} (h : EndTo k D D' w W n x) (hr : w.heap.size <= r) (hD : D' r = k + 8) (ht : Touch (· = r) W W') : EndTo k D D' w W' n x := by
 obtain ⟨cn, pc, un, sp, rp, A, ca, B, cb, hi⟩ := h.at_
 refine ⟨⟨cn, pc, un, sp, rp, A, ca, B, cb, hi.keep ht (fun b e => ?_) (fun _ _ => rfl)⟩, h.lab, h.touch.trans ht (fun b hb e => ?_)⟩
 ·have e : b = r := e
  rw [e, hD]; omega
 ·have e : b = r := e
  omega
theorem step_bgn {k : Nat} {D : Nat -> Nat} {w : World} {n : Nat} {z : En.X} (h : EndAt k D w n z) {hi hi2 : Int} (hf : En.Fit z hi hi2)
  (y0 y1 y2 y3 y4 y5 : Int) (T : Option Addr) (cT : Nat) (m c : Int) (L : Option Addr) (cL : Nat) (hy : 0 <= y5 ∧ y5 < 16777216) (N : Int) (hN : N = (y5 + 31) % 16777216) (hs : (En.receive z (bgU N) []).2 = [Cn.sig 1 false Cn.no]) :
  Calls Tryz.prog 20 #[.pointer (some ⟨n, 0, none⟩), .agg (hb0 y0 y1 y2 y3 y4 y5 T cT (cnI m c) L cL).cells.toArray, .agg actB.toArray] w fun e w' => e = .returned (.tuple #[.agg (hb0 y0 y1 y2 y3 y4 y5 T cT (cnB m c N) L cL).cells.toArray, .bool true]) ∧ ∃ D', EndTo k D D' w w' n (En.receive z (bgU N) []).1 := by
 have HU1 := lh (fun W => runit1_bgn (hb0 y0 y1 y2 y3 y4 y5 T cT (cnI m c) L cL) hy W)
 rw [show (hb0 y0 y1 y2 y3 y4 y5 T cT (cnI m c) L cL).y5 = y5 from rfl, <- hN] at HU1
 have HRV := lh (rrecv16_bgn y0 y1 y2 y3 y4 y5 T cT m c N L cL)
 have HNN : Hid (0 <= N ∧ N < 16777216) := by unfold Hid; omega
 clear hN hy
 obtain ⟨x, hx⟩ := xq (hb0 y0 y1 y2 y3 y4 y5 T cT (cnI m c) L cL)
 obtain ⟨y, hy⟩ := xq (hb0 y0 y1 y2 y3 y4 y5 T cT (cnB m c N) L cL)
 rw [<- hx] at HU1
 rw [<- hx, <- hy] at HRV ⊢
 clear hx hy
 have HEN := lh h
 have HSG := lh hs
 have HFT := lh hf
 clear h hs hf
 obtain ⟨w1, hw1⟩ := xq (((w.alloc (.cells x.cells.toArray 40)).alloc (.cells actB.toArray 79)).alloc (.cells rnZ.toArray 40))
 have HX : Hid (FB (FF w) [w.heap.size, w.heap.size + 1, w.heap.size + 1 + 1] w w1 [⟨w.heap.size, 40, x.cells⟩, ⟨w.heap.size + 1, 79, actB⟩, ⟨w.heap.size + 1 + 1, 40, rnZ⟩]) := by rw [hw1]; exact ((((FB.nil w (fun k e => e)).al _ x.cells _ (by simp)).al _ actB _ (by simp)).al _ rnZ _ (by simp))
 unfold rnZ at hw1
 go_enter Tryz.func20, Tryz.ntmps20
 go_upto_region 1 with (fail)
 rw [<- hw1]
 clear hw1
 generalize hg : w.heap.size = g at *
 have a0 : w1.cell? ⟨g + 1, 0, none⟩ = some (.int .i64 0) := (HX.out.at_ 1 rfl).cell 0
 go_upto_region 27 with (fail)
 clear a0
 refine wp_region_lit ?_
 refine wpList_loadB rfl _ (.tmp 5) rfl (g + 1) 0 (by rfl) actB (HX.out.at_ 1 rfl).range Tryz.underlying79 rfl actI ?_
 refine ldN rfl (.tmp 4) rfl (by rfl) (y := x) (HX.out.at_ 0 rfl) ?_
 go_wp2_with fail
 refine (HU1.out _).mono ?_
 rintro e w2 ⟨rfl, f3⟩
 have HX := lh (HX.out.fresh f3)
 clear f3 HU1
 simp only
 go_upto_region 28 with (refine wpList_storeB rfl _ (.tmp 22) (.tmp 151) rfl w2.heap.size 0 (by rfl) (pdL N) (by rfl) ((HX.out.al 139 pdZ w2.heap.size rfl).at_ 3 rfl) (Nat.le_of_ble_eq_true rfl) rp06I (by simp [pdL, Value.oneCell']) ?_; intro w3 hB ht; have HX := lh ((HX.out.al 139 pdZ w2.heap.size rfl).put 3 rfl (cs := pdL N) (hB.eq_cells rfl) ht); clear hB ht)
 generalize w2.heap.size = p at *
 have HX2 : Hid (FB (FF w) [g, g + 1, g + 1 + 1, p] w w3 [⟨g, 40, x.cells⟩, ⟨g + 1, 79, actB⟩, ⟨g + 1 + 1, 40, rnZ⟩, ⟨p, 139, pdL N⟩]) := HX.out
 clear HX
 have HX := HX2
 clear HX2
 refine wp_region_lit ?_
 refine ldN rfl (.tmp 4) rfl (by rfl) (y := x) (HX.out.at_ 0 rfl) ?_
 refine wpList_loadB rfl _ (.tmp 22) rfl p 0 (by rfl) (pdL N) (HX.out.at_ 3 rfl).range Tryz.underlying139 rfl rp06I ?_
 go_wp2_with fail
 refine (HRV.out _).mono ?_
 rintro e w4 ⟨A, d, rfl, ⟨hs4, had⟩, f3⟩
 have HAD : Hid (∀ ad, A = some ad -> w.heap.size <= ad.block) := fun ad e => Nat.le_trans HX.out.ff.size (had ad e)
 clear had
 have HX := lh (HX.out.fresh f3)
 have HS := lh hs4
 clear f3 hs4 HRV
 simp only
 go_upto_region 29 with (refine stN rfl (.tmp 23) (.tmp 156) rfl (by rfl) y (by rfl) ((HX.out.al 40 rnZ w4.heap.size rfl).at_ 4 rfl) rfl ?_; intro w5 hB ht; have HS := lh ((HS.out.alloc _).touch ht (fun ad e e2 => by have := HS.out.lt ad e; have e2 : ad.block = w4.heap.size := e2; omega)); have HX := lh ((HX.out.al 40 rnZ w4.heap.size rfl).put 4 rfl hB ht); clear hB ht)
 generalize w4.heap.size = q at *
 have HX2 : Hid (FB (FF w) [g, g + 1, g + 1 + 1, p, q] w w5 [⟨g, 40, x.cells⟩, ⟨g + 1, 79, actB⟩, ⟨g + 1 + 1, 40, rnZ⟩, ⟨p, 139, pdL N⟩, ⟨q, 40, y.cells⟩]) := HX.out
 clear HX
 have HX := HX2
 clear HX2
 have HNE : Hid (q ≠ g + 1 + 1 ∧ p ≠ g + 1 + 1 ∧ g <= p ∧ g <= q) := by
  have h1 := HX.out.nd
  have h2 := HX.out.new p (by simp)
  have h3 := HX.out.new q (by simp)
  simp only [List.nodup_cons, List.mem_cons, List.not_mem_nil, or_false, not_or] at h1
  unfold Hid
  omega
 have HLT : Hid (g + 1 + 1 < w5.heap.size) := (HX.out.at_ 2 rfl).lt
 have HE0 : Hid (∃ D', EndTo k D D' w w5.drew n z ∧ D' (g + 1 + 1) = k + 8 ∧ D' q = k + 8 ∧ D' p = k + 8 ∧ ∀ ad, A = some ad -> D' ad.block = k + 8) := by
  have hf : Fresh w w5.drew := HX.out.ff.trans (Touch.refl _ _).drew (fun _ _ e => e)
  have hn := HNE.out
  refine ⟨lab D w.heap.size (k + 8), ⟨HEN.out.old hf (fun b hb => lab_old hb), lab_lab k D _ 8 (by omega), hf.mono (fun _ _ e => e.elim)⟩, lab_new (by omega), lab_new (by omega), lab_new (by omega), fun ad e => lab_new (HAD.out ad e)⟩
 have HFTH : Hid (∀ D' W cn pc un sp rp A1 ca B1 cb, EndIn k D' W n cn pc un sp rp A1 ca B1 cb z -> Calls Tryz.prog 13 #[.pointer (some ⟨n, 0, none⟩), pduV (bgU N)] W (EndSigs k D' W n (En.receive z (bgU N) []))) := fun D' W cn pc un sp rp A1 ca B1 cb hin =>
  nreceive_conn hin HFT.out (bgU N) [] ⟨HNN.out, by show (0 : Int) <= 0 ∧ (0 : Int) < 16777216; decide, Rd.nil _ _, rfl, by simp, fun ad e => by cases e⟩ rfl
 have HINJ : Hid (∀ i, i < 9 -> ∀ j, j < 9 -> sbslot i = sbslot j -> i = j) := by
  show ∀ i, i < 9 -> ∀ j, j < 9 -> sbslot i = sbslot j -> i = j
  decide +kernel
 have HFD : Hid (∀ k, k ∈ sbD -> sbidx k < 9 ∧ sbslot (sbidx k) = k) := by
  show ∀ k, k ∈ sbD -> sbidx k < 9 ∧ sbslot (sbidx k) = k
  decide +kernel
 have ht0 : Fresh w5 w5.drew := (Touch.refl _ _).drew
 refine Dag.detP (by kernel_rfl) 9 sbD sbslot (sbval y n N A d) (SbWD k D w w5 n g p q N y z A d) (none, 0) (fun b k => sbval y n N A d b (sbidx k)) (by rfl) (fun i j hi hj => HINJ.out i hi j hj) (by decide +kernel)
  ⟨ht0.blk (HX.out.at_ 4 rfl) (fun e => e), ht0.blk (HX.out.at_ 3 rfl) (fun e => e), ht0.blk (HX.out.at_ 2 rfl) (fun e => e), HS.out.touch ht0 (fun _ _ e => e), HE0.out, fun e => (by cases e), ht0.size⟩ (by decide +kernel)
  ⟨?_, ?_, ?_, ?_, ?_, ?_, ?_, ?_, ?_, trivial⟩ (fun b k hk => ⟨sbidx k, (HFD.out k hk).1, (HFD.out k hk).2, rfl⟩) ?_
 ·refine Dag.PStep.pure 158 rfl rfl rfl (by decide) (fun b dn W H => H.fresh (Touch.refl _ _) (by decide) (by decide)) (fun b dn R W hp hm hW => ?_)
  have q23 : R.eval (.tmp 23) = .pointer (some ⟨q, 0, none⟩) := hm.old 23 (by decide)
  exact exec_loadB rfl q23 hW.bq.range Tryz.underlying40 rfl rnI
 ·refine Dag.PStep.pure 159 rfl rfl rfl (by decide) (fun b dn W H => H.fresh (Touch.refl _ _) (by decide) (by decide)) (fun b dn R W hp hm hW => ?_)
  have q0 : R.eval (.tmp 0) = .pointer (some ⟨n, 0, none⟩) := hm.old 0 (by decide)
  clear hp hm hW
  show (execOp R.eval _).run Tryz.prog W = .ok (.value (.pointer (some ⟨n, 0, none⟩))) W
  unfold execOp
  generalize R.eval = ρ at *
  go_simp
 ·refine Dag.PStep.pure 160 rfl rfl rfl (by decide) (fun b dn W H => H.fresh (Touch.refl _ _) (by decide) (by decide)) (fun b dn R W hp hm hW => ?_)
  have q22 : R.eval (.tmp 22) = .pointer (some ⟨p, 0, none⟩) := hm.old 22 (by decide)
  exact exec_loadB rfl q22 hW.bp.range Tryz.underlying139 rfl rp06I
 ·refine ⟨rfl, fun s hs => (by cases hs; exact ⟨rfl, by decide⟩), fun b dn R W hi hp hcl hm hW => ?_⟩
  have q160 : R.eval (.tmp 160) = .agg (pdL N).toArray := hm.got 2 (by decide) (hp 2 (by decide +kernel)) (by decide) (Nat.le_of_ble_eq_true rfl)
  have qf : R.eval (.func 65) = .func (.func 65) #[] #[] := hm.cst _ (fun k e => by cases e)
  refine .call 161 rfl 65 #[.agg (pdL N).toArray] ?_ ((own06_bgn N W HNN.out.1 HNN.out.2).mono ?_)
  ·clear hi hp hcl hm hW
   unfold execOp
   generalize R.eval = ρ at *
   go_simp
  ·rintro e W' ⟨rfl, f3⟩
   exact ⟨_, rfl, b, rfl, fun _ _ _ => rfl, hW.fresh f3 (by decide) (by decide)⟩
 ·refine ⟨rfl, fun s hs => (by cases hs; exact ⟨rfl, by decide⟩), fun b dn R W hi hp hcl hm hW => ?_⟩
  have q159 : R.eval (.tmp 159) = .pointer (some ⟨n, 0, none⟩) := hm.got 1 (by decide) (hp 1 (by decide +kernel)) (by decide) (Nat.le_of_ble_eq_true rfl)
  have q161 : R.eval (.tmp 161) = pduV (bgU N) := hm.got 3 (by decide) (hp 3 (by decide +kernel)) (by decide) (Nat.le_of_ble_eq_true rfl)
  have qf : R.eval (.func 13) = .func (.func 13) #[] #[] := hm.cst _ (fun k e => by cases e)
  obtain ⟨D', e1, e2, e3, e4, e5⟩ := hW.et
  rw [if_neg (by rw [hi]; decide)] at e1
  obtain ⟨cn, pc, un, sp, rp, A1, ca, B1, cb, hin⟩ := e1.at_
  refine .call 162 rfl 13 #[.pointer (some ⟨n, 0, none⟩), pduV (bgU N)] ?_ ((HFTH.out _ _ _ _ _ _ _ _ _ _ _ hin).mono ?_)
  ·clear hi hp hcl hm hW e1 e2 e3 e4 e5 hin
   generalize pduV (bgU N) = V at *
   unfold execOp
   generalize R.eval = ρ at *
   go_simp
  ·rintro e W' ⟨D2, A2, c2, rfl, h1, h2, h3⟩
   rw [HSG.out] at h2
   have hlt := hW.bq.lt
   have hlt2 := hW.bp.lt
   have hlt3 := hW.br.lt
   refine ⟨_, rfl, (A2, c2), by rw [HSG.out]; rfl, fun j hj hdj => ?_, ?_⟩
   ·rcases (show j = 0 ∨ j = 1 ∨ j = 2 ∨ j = 3 ∨ j = 4 ∨ 5 <= j by omega) with rfl | rfl | rfl | rfl | rfl | h6 <;> first | rfl | (rw [hi] at hdj; cases hdj) | (obtain ⟨k, rfl⟩ : ∃ k, j = k + 5 := ⟨j - 5, by omega⟩; rfl)
   ·refine ⟨h1.touch.blk hW.bq (fun e => ?_), h1.touch.blk hW.bp (fun e => ?_), ?_, hW.sl.touch h1.touch (fun ad e e6 => ?_), ⟨D2, ?_, (h1.lab.1 _ hlt3).trans e2, (h1.lab.1 _ hlt).trans e3, (h1.lab.1 _ hlt2).trans e4, fun ad e => (h1.lab.1 _ (hW.sl.lt ad e)).trans (e5 ad e)⟩, fun _ => ⟨h2, fun ad e => Nat.le_trans hW.sz (h3 ad e).1⟩, Nat.le_trans hW.sz h1.touch.size⟩
    ·unfold All at e; rw [e3] at e; omega
    ·unfold All at e; rw [e4] at e; omega
    ·rw [Dag.upd_far _ _ (by decide)]
     exact h1.touch.blk hW.br (fun e => by unfold All at e; rw [e2] at e; omega)
    ·unfold All at e6; rw [e5 ad e] at e6; omega
    ·rw [Dag.upd_same, if_pos rfl]
     exact e1.then h1
 ·refine Dag.PStep.pure 163 rfl rfl rfl (by decide) (fun b dn W H => H.fresh (Touch.refl _ _) (by decide) (by decide)) (fun b dn R W hp hm hW => ?_)
  have q24 : R.eval (.tmp 24) = .slice A 1 d := hm.old 24 (by decide)
  clear hp hm hW
  show (execOp R.eval _).run Tryz.prog W = .ok (.value (.slice A 1 d)) W
  unfold execOp
  generalize R.eval = ρ at *
  go_simp
 ·refine ⟨rfl, fun s hs => (by cases hs; exact ⟨rfl, by decide⟩), fun b dn R W hi hp hcl hm hW => ?_⟩
  have q162 : R.eval (.tmp 162) = .slice b.1 1 b.2 := hm.got 4 (by decide) (hp 4 (by decide +kernel)) (by decide) (Nat.le_of_ble_eq_true rfl)
  have q163 : R.eval (.tmp 163) = .slice A 1 d := hm.got 5 (by decide) (hp 5 (by decide +kernel)) (by decide) (Nat.le_of_ble_eq_true rfl)
  have qf : R.eval (.func 57) = .func (.func 57) #[] #[] := hm.cst _ (fun k e => by cases e)
  have hsm := same16_any (hW.ps (hp 4 (by decide +kernel))).1.rd hW.sl.rd (by simp)
  refine .call 164 rfl 57 #[.slice b.1 1 b.2, .slice A 1 d] ?_ (hsm.mono ?_)
  ·clear hi hp hcl hm hW hsm
   generalize b.1 = b1 at *
   generalize b.2 = b2 at *
   unfold execOp
   generalize R.eval = ρ at *
   go_simp
  ·rintro e W' ⟨rfl, f3⟩
   exact ⟨_, rfl, b, rfl, fun _ _ _ => rfl, hW.fresh f3 (by decide) (by decide)⟩
 ·refine ⟨rfl, fun s hs => (by cases hs), fun b dn R W hi hp hcl hm hW => ?_⟩
  have q6 : R.eval (.tmp 6) = .pointer (some ⟨g + 1 + 1, 0, none⟩) := hm.old 6 (by decide)
  have q158 : R.eval (.tmp 158) = .agg y.cells.toArray := hm.got 0 (by decide) (hp 0 (by decide +kernel)) (by decide) (Nat.le_of_ble_eq_true rfl)
  have hB := hW.br
  have ht : Touch (· = g + 1 + 1) W (W.setCells (g + 1 + 1) 0 y.cells) := Touch.setCells (S := (· = g + 1 + 1)) rfl _ _ (Touch.refl _ _)
  rw [if_neg (by rw [hi]; decide)] at hB
  obtain ⟨D', e1, e2, e3, e4, e5⟩ := hW.et
  refine .skip rfl undef (W.setCells (g + 1 + 1) 0 y.cells) (exec_storeB rfl q6 q158 (hB.there_at 0 (Nat.le_of_ble_eq_true rfl)) rnI (rnO _)) ⟨b, rfl, fun _ _ _ => rfl, ?_⟩
  refine ⟨ht.blk hW.bq HNE.out.1, ht.blk hW.bp HNE.out.2.1, ?_, hW.sl.touch ht (fun ad e e6 => hW.sl.blk_ne hB (show rs16E.e ≠ 40 by decide) ad e e6), ⟨D', ?_, e2, e3, e4, e5⟩, ?_, Nat.le_trans hW.sz ht.size⟩
  ·rw [Dag.upd_same, if_pos rfl]
   exact hB.setCells (cs := rnZ) (vs := y.cells) rfl
  ·rw [Dag.upd_far _ _ (by decide)]
   exact e1.off (by omega) e2 ht
  ·rw [Dag.upd_far _ _ (by decide)]
   intro e
   obtain ⟨h1, h2⟩ := hW.ps e
   exact ⟨h1.touch ht (fun ad e e6 => by have := h2 ad e; have e6 : ad.block = g + 1 + 1 := e6; have := HLT.out; omega), h2⟩
 ·refine Dag.PStep.pure 7 rfl rfl rfl (by decide) (fun b dn W H => H.fresh (Touch.refl _ _) (by decide) (by decide)) (fun b dn R W hp hm hW => ?_)
  have q164 : R.eval (.tmp 164) = .bool true := hm.got 6 (by decide) (hp 6 (by decide +kernel)) (by decide) (Nat.le_of_ble_eq_true rfl)
  clear hp hm hW
  show (execOp R.eval _).run Tryz.prog W = .ok (.value (.bool true)) W
  unfold execOp
  generalize R.eval = ρ at *
  go_simp
 ·intro b dn w9 hd hW
  have hB := hW.br
  rw [if_pos (hd 7 (by decide))] at hB
  obtain ⟨D', e1, e2, e3, e4, e5⟩ := hW.et
  rw [if_pos (hd 4 (by decide))] at e1
  have HB := lh hB
  have HE := lh e1
  clear hW hd hB e1 e2 e3 e4 e5 HINJ HFD HFTH HE0
  simp only [sbD, Dag.actOf, List.foldl_cons, List.foldl_nil, sbval, sbidx]
  generalize pduV (bgU N) = V
  go_simp
  go_wp2_with fail
  exact bodyPost_ret (v := .tuple #[.agg y.cells.toArray, .bool true]) (results_ct Tryz.results20 _ (by rfl) HB.out.range Tryz.underlying40 rfl rnI) rfl ⟨rfl, D', HE.out⟩
end Go.Proofs.YtipaobpmojahaaaGreat

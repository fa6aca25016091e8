/-
  polliwoglaw16.Step at the second act: both ends are asked to accept. Conditions: the end may be, and answers 0 without a signal; the config's numbers may be.
-/
import Derived.Test.YtipaobpmojahaaaGreatOpS
import Derived.Test.YtipaobpmojahaaaGreatEnRq
set_option maxHeartbeats 4000000
namespace Go.Proofs.YtipaobpmojahaaaGreat
open Go.RowKit
set_option maxRecDepth 20000
set_option linter.constructorNameAsVariable false

theorem same16_nil (A1 A0 : Option Addr) (c1 c0 : Nat) (w : World) : Calls Tryz.prog 57 #[.slice A1 0 c1, .slice A0 0 c0] w fun e w' => e = .returned (.bool true) ∧ Fresh w w' := by
 go_enter Tryz.func57, Tryz.ntmps57
 go_wp2_with fail
 go_loopw [14] (fun i wr => i = .int .i64 0 ∧ wr = w) (fun i _ => 0)
 case atStart => exact ⟨rfl, rfl⟩
 case round =>
  obtain ⟨rfl, rfl⟩ := hrel
  go_wp2_with fail
  go_ret
  exact ⟨rfl, Touch.refl _ _⟩
structure ScWD (k : Nat) (D : Nat -> Nat) (w : World) (n r : Nat) (y : Rn) (z : En.X) (A : Option Addr) (c : Nat) (u : List Cn.Pd) (L : List Bx) (i0 : Nat) (_b : Unit) (dn : Nat -> Bool) (W : World) : Prop where
 bx : ∀ x ∈ L, Blk W x.b x.t x.cs ∧ x.b ≠ r
 br : Blk W r 40 (if dn i0 = true then y.cells else rnZ)
 sl : Sl rp06E W A c u
 lr : w.heap.size <= r
 et : ∃ D', EndTo k D D' w W n z ∧ D' r = k + 8
section
variable {k : Nat} {D : Nat -> Nat} {w : World} {n r : Nat} {y : Rn} {z : En.X} {A : Option Addr} {c : Nat} {u : List Cn.Pd} {L : List Bx} {i0 : Nat} {b : Unit} {dn : Nat -> Bool} {W W' : World}
theorem ScWD.at_ (h : ScWD k D w n r y z A c u L i0 b dn W) (i : Nat) {x : Bx} (hx : L[i]? = some x) : Blk W x.b x.t x.cs := (h.bx x (List.mem_of_getElem? hx)).1
theorem ScWD.fresh (H : ScWD k D w n r y z A c u L i0 b dn W) (ht : Fresh W W') {i : Nat} (h : i ≠ i0) : ScWD k D w n r y z A c u L i0 b (Dag.upd dn i true) W' := by
 obtain ⟨h1, h2, h3, h4, D', e1, e2⟩ := H
 refine ⟨fun x hx => ⟨ht.blk (h1 x hx).1 (fun e => e), (h1 x hx).2⟩, ?_, h3.touch ht (fun _ _ e => e), h4, D', ⟨e1.at_.old ht (fun _ _ => rfl), e1.lab, e1.touch.trans ht (fun _ _ e => e.elim)⟩, e2⟩
 rw [Dag.upd_far _ _ (Ne.symm h)]; exact ht.blk h2 (fun e => e)
theorem ScWD.there (H : ScWD k D w n r y z A c u L i0 b dn W) (hi : dn i0 = false) : W.there r 0 43 := by
 have hB := H.br
 rw [if_neg (by rw [hi]; decide)] at hB
 exact hB.there_at 0 (Nat.le_of_ble_eq_true rfl)
theorem ScWD.put (H : ScWD k D w n r y z A c u L i0 b dn W) (hi : dn i0 = false) : ScWD k D w n r y z A c u L i0 b (Dag.upd dn i0 true) (W.setCells r 0 y.cells) := by
 have hB := H.br
 rw [if_neg (by rw [hi]; decide)] at hB
 have ht : Touch (· = r) W (W.setCells r 0 y.cells) := Touch.setCells (S := (· = r)) rfl _ _ (Touch.refl _ _)
 obtain ⟨h1, h2, h3, h4, D', e1, e2⟩ := H
 refine ⟨fun x hx => ⟨ht.blk (h1 x hx).1 (h1 x hx).2, (h1 x hx).2⟩, ?_, h3.touch ht (fun ad e e6 => h3.blk_ne hB (show rp06E.e ≠ 40 by decide) ad e e6), h4, D', e1.off h4 e2 ht, e2⟩
 rw [Dag.upd_same, if_pos rfl]
 exact hB.setCells (cs := rnZ) (vs := y.cells) rfl
end
def actA : List Value := [.int .i64 1, .int .i64 2, .int .i64 0, .int .i64 0, .int .i64 0, .int .i64 0, .int .i64 0, .int .i64 0, .slice none 0 0, .string { data := #[] }]
def rqA : List Value := [.int .i64 2, .string { data := #[] }, .int .i64 0]
def scslot (i : Nat) : Nat := [62, 63, 64, 65, 66, 67, 68, 69, 70, 1009, 7].getD i 2000
def scidx (k : Nat) : Nat := [0, 0, 0, 0, 0, 0, 0, 10, 0, 0, 0, 0, 0, 0, 0, 0, 0, 0, 0, 0, 0, 0, 0, 0, 0, 0, 0, 0, 0, 0, 0, 0, 0, 0, 0, 0, 0, 0, 0, 0, 0, 0, 0, 0, 0, 0, 0, 0, 0, 0, 0, 0, 0, 0, 0, 0, 0, 0, 0, 0, 0, 0, 0, 1, 2, 3, 4, 5, 6, 7, 8].getD k 0
def scD : List Nat := [7, 62, 63, 64, 65, 66, 67, 68, 69, 70]
def scval (y : Rn) (A1 A0 : Option Addr) (c1 c0 : Nat) (_b : Unit) (i : Nat) : Value := [.agg y.cells.toArray, .int .i64 0, .int .i64 0, .bool true, .bool true, .slice A1 0 c1, .slice A0 0 c0, .bool true, .bool true, undef, .bool true].getD i undef
theorem step_acc {k : Nat} {D : Nat -> Nat} {w : World} {n : Nat} {z z2 : En.X} (h : EndAt k D w n z) {hi hi2 : Int} (hf : En.Fit z hi hi2) (hl : z.left.length <= 1000000) (hes : Cn.askErr z.conn 2 Cn.no = 0) (hq : En.request z 2 Cn.no 0 = (z2, [], 0))
  (y0 y1 y2 y3 y4 y5 : Int) (T : Option Addr) (cT : Nat) (tk : List Int) (L : Option Addr) (cL : Nat) (m c nn d : Int) (hT : Sl intE w T cT tk) (htk : tk.length = 5) (hL : Sl intE w L cL [0, 0, 0, 0, 0])
  (hy : 0 <= y5 ∧ y5 < 16777216) (h1 : 1 <= y1 ∧ y1 <= 64) (h2 : 1 <= y2 ∧ y2 <= 256) (h4 : 1 <= y4 ∧ y4 <= 256) (hd : (nn - y5) % 16777216 = d) (hd2 : d <= 8388608) :
  Calls Tryz.prog 20 #[.pointer (some ⟨n, 0, none⟩), .agg (hb0 y0 y1 y2 y3 y4 y5 T cT (cnB m c nn) L cL).cells.toArray, .agg actA.toArray] w fun e w' => ∃ L' cL' A cA, e = .returned (.tuple #[.agg (hbZ y0 y1 y2 y3 y4 y5 T cT (cnR m c nn) L' cL' A cA d).cells.toArray, .bool true]) ∧ ∃ D', EndTo k D D' w w' n z2 ∧ Sl rp06E w' A cA [bgak c] := by
 have HRQ := lh (fun (W : World) hw hT0 hL0 => rreq16_acc y0 y1 y2 y3 y4 y5 T cT tk L cL m c nn d W w.heap.size hw hT0 htk hL0 hy h1 h2 h4 hd hd2)
 have HT := lh hT
 have HL := lh hL
 have HCU := lh (cutN_any { data := #[] } 10 (by decide))
 rw [show cutN { data := #[] } 10 = { data := #[] } by decide +kernel, show ((10 : Nat) : Int) = 10 from rfl] at HCU
 have HPR : Hid (∀ D' W cn pc un sp rp A1 ca B1 cb, EndIn k D' W n cn pc un sp rp A1 ca B1 cb z -> Calls Tryz.prog 12 #[.pointer (some ⟨n, 0, none⟩), .agg #[.int .i64 2, .string { data := #[] }, .int .i64 0]] W (AskPost k D' W n (z2, [], 0))) := fun D' W cn pc un sp rp A1 ca B1 cb hin => by
  have := nrequest_conn hin hf hl 2 Cn.no 0 (Nat.zero_le _) (by decide) hes
  rw [hq] at this
  exact this
 have HEN := lh h
 obtain ⟨x, hx⟩ := xq (hb0 y0 y1 y2 y3 y4 y5 T cT (cnB m c nn) L cL)
 rw [<- hx] at HRQ ⊢
 clear h hf hl hes hq hT htk hL hy h1 h2 h4 hd hd2 hx
 obtain ⟨w1, hw1⟩ := xq (((w.alloc (.cells x.cells.toArray 40)).alloc (.cells actA.toArray 79)).alloc (.cells rnZ.toArray 40))
 have HX : Hid (FB (FF w) [w.heap.size, w.heap.size + 1, w.heap.size + 1 + 1] w w1 [⟨w.heap.size, 40, x.cells⟩, ⟨w.heap.size + 1, 79, actA⟩, ⟨w.heap.size + 1 + 1, 40, rnZ⟩]) := by rw [hw1]; exact ((((FB.nil w (fun k e => e)).al _ x.cells _ (by simp)).al _ actA _ (by simp)).al _ rnZ _ (by simp))
 unfold rnZ at hw1
 go_enter Tryz.func20, Tryz.ntmps20
 go_upto_region 1 with (fail)
 rw [<- hw1]
 clear hw1
 generalize hg : w.heap.size = g at *
 have a0 : w1.cell? ⟨g + 1, 0, none⟩ = some (.int .i64 1) := (HX.out.at_ 1 rfl).cell 0
 go_upto_region 3 with (fail)
 clear a0
 have HC : Hid (∀ W, Fresh w1 W -> W.cell? ⟨g + 1, 1, none⟩ = some (.int .i64 2) ∧ W.cell? ⟨g + 1, 9, none⟩ = some (.string { data := #[] })) := fun W f => by
  have h := f.blk (HX.out.at_ 1 rfl) (fun e => e)
  exact ⟨h.cell 1, h.cell 9⟩
 go_region_held3 (fun W => W.cell? ⟨g + 1, 1, none⟩ = some (.int .i64 2) ∧ W.cell? ⟨g + 1, 9, none⟩ = some (.string { data := #[] }))
  (first
   |assumption
   |exact HC.out _ ((Touch.refl _ _).drew)
   |exact HC.out _ (((Touch.refl _ _).alloc _).drew))
  (first
   |(go_simp; go_at_call 11; (with_reducible refine (HCU.out _).mono ?_); rintro e w' ⟨rfl, rfl⟩))
 all_goals
  rename_i hH
  clear hH HC
  have HX2 : Hid (FB (FF w) [g, g + 1, g + 1 + 1, w1.heap.size] w (w1.alloc (.cells #[.int .i64 2, .string { data := #[] }, .int .i64 0] 53)).drew [⟨g, 40, x.cells⟩, ⟨g + 1, 79, actA⟩, ⟨g + 1 + 1, 40, rnZ⟩, ⟨w1.heap.size, 53, rqA⟩]) := (HX.out.al 53 rqA w1.heap.size rfl).fresh (Touch.refl _ _).drew
  clear HX
  generalize (w1.alloc (.cells #[.int .i64 2, .string { data := #[] }, .int .i64 0] 53)).drew = w2 at *
  generalize w1.heap.size = p at *
  have HX := HX2
  clear HX2
  have p0 : w2.cell? ⟨p, 0, none⟩ = some (.int .i64 2) := (HX.out.at_ 3 rfl).cell 0
  have p1 : w2.cell? ⟨p, 1, none⟩ = some (.string { data := #[] }) := (HX.out.at_ 3 rfl).cell 1
  have p2 : w2.cell? ⟨p, 2, none⟩ = some (.int .i64 0) := (HX.out.at_ 3 rfl).cell 2
  go_upto_region 6 with (fail)
  refine wp_region_lit ?_
  refine ldN rfl (.tmp 4) rfl (by rfl) (y := x) (HX.out.at_ 0 rfl) ?_
  go_wp2_with fail
  refine (HRQ.out _ (by have h1 := HX.out.ff.size; omega) (HT.out.touch HX.out.ff (fun _ _ e => e)) (HL.out.touch HX.out.ff (fun _ _ e => e))).mono ?_
  rintro e w3 ⟨L', cL', A, cA, A0, c0, rfl, ⟨hs, hn⟩, f3⟩
  have HX := lh (HX.out.fresh f3)
  have HS := lh hs
  have HAD := lh hn
  clear f3 hs hn HRQ HT HL p0 p1 p2
  obtain ⟨y, hy⟩ := xq (hbZ y0 y1 y2 y3 y4 y5 T cT (cnR m c nn) L' cL' A cA d)
  rw [<- hy]
  have HYY := lh hy
  clear hy
  simp only
  go_upto_region 7 with (refine stN rfl (.tmp 9) (.tmp 53) rfl (by rfl) y (by rfl) ((HX.out.al 40 rnZ w3.heap.size rfl).at_ 4 rfl) rfl ?_; intro w4 hB ht; have HS := lh ((HS.out.alloc _).touch ht (fun ad e e2 => by have := HS.out.lt ad e; have e2 : ad.block = w3.heap.size := e2; omega)); have HX := lh ((HX.out.al 40 rnZ w3.heap.size rfl).put 4 rfl hB ht); clear hB ht)
  generalize w3.heap.size = q at *
  have HX2 : Hid (FB (FF w) [g, g + 1, g + 1 + 1, p, q] w w4 [⟨g, 40, x.cells⟩, ⟨g + 1, 79, actA⟩, ⟨g + 1 + 1, 40, rnZ⟩, ⟨p, 53, rqA⟩, ⟨q, 40, y.cells⟩]) := HX.out
  clear HX
  have HX := HX2
  clear HX2
  have HNE : Hid (q ≠ g + 1 + 1 ∧ g <= q) := by
   have h1 := HX.out.nd
   have h3 := HX.out.new q (by simp)
   simp only [List.nodup_cons, List.mem_cons, List.not_mem_nil, or_false, not_or] at h1
   unfold Hid
   omega
  have HE0 : Hid (∃ D', EndTo k D D' w w4 n z ∧ D' (g + 1 + 1) = k + 8 ∧ D' q = k + 8 ∧ ∀ ad, A = some ad -> D' ad.block = k + 8) := by
   have hf : Fresh w w4 := HX.out.ff
   have hn := HNE.out
   exact ⟨lab D w.heap.size (k + 8), ⟨HEN.out.old hf (fun b hb => lab_old hb), lab_lab k D _ 8 (by omega), hf.mono (fun _ _ e => e.elim)⟩, lab_new (by omega), lab_new (by omega), fun ad e => lab_new (by have := HAD.out ad e; omega)⟩
  obtain ⟨D1, e1, e2, e3, e4⟩ := HE0.out
  obtain ⟨cn, pc, un, sp, rp, A2, ca2, B2, cb2, hin⟩ := e1.at_
  have HP := lh (HPR.out _ _ _ _ _ _ _ _ _ _ _ hin)
  have HE1 := lh e1
  have HLB : Hid (D1 (g + 1 + 1) = k + 8 ∧ D1 q = k + 8 ∧ ∀ ad, A = some ad -> D1 ad.block = k + 8) := ⟨e2, e3, e4⟩
  clear hin e1 e2 e3 e4 HE0 HPR
  have p0 : w4.cell? ⟨p, 0, none⟩ = some (.int .i64 2) := (HX.out.at_ 3 rfl).cell 0
  have p1 : w4.cell? ⟨p, 1, none⟩ = some (.string { data := #[] }) := (HX.out.at_ 3 rfl).cell 1
  have p2 : w4.cell? ⟨p, 2, none⟩ = some (.int .i64 0) := (HX.out.at_ 3 rfl).cell 2
  go_wp2_with fail
  refine HP.out.mono ?_
  rintro e w5 ⟨D2, A1, c1, rfl, h5, -, -⟩
  have HBQ : Hid (Blk w5 q 40 y.cells ∧ Blk w5 (g + 1 + 1) 40 rnZ ∧ Sl rp06E w5 A cA [bgak c]) :=
   ⟨h5.touch.blk (HX.out.at_ 4 rfl) (fun e => by unfold All at e; rw [HLB.out.2.1] at e; omega), h5.touch.blk (HX.out.at_ 2 rfl) (fun e => by unfold All at e; rw [HLB.out.1] at e; omega), HS.out.touch h5.touch (fun ad e e6 => by unfold All at e6; rw [HLB.out.2.2 ad e] at e6; omega)⟩
  have HE5 : Hid (EndTo k D D2 w w5 n z2 ∧ D2 (g + 1 + 1) = k + 8) := ⟨HE1.out.then h5, (h5.lab.1 _ (HX.out.at_ 2 rfl).lt).trans HLB.out.1⟩
  clear h5 HE1 HLB HP p0 p1 p2 HS HX
  simp only
  go_upto_region 8 with (fail)
  have HINJ : Hid (∀ i, i < 11 -> ∀ j, j < 11 -> scslot i = scslot j -> i = j) := by
   show ∀ i, i < 11 -> ∀ j, j < 11 -> scslot i = scslot j -> i = j
   decide +kernel
  have HFD : Hid (∀ k, k ∈ scD -> scidx k < 11 ∧ scslot (scidx k) = k) := by
   show ∀ k, k ∈ scD -> scidx k < 11 ∧ scslot (scidx k) = k
   decide +kernel
  have ht0 : Fresh w5 w5.drew := (Touch.refl _ _).drew
  refine Dag.detG (by kernel_rfl) 11 scD scslot (scval y A1 A0 c1 c0) (ScWD k D w n (g + 1 + 1) y z2 A cA [bgak c] [⟨q, 40, y.cells⟩] 9) () (fun b k => scval y A1 A0 c1 c0 b (scidx k)) (by rfl) (fun i j hi hj => HINJ.out i hi j hj) (by decide +kernel) ⟨fun x hx => (by rw [List.mem_singleton.1 hx]; exact ⟨ht0.blk HBQ.out.1 (fun e => e), HNE.out.1⟩), ht0.blk HBQ.out.2.1 (fun e => e), HBQ.out.2.2.touch ht0 (fun _ _ e => e), by omega, D2, ⟨HE5.out.1.at_.old ht0 (fun _ _ => rfl), HE5.out.1.lab, HE5.out.1.touch.trans ht0 (fun _ _ e => e.elim)⟩, HE5.out.2⟩ (by decide +kernel)
   (by refine ⟨?_, ?_, ?_, ?_, ?_, ?_, ?_, ?_, ?_, ?_, ?_, trivial⟩ <;> first | exact .inl rfl | exact .inr ⟨_, _, rfl, by decide +kernel, by decide, by decide, Nat.le_of_ble_eq_true rfl, by rfl, fun b => rfl⟩)
   ⟨?_, ?_, ?_, ?_, ?_, ?_, ?_, ?_, ?_, ?_, ?_, trivial⟩ (fun b k hk => ⟨scidx k, (HFD.out k hk).1, (HFD.out k hk).2, rfl⟩) ?_
  ·refine Dag.PStep2.pure 62 rfl rfl (by decide) (fun b dn W h => h.fresh (Touch.refl _ _) (by decide)) (fun b dn R W hp hm hW => ?_)
   have q9 : R.eval (.tmp 9) = .pointer (some ⟨q, 0, none⟩) := hm.old 9 (by decide)
   exact exec_loadB rfl q9 (hW.at_ 0 rfl).range Tryz.underlying40 rfl rnI
  ·refine Dag.PStep2.pure 63 rfl rfl (by decide) (fun b dn W h => h.fresh (Touch.refl _ _) (by decide)) (fun b dn R W hp hm hW => ?_)
   have q13 : R.eval (.tmp 13) = .int .i64 0 := hm.old 13 (by decide)
   clear hp hm hW
   show (execOp R.eval _).run Tryz.prog W = .ok (.value (.int .i64 0)) W
   unfold execOp
   generalize R.eval = ρ at *
   go_simp
  ·refine Dag.PStep2.pure 64 rfl rfl (by decide) (fun b dn W h => h.fresh (Touch.refl _ _) (by decide)) (fun b dn R W hp hm hW => ?_)
   have q11 : R.eval (.tmp 11) = .int .i64 0 := hm.old 11 (by decide)
   clear hp hm hW
   show (execOp R.eval _).run Tryz.prog W = .ok (.value (.int .i64 0)) W
   unfold execOp
   generalize R.eval = ρ at *
   go_simp
  ·refine Dag.PStep2.pure 65 rfl rfl (by decide) (fun b dn W h => h.fresh (Touch.refl _ _) (by decide)) (fun b dn R W hp hm hW => ?_)
   have q63 : R.eval (.tmp 63) = .int .i64 0 := hm.got 1 (by decide) (hp 1 (by decide +kernel)) (by decide) (Nat.le_of_ble_eq_true rfl)
   have q64 : R.eval (.tmp 64) = .int .i64 0 := hm.got 2 (by decide) (hp 2 (by decide +kernel)) (by decide) (Nat.le_of_ble_eq_true rfl)
   clear hp hm hW
   show (execOp R.eval _).run Tryz.prog W = .ok (.value (.bool true)) W
   unfold execOp
   generalize R.eval = ρ at *
   go_simp
  ·refine Dag.PStep2.pure 66 rfl rfl (by decide) (fun b dn W h => h.fresh (Touch.refl _ _) (by decide)) (fun b dn R W hp hm hW => ?_)
   have q65 : R.eval (.tmp 65) = .bool true := hm.got 3 (by decide) (hp 3 (by decide +kernel)) (by decide) (Nat.le_of_ble_eq_true rfl)
   clear hp hm hW
   show (execOp R.eval _).run Tryz.prog W = .ok (.value (.bool true)) W
   unfold execOp
   generalize R.eval = ρ at *
   go_simp
  ·refine Dag.PStep2.pure 67 rfl rfl (by decide) (fun b dn W h => h.fresh (Touch.refl _ _) (by decide)) (fun b dn R W hp hm hW => ?_)
   have q12 : R.eval (.tmp 12) = .slice A1 0 c1 := hm.old 12 (by decide)
   clear hp hm hW
   show (execOp R.eval _).run Tryz.prog W = .ok (.value (.slice A1 0 c1)) W
   unfold execOp
   generalize R.eval = ρ at *
   go_simp
  ·refine Dag.PStep2.pure 68 rfl rfl (by decide) (fun b dn W h => h.fresh (Touch.refl _ _) (by decide)) (fun b dn R W hp hm hW => ?_)
   have q10 : R.eval (.tmp 10) = .slice A0 0 c0 := hm.old 10 (by decide)
   clear hp hm hW
   show (execOp R.eval _).run Tryz.prog W = .ok (.value (.slice A0 0 c0)) W
   unfold execOp
   generalize R.eval = ρ at *
   go_simp
  ·refine ⟨fun s hs => (by cases hs; exact ⟨rfl, by decide⟩), fun b dn R W hi hp hcl hm hW => ?_⟩
   have q67 : R.eval (.tmp 67) = .slice A1 0 c1 := hm.got 5 (by decide) (hp 5 (by decide +kernel)) (by decide) (Nat.le_of_ble_eq_true rfl)
   have q68 : R.eval (.tmp 68) = .slice A0 0 c0 := hm.got 6 (by decide) (hp 6 (by decide +kernel)) (by decide) (Nat.le_of_ble_eq_true rfl)
   have qf : R.eval (.func 57) = .func (.func 57) #[] #[] := hm.cst _ (fun k e => by cases e)
   refine .call 69 rfl 57 #[.slice A1 0 c1, .slice A0 0 c0] ?_ ((same16_nil A1 A0 c1 c0 W).mono ?_)
   ·clear hi hp hcl hm hW
    unfold execOp
    generalize R.eval = ρ at *
    go_simp
   ·rintro e w' ⟨rfl, f3⟩
    exact ⟨_, rfl, b, rfl, fun _ _ _ => rfl, hW.fresh f3 (by decide)⟩
  ·refine Dag.PStep2.pure 70 rfl rfl (by decide) (fun b dn W h => h.fresh (Touch.refl _ _) (by decide)) (fun b dn R W hp hm hW => ?_)
   have q66 : R.eval (.tmp 66) = .bool true := hm.got 4 (by decide) (hp 4 (by decide +kernel)) (by decide) (Nat.le_of_ble_eq_true rfl)
   have q69 : R.eval (.tmp 69) = .bool true := hm.got 7 (by decide) (hp 7 (by decide +kernel)) (by decide) (Nat.le_of_ble_eq_true rfl)
   have qk2 : R.eval (.const (.bool false)) = .bool false := hm.cst _ (fun k e => by cases e)
   clear hp hm hW
   show (execOp R.eval _).run Tryz.prog W = .ok (.value (.bool true)) W
   unfold execOp
   generalize R.eval = ρ at *
   go_simp
  ·refine ⟨fun s hs => (by cases hs), fun b dn R W hi hp hcl hm hW => ?_⟩
   have q6 : R.eval (.tmp 6) = .pointer (some ⟨g + 1 + 1, 0, none⟩) := hm.old 6 (by decide)
   have q62 : R.eval (.tmp 62) = .agg y.cells.toArray := hm.got 0 (by decide) (hp 0 (by decide +kernel)) (by decide) (Nat.le_of_ble_eq_true rfl)
   refine .skip rfl undef (W.setCells (g + 1 + 1) 0 y.cells) (exec_storeB rfl q6 q62 (hW.there hi) rnI (rnO _)) ⟨b, rfl, fun _ _ _ => rfl, hW.put hi⟩
  ·refine Dag.PStep2.pure 7 rfl rfl (by decide) (fun b dn W h => h.fresh (Touch.refl _ _) (by decide)) (fun b dn R W hp hm hW => ?_)
   have q70 : R.eval (.tmp 70) = .bool true := hm.got 8 (by decide) (hp 8 (by decide +kernel)) (by decide) (Nat.le_of_ble_eq_true rfl)
   clear hp hm hW
   show (execOp R.eval _).run Tryz.prog W = .ok (.value (.bool true)) W
   unfold execOp
   generalize R.eval = ρ at *
   go_simp
  ·intro b d9 w9 hd hW
   have hB := hW.br
   rw [if_pos (hd 9 (by decide))] at hB
   obtain ⟨D', e1, e2⟩ := hW.et
   have HB := lh hB
   have HE := lh e1
   have HSL := lh hW.sl
   clear hW hd hB e1 e2 HINJ HFD HBQ HE5
   simp only [scD, Dag.actOf, List.foldl_cons, List.foldl_nil, scval, scidx]
   go_simp
   go_wp2_with fail
   exact bodyPost_ret (v := .tuple #[.agg y.cells.toArray, .bool true]) (results_ct Tryz.results20 _ (by rfl) HB.out.range Tryz.underlying40 rfl rnI) rfl ⟨L', cL', A, cA, by rw [HYY.out], D', HE.out, HSL.out⟩
end Go.Proofs.YtipaobpmojahaaaGreat

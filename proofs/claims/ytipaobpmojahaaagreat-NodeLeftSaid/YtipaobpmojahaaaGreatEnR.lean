/-
  node.Node: transfer: what a unit of an epoch's brings. Conditions: the sender and the receiver may be; numbers are of 24 bits · node.Node: transfer at a report: STAT. Conditions: the sender may be; numbers are of 24 bits · node.Node: transfer at an SD. Conditions: the receiver may be; numbers are of 24 bits · node.Node: hear, Receive. Conditions: the end may be; the unit may be · node.Node: Receive. Conditions: the end may be; the unit may be.
-/
import Derived.Test.YtipaobpmojahaaaGreatEnC
import Derived.Test.YtipaobpmojahaaaGreatSfH
import Derived.Test.YtipaobpmojahaaaGreatRf
import Derived.Test.YtipaobpmojahaaaGreatEnZk
set_option maxHeartbeats 4000000
namespace Go.Proofs.YtipaobpmojahaaaGreat
open Go.RowKit
set_option maxRecDepth 20000

section
variable {k : Nat} {D D' : Nat -> Nat} {w w' : World} {n cn pc un : Nat} {sp rp : Option Nat} {A B : Option Addr} {ca cb : Nat} {x : En.X}
theorem PS.up {p : Nat} {F : Nat -> Prop} {s' : Sf.S} (hF : ∀ b, F b -> D b = k + 5 ∧ b < w.heap.size) (hs : SendAt w' p (Grown F w) (Sf.prog s')) : PS k (lab D w.heap.size (k + 5)) w' p s' := by
 refine ⟨_, hs.cutE, fun b hb => ⟨?_, hb.2⟩⟩
 rcases hb.1 with e | e
 ·rw [lab_old (hF b e).2]; exact (hF b e).1
 ·exact lab_new e
theorem nfail_to (code : Int) {w1 : World} {D1 : Nat -> Nat} {x1 : En.X} (h : EndIn k D1 w1 n cn pc un sp rp A ca B cb x1) (hl : Lab k D D1 w.heap.size) (ht : Touch (All D k) w w1) (hctl : x1.ctl.length <= 1000) (he : ∃ e lo hi, x1.ep = some e ∧ Sf.Ok e.1 lo hi) :
  Calls Tryz.prog 165 #[.pointer (some ⟨n, 0, none⟩), .int .u8 code] w1 (EndSigs k D w n (En.fail x1 code)) :=
 (nfail_any h code hctl (fun _ => he)).mono fun _ _ hy => hy.back hl ht
end
set_option maxRecDepth 20000

section
variable {k : Nat} {D D' : Nat -> Nat} {w w' : World} {n cn pc un : Nat} {sp rp : Option Nat} {A B : Option Addr} {ca cb : Nat} {x : En.X}
theorem ntrans_stat (h : EndIn k D w n cn pc un sp rp A ca B cb x) {s : Sf.S} {r : Rf.S} (he : x.ep = some (s, r)) {lo hi lo2 hi2 : Int} (hso : Sf.Ok s lo hi) (_hro : Rf.Ok r lo2 hi2) (hctl : x.ctl.length <= 1000) (u : Cn.Pd) (l : List Int) (hk : u.kind = 11) (hmr : 0 <= u.mr ∧ u.mr < 16777216) (hrl : Rd numE w u.lA u.lc l) (hln : u.ln = l.length) (hll : l.length <= 1000000) (hlA : ∀ ad, u.lA = some ad -> ¬ (k <= D ad.block ∧ D ad.block < k + 8)) :
  Calls Tryz.prog 81 #[.pointer (some ⟨n, 0, none⟩), pduV u] w (EndSigs k D w n (En.transfer x (s, r) u l)) := by
 obtain ⟨s2, cnt, er, hz⟩ : ∃ s2 cnt er, Sf.stat s u.n u.mr u.ps l = (s2, cnt, er) := ⟨_, _, _, rfl⟩
 have HZE := lh hz
 have hok2 : Sf.Ok s2 lo hi := by have := hso.stat u.n u.mr u.ps l; rw [hz] at this; exact this
 have HOK2 := lh hok2
 have hcs : (er = 12 ∧ s2 = s) ∨ (er = 13 ∧ s2 = s) ∨ er = 0 := by
  unfold Sf.stat at hz
  split at hz
  ·injection hz with e1 e2; injection e2 with e2 e3; exact .inl ⟨e3.symm, e1.symm⟩
  ·split at hz
   ·injection hz with e1 e2; injection e2 with e2 e3; exact .inr (.inl ⟨e3.symm, e1.symm⟩)
   ·injection hz with e1 e2; injection e2 with e2 e3; exact .inr (.inr e3.symm)
 have HY : Hid (En.transfer x (s, r) u l = if er = 12 then En.fail x 82 else if er = 13 then En.fail x 83 else ({ x with ep := some (s2, r), tm := Pc.answered x.tm x.c.silent x.c.idle (En.sIdle s2) }, En.again cnt)) := by
  show _ = _
  unfold En.transfer
  rw [if_neg (by omega), if_neg (by omega), if_pos hk]
  simp only [hz]
 clear hz hok2
 obtain ⟨w0, hw0⟩ := xq (w.alloc (.cells #[.int .i64 u.kind, .int .i64 u.sq, .int .u32 u.n, .int .u32 u.ps, .int .u32 u.mr, .slice u.lA u.ln u.lc, .bool u.self, .string u.data] 58))
 obtain ⟨b, hb⟩ := xq w.heap.size
 obtain ⟨D0, hD0⟩ := xq (lab D w.heap.size (k + 8))
 have HF0 : Hid (Fresh w w0) := by rw [hw0]; exact (Touch.refl _ _).alloc _
 have HLAB : Hid (Lab k D D0 w.heap.size) := by rw [hD0]; exact lab_lab k D _ 8 (by omega)
 have hDb : D0 b = k + 8 := by rw [hD0, hb]; exact lab_new (Nat.le_refl _)
 have HBX : Hid (∀ W, Touch (All D0 k) w0 W -> Blk W b 58 [.int .i64 u.kind, .int .i64 u.sq, .int .u32 u.n, .int .u32 u.ps, .int .u32 u.mr, .slice u.lA u.ln u.lc, .bool u.self, .string u.data]) := fun W hW => hW.blk (by rw [hw0, hb]; exact Blk.new w _ _) (by unfold All; omega)
 have H0 : Hid (EndIn k D0 w0 n cn pc un sp rp A ca B cb x) := h.old HF0.out (fun b hb => HLAB.out.1 b hb)
 have HBK : Hid (∀ y e w', EndSigs k D0 w0 n y e w' -> EndSigs k D w n y e w') := fun y e w' hy => hy.back HLAB.out (HF0.out.mono (fun _ _ e => e.elim))
 obtain ⟨p, q, rfl, rfl, -, -⟩ := h.ep_some he
 obtain ⟨⟨Fs, hs, hFs⟩, ⟨Fr, hr, hFr⟩⟩ := PE.snd (by have := H0.out.e; rw [he] at this; exact this)
 have HS := lh hs
 have HR := lh hr
 have HFS := lh hFs
 have HFR := lh hFr
 have HE := lh he
 have HLI : Hid (∀ W, Touch (All D0 k) w0 W -> Rd numE W u.lA u.lc l) := fun W hW => by
  refine Rd.touch (hrl.touch HF0.out (fun _ _ _ e => e)) hW (fun ad e hl2 e2 => ?_)
  have := hrl.lt hl2 ad e
  unfold All at e2
  rw [HLAB.out.1 _ this] at e2
  exact hlA ad e e2
 have HLN := lh hln
 clear h hs hr hFs hFr hD0 he hrl hlA hln
 have x0 : w0.cell? ⟨b, 0, none⟩ = some (.int .i64 u.kind) := (HBX.out w0 (Touch.refl _ _)).cell 0
 rw [hk] at x0
 clear hk
 generalize hZ : En.transfer x (s, r) u l = Z at HY ⊢
 clear hZ
 unfold pduV
 go_enter Tryz.func81, Tryz.ntmps81
 go_upto_region 1 with (fail)
 rw [<- hw0, <- hb]
 clear hw0 hb
 have HPL : Hid (∀ W, Fresh w0 W -> Calls Tryz.prog 166 #[.pointer (some ⟨p, 0, none⟩), .int .u32 u.n, .int .u32 u.mr, .int .u32 u.ps, .slice u.lA l.length u.lc] W fun e w' => e = .returned (.tuple #[.int .i64 cnt, .int .i64 er]) ∧ SendAt w' p (Grown Fs W) (Sf.prog s2) ∧ Touch Fs W w') := fun W hW => by
  have := sstat_any p Fs s lo hi hso u.n u.mr u.ps u.lA u.lc l W (HS.out.old hW) (HLI.out W (hW.mono (fun _ _ e => e.elim))) hll hmr
  unfold StatPost at this
  rw [HZE.out] at this
  exact this
 have FD : Fresh w0 w0.drew := (Touch.refl _ _).drew
 have KF : Hid (∀ wx, Touch Fs w0 wx -> wx.cell? ⟨n, 13, none⟩ = some (.pointer (some ⟨p, 0, none⟩)) ∧ wx.cell? ⟨b, 2, none⟩ = some (.int .u32 u.n) ∧ wx.cell? ⟨b, 4, none⟩ = some (.int .u32 u.mr) ∧ wx.cell? ⟨b, 3, none⟩ = some (.int .u32 u.ps) ∧ wx.cell? ⟨b, 5, none⟩ = some (.slice u.lA l.length u.lc)) := fun wx hW =>
  have hb := hW.blk H0.out.b.1 (fun e => by have := (HFS.out _ e).1; have := H0.out.b.2; omega)
  have hx := hW.blk (HBX.out w0 (Touch.refl _ _)) (fun e => by have := (HFS.out _ e).1; omega)
  have hx5 : wx.cell? ⟨b, 5, none⟩ = some (.slice u.lA l.length u.lc) := by rw [<- HLN.out]; exact hx.cell 5
  ⟨hb.cell 13, hx.cell 2, hx.cell 4, hx.cell 3, hx5⟩
 obtain ⟨an13, ab2, ab4, ab3, ab5⟩ := KF.out w0 (Touch.refl _ _)
 have HL0 : Hid (Lab k D0 (lab D0 w0.heap.size (k + 5)) w0.heap.size) := lab_lab k D0 _ 5 (by omega)
 have HS9 : Hid (∀ w1 W, Fresh w0 W -> SendAt w1 p (Grown Fs W) (Sf.prog s2) -> Touch Fs w0 w1 -> W.heap.size = w0.heap.size -> EndIn k (lab D0 w0.heap.size (k + 5)) w1 n cn pc un (some p) (some q) A ca B cb { x with ep := some (s2, r) } ∧ Touch (All D0 k) w0 w1) := fun w1 W hW h1 h2 h3 => by
  have hps : PS k (lab D0 w0.heap.size (k + 5)) w1 p s2 := PS.up (w := w0) HFS.out (h1.mono fun b hb => hb.imp id (fun e => by rw [<- h3]; exact e))
  exact ⟨H0.out.sent HE.out rfl hps h2 (fun b hb => (HFS.out b hb).1) (fun b hb => lab_old hb), h2.mono fun b _ hb => by have := (HFS.out b hb).1; unfold All; omega⟩
 rcases hcs with ⟨rfl, rfl⟩ | ⟨rfl, rfl⟩ | rfl
 ·have HY2 : Hid (Z = En.fail x 82) := by show _ = _; have := HY.out; simpa using this
  have HNF : Hid (∀ w1 D1, EndIn k D1 w1 n cn pc un (some p) (some q) A ca B cb { x with ep := some (s2, r) } -> Lab k D0 D1 w0.heap.size -> Touch (All D0 k) w0 w1 -> Calls Tryz.prog 165 #[.pointer (some ⟨n, 0, none⟩), .int .u8 82] w1 (EndSigs k D w n Z)) := fun w1 D1 h1 hl h2 => by
   rw [HY2.out]
   rw [show ({ x with ep := some (s2, r) } : En.X) = x by rw [<- HE.out]] at h1
   exact (nfail_to 82 h1 hl h2 hctl ⟨(s2, r), lo, hi, HE.out, HOK2.out⟩).mono fun e w' hy => HBK.out _ _ _ hy
  clear HY HY2 HBK hso _hro HE HZE HOK2
  go_upto_region 16 with (fail)
  go_region_held3 (fun wx => wx.cell? ⟨n, 13, none⟩ = some (.pointer (some ⟨p, 0, none⟩)) ∧ wx.cell? ⟨b, 2, none⟩ = some (.int .u32 u.n) ∧ wx.cell? ⟨b, 4, none⟩ = some (.int .u32 u.mr) ∧ wx.cell? ⟨b, 3, none⟩ = some (.int .u32 u.ps) ∧ wx.cell? ⟨b, 5, none⟩ = some (.slice u.lA l.length u.lc))
   ((with_reducible refine KF.out _ ?_; first | with_reducible assumption | exact FD.mono (fun _ _ e => e.elim)))
   (first
    |(go_simp; go_at_call 166; (with_reducible refine (HPL.out _ FD).mono ?_); rintro e w1 ⟨rfl, hr1, t1⟩
      have FT : Touch Fs w0 w1 := (FD.mono (fun _ _ e => e.elim)).trans t1 (fun _ _ e => e)))
  obtain ⟨h1, t2⟩ := HS9.out w1 _ FD hr1 FT rfl
  have H1 := lh h1
  have T1 := lh t2
  clear h1 t2 hr1 t1 FT KF HS9 HPL x0 an13 ab2 ab4 ab3 ab5 FD
  have HC := lh (HNF.out w1 _ H1.out HL0.out T1.out)
  clear H1 T1 HNF
  go_wp2_with fail
  refine HC.out.mono ?_
  rintro e w2 h2
  have HE2 := lh h2
  obtain ⟨D', A', c', rfl, -⟩ := h2
  simp only
  go_wp2
  go_ret
  exact HE2.out
 ·have HY2 : Hid (Z = En.fail x 83) := by show _ = _; have := HY.out; simpa using this
  have HNF : Hid (∀ w1 D1, EndIn k D1 w1 n cn pc un (some p) (some q) A ca B cb { x with ep := some (s2, r) } -> Lab k D0 D1 w0.heap.size -> Touch (All D0 k) w0 w1 -> Calls Tryz.prog 165 #[.pointer (some ⟨n, 0, none⟩), .int .u8 83] w1 (EndSigs k D w n Z)) := fun w1 D1 h1 hl h2 => by
   rw [HY2.out]
   rw [show ({ x with ep := some (s2, r) } : En.X) = x by rw [<- HE.out]] at h1
   exact (nfail_to 83 h1 hl h2 hctl ⟨(s2, r), lo, hi, HE.out, HOK2.out⟩).mono fun e w' hy => HBK.out _ _ _ hy
  clear HY HY2 HBK hso _hro HE HZE HOK2
  go_upto_region 16 with (fail)
  go_region_held3 (fun wx => wx.cell? ⟨n, 13, none⟩ = some (.pointer (some ⟨p, 0, none⟩)) ∧ wx.cell? ⟨b, 2, none⟩ = some (.int .u32 u.n) ∧ wx.cell? ⟨b, 4, none⟩ = some (.int .u32 u.mr) ∧ wx.cell? ⟨b, 3, none⟩ = some (.int .u32 u.ps) ∧ wx.cell? ⟨b, 5, none⟩ = some (.slice u.lA l.length u.lc))
   ((with_reducible refine KF.out _ ?_; first | with_reducible assumption | exact FD.mono (fun _ _ e => e.elim)))
   (first
    |(go_simp; go_at_call 166; (with_reducible refine (HPL.out _ FD).mono ?_); rintro e w1 ⟨rfl, hr1, t1⟩
      have FT : Touch Fs w0 w1 := (FD.mono (fun _ _ e => e.elim)).trans t1 (fun _ _ e => e)))
  obtain ⟨h1, t2⟩ := HS9.out w1 _ FD hr1 FT rfl
  have H1 := lh h1
  have T1 := lh t2
  clear h1 t2 hr1 t1 FT KF HS9 HPL x0 an13 ab2 ab4 ab3 ab5 FD
  have HC := lh (HNF.out w1 _ H1.out HL0.out T1.out)
  clear H1 T1 HNF
  go_wp2_with fail
  refine HC.out.mono ?_
  rintro e w2 h2
  have HE2 := lh h2
  obtain ⟨D', A', c', rfl, -⟩ := h2
  simp only
  go_wp2
  go_ret
  exact HE2.out
 ·have HY2 : Hid (Z = ({ x with ep := some (s2, r), tm := Pc.answered x.tm x.c.silent x.c.idle (En.sIdle s2) }, En.again cnt)) := by show _ = _; have := HY.out; simpa using this
  have HOKL : Hid (s2.last.length = s2.kept.length) := HOK2.out.llen
  clear HY hso _hro hctl HE HZE HOK2
  go_upto_region 16 with (fail)
  go_region_held3 (fun wx => wx.cell? ⟨n, 13, none⟩ = some (.pointer (some ⟨p, 0, none⟩)) ∧ wx.cell? ⟨b, 2, none⟩ = some (.int .u32 u.n) ∧ wx.cell? ⟨b, 4, none⟩ = some (.int .u32 u.mr) ∧ wx.cell? ⟨b, 3, none⟩ = some (.int .u32 u.ps) ∧ wx.cell? ⟨b, 5, none⟩ = some (.slice u.lA l.length u.lc))
   ((with_reducible refine KF.out _ ?_; first | with_reducible assumption | exact FD.mono (fun _ _ e => e.elim)))
   (first
    |(go_simp; go_at_call 166; (with_reducible refine (HPL.out _ FD).mono ?_); rintro e w1 ⟨rfl, hr1, t1⟩
      have FT : Touch Fs w0 w1 := (FD.mono (fun _ _ e => e.elim)).trans t1 (fun _ _ e => e)))
  obtain ⟨h1, t2⟩ := HS9.out w1 _ FD hr1 FT rfl
  have H1 := lh h1
  have T1 := lh t2
  clear h1 t2 hr1 t1 FT KF HS9 HPL x0 an13 ab2 ab4 ab3 ab5 FD
  go_upto_region 22 with (fail)
  have HPC := lh H1.out.p.1
  have KP : Hid (∀ wx, Touch (· = pc) w1 wx -> wx.cell? ⟨n, 12, none⟩ = some (.pointer (some ⟨pc, 0, none⟩))) := fun wx hW => (hW.blk H1.out.b.1 (fun e => by have e : n = pc := e; have := H1.out.p.2; have := H1.out.b.2; rw [e] at this; omega)).cell 12
  have a12 := KP.out w1 (Touch.refl _ _)
  have HIDQ : Hid (∀ W, Fresh w1 W -> Calls Tryz.prog 42 #[.pointer (some ⟨n, 0, none⟩)] W fun e w' => e = .returned (.bool (En.sIdle s2)) ∧ Fresh W w') := fun W hW => by
   have hq : ∀ b, b < w1.heap.size -> (lab D0 w0.heap.size (k + 5)) b = (lab D0 w0.heap.size (k + 5)) b := fun _ _ => rfl
   refine (nidle_any (H1.out.old hW hq) (fun e he => by injection he with he; subst he; exact HOKL.out)).mono ?_
   rintro e w' ⟨h1, m2, h2⟩
   exact ⟨h1, by rw [h2]; exact (Touch.refl _ _).drewN m2⟩
  have HAN : Hid (∀ W, Fresh w1 W -> Calls Tryz.prog 167 #[.pointer (some ⟨pc, 0, none⟩), .bool (En.sIdle s2)] W fun e w' => e = .returned (.tuple #[]) ∧ Pk w' pc (Pc.answered x.tm x.c.silent x.c.idle (En.sIdle s2)) x.c.cc x.c.poll x.c.keep x.c.silent x.c.idle ∧ Touch (· = pc) W w') := fun W hW => answered_any _ _ _ _ _ _ _ _ _ (Bk.touch HPC.out hW (fun e => e))
  have FD : Fresh w1 w1.drew := (Touch.refl _ _).drew
  go_region_held3 (fun wx => wx.cell? ⟨n, 12, none⟩ = some (.pointer (some ⟨pc, 0, none⟩)))
   ((with_reducible refine KP.out _ ?_; first | with_reducible assumption | exact FD.mono (fun _ _ e => e.elim) | exact FI.mono (fun _ _ e => e.elim)))
   (first
    |(go_simp; go_at_call 42; (with_reducible refine (HIDQ.out _ FD).mono ?_); rintro e w2 ⟨rfl, f2⟩
      have FI : Fresh w1 w2 := FD.trans f2 (fun _ _ e => e)
      have FJ : Touch (· = pc) w1 w2 := FI.mono (fun _ _ e => e.elim))
    |(go_simp; go_at_call 167; (with_reducible refine (HAN.out _ FI).mono ?_); rintro e w3 ⟨rfl, p3, t3⟩
      have FT : Touch (· = pc) w1 w3 := (FI.mono (fun _ _ e => e.elim)).trans t3 (fun _ _ e => e)))
  have H3 := lh (H1.out.paced (D' := (lab D0 w0.heap.size (k + 5))) p3 FT (fun b hb => by subst hb; exact H1.out.p.2) (fun _ _ => rfl))
  have T3 : Hid (Touch (All D0 k) w0 w3) := T1.out.then HL0.out (FT.mono fun b _ hb => by subst hb; have := H1.out.p.2; unfold All; omega)
  clear H1 T1 FI FJ FT FD f2 p3 t3 KP HIDQ HAN a12 HPC
  go_wp2_with (go_at_call 168; (with_reducible refine (nagain_any _ _).mono ?_); rintro e w4 ⟨A2, c2, rfl, hm⟩)
  go_ret
  rw [HY2.out]
  have z1 := T3.out.size
  have hD : ∀ b, b < w3.heap.size -> lab (lab D0 w0.heap.size (k + 5)) w3.heap.size (k + 8) b = (lab D0 w0.heap.size (k + 5)) b := fun b hb => lab_old hb
  exact HBK.out _ _ _ ⟨_, A2, c2, rfl, ⟨⟨_, _, _, _, _, _, _, _, _, H3.out.old hm.fresh hD⟩, HL0.out.trans (lab_lab k _ _ 8 (by omega)) z1, T3.out.trans hm.fresh (fun _ _ e => e.elim)⟩, hm.sl, fun ad e => ⟨Nat.le_trans z1 (hm.base ad e), lab_new (hm.base ad e)⟩⟩
end
set_option maxRecDepth 20000

section
variable {k : Nat} {D D' : Nat -> Nat} {w w' : World} {n cn pc un : Nat} {sp rp : Option Nat} {A B : Option Addr} {ca cb : Nat} {x : En.X}
theorem map_take_succ {α β : Type} (f : α -> β) (L : List α) (j : Nat) (hj : j < L.length) : (L.take (j + 1)).map f = (L.take j).map f ++ [f L[j]] := by
 rw [List.take_succ_eq_append_getElem hj, List.map_append]
 rfl
end
set_option maxRecDepth 20000

structure UFit (k : Nat) (D : Nat -> Nat) (w : World) (u : Cn.Pd) (l : List Int) : Prop where
 n : 0 <= u.n ∧ u.n < 16777216
 mr : 0 <= u.mr ∧ u.mr < 16777216
 rd : Rd numE w u.lA u.lc l
 ln : u.ln = l.length
 ll : l.length <= 1000000
 ap : ∀ ad, u.lA = some ad -> ad.block < w.heap.size ∧ ¬ (k <= D ad.block ∧ D ad.block < k + 8)
section
variable {k : Nat} {D D' : Nat -> Nat} {w w' : World} {n cn pc un : Nat} {sp rp : Option Nat} {A B : Option Addr} {ca cb : Nat} {x : En.X}
theorem UFit.to {u : Cn.Pd} {l : List Int} (h : UFit k D w u l) (hl : Lab k D D' w.heap.size) (ht : Touch (All D k) w w') : UFit k D' w' u l := by
 refine ⟨h.n, h.mr, h.rd.touch ht (fun ad e _ e2 => (h.ap ad e).2 e2), h.ln, h.ll, fun ad e => ?_⟩
 obtain ⟨h1, h2⟩ := h.ap ad e
 exact ⟨Nat.lt_of_lt_of_le h1 ht.size, by rw [hl.1 _ h1]; exact h2⟩
theorem nhear_of (h : EndIn k D w n cn pc un sp rp A ca B cb x) {hi hi2 : Int} (hf : En.Fit x hi hi2) (u : Cn.Pd) (l : List Int) (hu : UFit k D w u l) (HT : ∀ D0 w0 e, EndIn k D0 w0 n cn pc un sp rp A ca B cb x -> UFit k D0 w0 u l -> x.ep = some e -> En.ofEp u.kind = true -> Calls Tryz.prog 81 #[.pointer (some ⟨n, 0, none⟩), pduV u] w0 (EndSigs k D0 w0 n (En.transfer x e u l))) :
  Calls Tryz.prog 33 #[.pointer (some ⟨n, 0, none⟩), pduV u] w (EndSigs k D w n (En.hear x u l)) := by
 obtain ⟨w0, hw0⟩ := xq (w.alloc (.cells #[.int .i64 u.kind, .int .i64 u.sq, .int .u32 u.n, .int .u32 u.ps, .int .u32 u.mr, .slice u.lA u.ln u.lc, .bool u.self, .string u.data] 58))
 obtain ⟨b, hb⟩ := xq w.heap.size
 obtain ⟨D0, hD0⟩ := xq (lab D w.heap.size (k + 8))
 have HF0 : Hid (Fresh w w0) := by rw [hw0]; exact (Touch.refl _ _).alloc _
 have HLAB : Hid (Lab k D D0 w.heap.size) := by rw [hD0]; exact lab_lab k D _ 8 (by omega)
 have hDb : D0 b = k + 8 := by rw [hD0, hb]; exact lab_new (Nat.le_refl _)
 have HBX : Hid (∀ W, Touch (All D0 k) w0 W -> Blk W b 58 [.int .i64 u.kind, .int .i64 u.sq, .int .u32 u.n, .int .u32 u.ps, .int .u32 u.mr, .slice u.lA u.ln u.lc, .bool u.self, .string u.data]) := fun W hW => hW.blk (by rw [hw0, hb]; exact Blk.new w _ _) (by unfold All; omega)
 have H0 : Hid (EndIn k D0 w0 n cn pc un sp rp A ca B cb x) := h.old HF0.out (fun b hb => HLAB.out.1 b hb)
 have HBK : Hid (∀ y e w', EndSigs k D0 w0 n y e w' -> EndSigs k D w n y e w') := fun y e w' hy => hy.back HLAB.out (HF0.out.mono (fun _ _ e => e.elim))
 have hu0 : UFit k D0 w0 u l := hu.to HLAB.out (HF0.out.mono (fun _ _ e => e.elim))
 have x0 : w0.cell? ⟨b, 0, none⟩ = some (.int .i64 u.kind) := (HBX.out w0 (Touch.refl _ _)).cell 0
 have y1 : w0.cell? ⟨b, 1, none⟩ = some (.int .i64 u.sq) := (HBX.out w0 (Touch.refl _ _)).cell 1
 have y2 : w0.cell? ⟨b, 2, none⟩ = some (.int .u32 u.n) := (HBX.out w0 (Touch.refl _ _)).cell 2
 have y3 : w0.cell? ⟨b, 3, none⟩ = some (.int .u32 u.ps) := (HBX.out w0 (Touch.refl _ _)).cell 3
 have y4 : w0.cell? ⟨b, 4, none⟩ = some (.int .u32 u.mr) := (HBX.out w0 (Touch.refl _ _)).cell 4
 have y5 : w0.cell? ⟨b, 5, none⟩ = some (.slice u.lA u.ln u.lc) := (HBX.out w0 (Touch.refl _ _)).cell 5
 have y6 : w0.cell? ⟨b, 6, none⟩ = some (.bool u.self) := (HBX.out w0 (Touch.refl _ _)).cell 6
 have y7 : w0.cell? ⟨b, 7, none⟩ = some (.string u.data) := (HBX.out w0 (Touch.refl _ _)).cell 7
 have z11 : w0.cell? ⟨n, 11, none⟩ = some (.pointer (some ⟨cn, 0, none⟩)) := H0.out.b.1.cell 11
 have HRD := lh (nready_any H0.out)
 have HTR : Hid (∀ e, x.ep = some e -> En.ofEp u.kind = true -> Calls Tryz.prog 81 #[.pointer (some ⟨n, 0, none⟩), pduV u] w0 (EndSigs k D w n (En.transfer x e u l))) := fun e he hk => (HT D0 w0 e H0.out hu0 he hk).mono fun _ _ hy => HBK.out _ _ _ hy
 have HCR : Hid (∀ W, Fresh w0 W -> Calls Tryz.prog 82 #[.pointer (some ⟨cn, 0, none⟩), pduV u] W fun e w' => ∃ v, e = .returned v ∧ ConnPost w0 cn (Cn.hearS x.conn u) v w') := fun W hW => by
  have hc := H0.out.c
  refine (creceive_any (hW.blk hc.1 (fun e => e)) hc.2.1 u).mono ?_
  rintro e w' ⟨v, h1, h2⟩
  exact ⟨v, h1, h2.back hW hc.1.lt⟩
 have HBG : Hid (∀ v w1, ConnPost w0 cn (Cn.hearS x.conn u) v w1 -> Calls Tryz.prog 51 #[.pointer (some ⟨n, 0, none⟩), v] w1 (EndSigs k D w n (En.brought x (Cn.hearS x.conn u)))) := fun v w1 hc => (nbrought H0.out hc hf.ctl (hf.ends (Cn.hear_ends _ _))).mono fun _ _ hy => HBK.out _ _ _ hy
 have HSG : Hid (∀ W c, W.heap = (w0.alloc (.cells (sigE.enc (En.msg c u.data)).toArray 61)).heap -> W.os = w0.os -> W.tape = w0.tape -> W.output = w0.output -> EndSigs k D w n (x, [En.msg c u.data]) (.returned (.slice (some ⟨w0.heap.size, 0, none⟩) 1 1)) W) := fun W c e1 e2 e3 e4 => by
  have ht : Fresh w0 W := touch_of_heap _ e2 e3 e4 e1
  have hD : ∀ b, b < w0.heap.size -> lab D0 w0.heap.size (k + 8) b = D0 b := fun b hb => lab_old hb
  exact HBK.out _ _ _ ⟨lab D0 w0.heap.size (k + 8), some ⟨w0.heap.size, 0, none⟩, 1, rfl, ⟨⟨_, _, _, _, _, _, _, _, _, H0.out.old ht hD⟩, lab_lab k D0 _ 8 (by omega), ht.mono (fun _ _ e => e.elim)⟩, Sl.heap (Sl.lit sigE w0 _ rfl (sigE.enc (En.msg c u.data)).toArray [En.msg c u.data] (by simp [El.all]) 1 rfl (by decide)) e1, fun ad e => by injection e with e; subst e; exact ⟨Nat.le_refl _, lab_new (Nat.le_refl _)⟩⟩
 obtain ⟨rd, hrd⟩ := qx x.ep.isSome
 have HY : Hid (En.hear x u l = if u.kind = 13 then (x, [En.msg 9 u.data]) else if u.kind = 14 then (x, [En.msg 10 u.data]) else match x.ep with
  |none => En.brought x (Cn.hearS x.conn u)
  |some e => if En.ofEp u.kind then En.transfer x e u l else En.brought x (Cn.hearS x.conn u)) := rfl
 have HXE : Hid (x.ep.isSome = rd) := hrd
 rw [hrd] at HRD
 generalize En.hear x u l = Z at HY ⊢
 generalize Cn.hearS x.conn u = Y at HY HCR HBG
 clear h hf hu hu0 hD0 hrd HT
 unfold pduV at HTR HCR ⊢
 go_enter Tryz.func33, Tryz.ntmps33
 go_upto_region 1 with (fail)
 rw [<- hw0, <- hb]
 clear hw0 hb
 by_cases h13 : u.kind = 13
 ·have b13 : (u.kind == 13) = true := by rw [h13]; rfl
  have HZ : Hid (Z = (x, [En.msg 9 u.data])) := HY.out.trans (by rw [if_pos h13])
  clear h13
  go_wp2
  go_ret
  rw [HZ.out]
  exact HSG.out _ 9 rfl rfl rfl rfl
 have b13 : (u.kind == 13) = false := by simpa using h13
 by_cases h14 : u.kind = 14
 ·have b14 : (u.kind == 14) = true := by rw [h14]; rfl
  have HZ : Hid (Z = (x, [En.msg 10 u.data])) := HY.out.trans (by rw [if_neg h13, if_pos h14])
  clear h14 h13
  go_wp2
  go_ret
  rw [HZ.out]
  exact HSG.out _ 10 rfl rfl rfl rfl
 have b14 : (u.kind == 14) = false := by simpa using h14
 have HZ1 : Hid (∀ e, x.ep = some e -> En.ofEp u.kind = true -> Z = En.transfer x e u l) := fun e he hk => by
  rw [HY.out, if_neg h13, if_neg h14, he]
  simp only [hk, if_true]
 have HZ2 : Hid ((rd = false ∨ En.ofEp u.kind = false) -> Z = En.brought x Y) := fun hc => by
  rw [HY.out, if_neg h13, if_neg h14]
  cases he : x.ep with
  |none => rfl
  |some e =>
   rcases hc with hc | hc
   ·have := HXE.out
    rw [he, hc] at this
    cases this
   ·simp only [hc]
    rfl
 clear h13 h14 HY
 have HTR2 : Hid (rd = true -> En.ofEp u.kind = true -> Calls Tryz.prog 81 #[.pointer (some ⟨n, 0, none⟩), .agg #[.int .i64 u.kind, .int .i64 u.sq, .int .u32 u.n, .int .u32 u.ps, .int .u32 u.mr, .slice u.lA u.ln u.lc, .bool u.self, .string u.data]] w0 (EndSigs k D w n Z)) := fun h1 h2 => by
  have h3 := HXE.out
  rw [h1] at h3
  obtain ⟨e, he⟩ := Option.isSome_iff_exists.1 h3
  rw [HZ1.out e he h2]
  exact HTR.out e he h2
 clear HTR HZ1 HXE HSG
 generalize u.kind = kd at *
 by_cases h8 : kd = 8
 ·subst h8
  cases rd with
  |true =>
   have HT := lh (HTR2.out rfl (by rfl))
   clear HTR2 HZ2
   go_wp2_with (first
    |(go_at_call 36; (with_reducible refine HRD.out.mono ?_); rintro e w1 ⟨rfl, rfl⟩)
    |(go_at_call 81; (with_reducible refine HT.out.mono ?_); rintro e w2 h2; have HE2 := lh h2; obtain ⟨D', A', c', rfl, -⟩ := h2))
   go_ret
   exact HE2.out
  |false =>
   have HZ3 : Hid (Z = En.brought x Y) := HZ2.out (.inl rfl)
   rw [<- HZ3.out] at HBG
   clear HZ2 HZ3 HTR2
   go_upto_region 12 with (go_at_call 36; (with_reducible refine HRD.out.mono ?_); rintro e w1 ⟨rfl, rfl⟩)
   go_region_with (first
    |(go_at_call 82; (with_reducible refine (HCR.out _ (Touch.drew (Touch.refl _ _))).mono ?_); rintro e w1 ⟨v, rfl, hc⟩)
    |(go_at_call 51; (with_reducible refine (HBG.out v w1 hc).mono ?_); rintro e w2 h2; have HE2 := lh h2; obtain ⟨D', A', c', rfl, -⟩ := h2))
   all_goals
    go_wp2
    go_ret
    exact HE2.out
 have b8 : (kd == 8) = false := by simpa using h8
 by_cases h10 : kd = 10
 ·subst h10
  cases rd with
  |true =>
   have HT := lh (HTR2.out rfl (by rfl))
   clear HTR2 HZ2
   go_wp2_with (first
    |(go_at_call 36; (with_reducible refine HRD.out.mono ?_); rintro e w1 ⟨rfl, rfl⟩)
    |(go_at_call 81; (with_reducible refine HT.out.mono ?_); rintro e w2 h2; have HE2 := lh h2; obtain ⟨D', A', c', rfl, -⟩ := h2))
   go_ret
   exact HE2.out
  |false =>
   have HZ3 : Hid (Z = En.brought x Y) := HZ2.out (.inl rfl)
   rw [<- HZ3.out] at HBG
   clear HZ2 HZ3 HTR2
   go_upto_region 12 with (go_at_call 36; (with_reducible refine HRD.out.mono ?_); rintro e w1 ⟨rfl, rfl⟩)
   go_region_with (first
    |(go_at_call 82; (with_reducible refine (HCR.out _ (Touch.drew (Touch.refl _ _))).mono ?_); rintro e w1 ⟨v, rfl, hc⟩)
    |(go_at_call 51; (with_reducible refine (HBG.out v w1 hc).mono ?_); rintro e w2 h2; have HE2 := lh h2; obtain ⟨D', A', c', rfl, -⟩ := h2))
   all_goals
    go_wp2
    go_ret
    exact HE2.out
 have b10 : (kd == 10) = false := by simpa using h10
 by_cases h11 : kd = 11
 ·subst h11
  cases rd with
  |true =>
   have HT := lh (HTR2.out rfl (by rfl))
   clear HTR2 HZ2
   go_wp2_with (first
    |(go_at_call 36; (with_reducible refine HRD.out.mono ?_); rintro e w1 ⟨rfl, rfl⟩)
    |(go_at_call 81; (with_reducible refine HT.out.mono ?_); rintro e w2 h2; have HE2 := lh h2; obtain ⟨D', A', c', rfl, -⟩ := h2))
   go_ret
   exact HE2.out
  |false =>
   have HZ3 : Hid (Z = En.brought x Y) := HZ2.out (.inl rfl)
   rw [<- HZ3.out] at HBG
   clear HZ2 HZ3 HTR2
   go_upto_region 12 with (go_at_call 36; (with_reducible refine HRD.out.mono ?_); rintro e w1 ⟨rfl, rfl⟩)
   go_region_with (first
    |(go_at_call 82; (with_reducible refine (HCR.out _ (Touch.drew (Touch.refl _ _))).mono ?_); rintro e w1 ⟨v, rfl, hc⟩)
    |(go_at_call 51; (with_reducible refine (HBG.out v w1 hc).mono ?_); rintro e w2 h2; have HE2 := lh h2; obtain ⟨D', A', c', rfl, -⟩ := h2))
   all_goals
    go_wp2
    go_ret
    exact HE2.out
 have b11 : (kd == 11) = false := by simpa using h11
 by_cases h12 : kd = 12
 ·subst h12
  cases rd with
  |true =>
   have HT := lh (HTR2.out rfl (by rfl))
   clear HTR2 HZ2
   go_wp2_with (first
    |(go_at_call 36; (with_reducible refine HRD.out.mono ?_); rintro e w1 ⟨rfl, rfl⟩)
    |(go_at_call 81; (with_reducible refine HT.out.mono ?_); rintro e w2 h2; have HE2 := lh h2; obtain ⟨D', A', c', rfl, -⟩ := h2))
   go_ret
   exact HE2.out
  |false =>
   have HZ3 : Hid (Z = En.brought x Y) := HZ2.out (.inl rfl)
   rw [<- HZ3.out] at HBG
   clear HZ2 HZ3 HTR2
   go_upto_region 12 with (go_at_call 36; (with_reducible refine HRD.out.mono ?_); rintro e w1 ⟨rfl, rfl⟩)
   go_region_with (first
    |(go_at_call 82; (with_reducible refine (HCR.out _ (Touch.drew (Touch.refl _ _))).mono ?_); rintro e w1 ⟨v, rfl, hc⟩)
    |(go_at_call 51; (with_reducible refine (HBG.out v w1 hc).mono ?_); rintro e w2 h2; have HE2 := lh h2; obtain ⟨D', A', c', rfl, -⟩ := h2))
   all_goals
    go_wp2
    go_ret
    exact HE2.out
 have b12 : (kd == 12) = false := by simpa using h12
 have hof : En.ofEp kd = false := by unfold En.ofEp; rw [b8, b10, b11, b12]; rfl
 have HZ3 : Hid (Z = En.brought x Y) := HZ2.out (.inr hof)
 rw [<- HZ3.out] at HBG
 clear HZ2 HZ3 HTR2
 go_upto_region 12 with (go_at_call 36; (with_reducible refine HRD.out.mono ?_); rintro e w1 ⟨rfl, rfl⟩)
 go_region_with (first
  |(go_at_call 82; (with_reducible refine (HCR.out _ (Touch.drew (Touch.refl _ _))).mono ?_); rintro e w1 ⟨v, rfl, hc⟩)
  |(go_at_call 51; (with_reducible refine (HBG.out v w1 hc).mono ?_); rintro e w2 h2; have HE2 := lh h2; obtain ⟨D', A', c', rfl, -⟩ := h2))
 all_goals
  go_wp2
  go_ret
  exact HE2.out
end
set_option maxRecDepth 20000

section
variable {k : Nat} {D D' : Nat -> Nat} {w w' w1 : World} {n cn pc un : Nat} {sp rp : Option Nat} {A B : Option Addr} {ca cb : Nat} {x : En.X}
theorem ncredit_to {y : En.X × List Cn.Sig} {c : Nat} {hi hi2 : Int} (h1 : EndTo k D D' w w1 n y.1) (hs : Sl sigE w1 A c y.2) (ha : ∀ ad, A = some ad -> w.heap.size <= ad.block ∧ D' ad.block = k + 8) (hf : En.Fit y.1 hi hi2) (hl : y.2.length <= 1000000) :
  Calls Tryz.prog 32 #[.pointer (some ⟨n, 0, none⟩), .slice A y.2.length c] w1 (EndSigs k D w n (En.credit y.1 y.2)) := by
 obtain ⟨cn, pc, un, sp, rp, B1, cb1, B2, cb2, hi'⟩ := h1.at_
 refine (ncredit_any hi' (fun e he => ⟨_, _, (hf.ep e he).1⟩) A c y.2 hs hl (fun ad e => ?_)).mono ?_
 ·have := (ha ad e).2; omega
 ·rintro e w2 ⟨A', c', rfl, g1, g2, g3⟩
  have hn : D' n = k := hi'.b.2
  have hD2 := lab_lab k D' w1.heap.size 8 (by omega)
  refine ⟨_, A', c', rfl, ⟨⟨_, _, _, _, _, _, _, _, _, g2⟩, h1.lab.trans hD2 h1.touch.size, h1.touch.trans g3 ?_⟩, g1.sl, ?_⟩
  ·intro b hb e
   rcases e with rfl | e
   ·have := h1.lab.1 _ hb
    unfold All
    omega
   ·obtain ⟨ad, h2, h3⟩ := Option.map_eq_some_iff.1 e
    have := (ha ad h2).1
    omega
  ·intro ad e
   rcases g1.at_ with g | g
   ·rw [e] at g
    obtain ⟨ad0, h2, h3⟩ := Option.map_eq_some_iff.1 g.symm
    have h4 := ha ad0 h2
    rw [h3] at h4
    refine ⟨h4.1, ?_⟩
    unfold lab
    split
    ·exact h4.2
    ·rfl
   ·have := g ad e
    exact ⟨Nat.le_trans h1.touch.size this, lab_new this⟩
theorem nreceive_of (h : EndIn k D w n cn pc un sp rp A ca B cb x) {hi hi2 : Int} (u : Cn.Pd) (l : List Int) (hu : UFit k D w u l) (HHR : ∀ D0 w0, EndIn k D0 w0 n cn pc un sp rp A ca B cb x -> UFit k D0 w0 u l -> Calls Tryz.prog 33 #[.pointer (some ⟨n, 0, none⟩), pduV u] w0 (EndSigs k D0 w0 n (En.hear x u l))) (HOK : En.Fit (En.hear x u l).1 hi hi2 ∧ (En.hear x u l).2.length <= 1000) :
  Calls Tryz.prog 13 #[.pointer (some ⟨n, 0, none⟩), pduV u] w (EndSigs k D w n (En.receive x u l)) := by
 obtain ⟨w0, hw0⟩ := xq (w.alloc (.cells #[.int .i64 u.kind, .int .i64 u.sq, .int .u32 u.n, .int .u32 u.ps, .int .u32 u.mr, .slice u.lA u.ln u.lc, .bool u.self, .string u.data] 58))
 obtain ⟨b, hb⟩ := xq w.heap.size
 obtain ⟨D0, hD0⟩ := xq (lab D w.heap.size (k + 8))
 have HF0 : Hid (Fresh w w0) := by rw [hw0]; exact (Touch.refl _ _).alloc _
 have HLAB : Hid (Lab k D D0 w.heap.size) := by rw [hD0]; exact lab_lab k D _ 8 (by omega)
 have HBX : Blk w0 b 58 [.int .i64 u.kind, .int .i64 u.sq, .int .u32 u.n, .int .u32 u.ps, .int .u32 u.mr, .slice u.lA u.ln u.lc, .bool u.self, .string u.data] := by rw [hw0, hb]; exact Blk.new w _ _
 have H0 : EndIn k D0 w0 n cn pc un sp rp A ca B cb x := h.old HF0.out (fun b hb => HLAB.out.1 b hb)
 have hu0 : UFit k D0 w0 u l := hu.to HLAB.out (HF0.out.mono (fun _ _ e => e.elim))
 have y0 : w0.cell? ⟨b, 0, none⟩ = some (.int .i64 u.kind) := HBX.cell 0
 have y1 : w0.cell? ⟨b, 1, none⟩ = some (.int .i64 u.sq) := HBX.cell 1
 have y2 : w0.cell? ⟨b, 2, none⟩ = some (.int .u32 u.n) := HBX.cell 2
 have y3 : w0.cell? ⟨b, 3, none⟩ = some (.int .u32 u.ps) := HBX.cell 3
 have y4 : w0.cell? ⟨b, 4, none⟩ = some (.int .u32 u.mr) := HBX.cell 4
 have y5 : w0.cell? ⟨b, 5, none⟩ = some (.slice u.lA u.ln u.lc) := HBX.cell 5
 have y6 : w0.cell? ⟨b, 6, none⟩ = some (.bool u.self) := HBX.cell 6
 have y7 : w0.cell? ⟨b, 7, none⟩ = some (.string u.data) := HBX.cell 7
 obtain ⟨Z, hZ⟩ := xq (En.hear x u l)
 have HH : Hid (Calls Tryz.prog 33 #[.pointer (some ⟨n, 0, none⟩), pduV u] w0 (EndSigs k D0 w0 n Z)) := by
  rw [hZ]; exact HHR D0 w0 H0 hu0
 rw [<- hZ] at HOK
 have HCR : Hid (∀ D' A c w1, EndTo k D0 D' w0 w1 n Z.1 -> Sl sigE w1 A c Z.2 -> (∀ ad, A = some ad -> w0.heap.size <= ad.block ∧ D' ad.block = k + 8) -> Calls Tryz.prog 32 #[.pointer (some ⟨n, 0, none⟩), .slice A Z.2.length c] w1 (EndSigs k D0 w0 n (En.credit Z.1 Z.2))) := fun D' A c w1 h1 h2 h3 => ncredit_to h1 h2 h3 HOK.1 (by have := HOK.2; omega)
 have HBK : Hid (∀ e w', EndSigs k D0 w0 n (En.credit Z.1 Z.2) e w' -> EndSigs k D w n (En.receive x u l) e w') := fun e w' hy => by
  rw [hZ] at hy
  exact hy.back HLAB.out (HF0.out.mono (fun _ _ e => e.elim))
 generalize En.credit Z.1 Z.2 = Y at HCR HBK
 generalize En.receive x u l = R at HBK ⊢
 clear h hu hu0 hD0 HOK hZ H0 HBX HHR
 unfold pduV at HH ⊢
 go_enter Tryz.func13, Tryz.ntmps13
 go_upto_region 1 with (fail)
 rw [<- hw0, <- hb]
 clear hw0 hb
 go_wp2_with (first
  |(go_at_call 33; (with_reducible refine HH.out.mono ?_); rintro e w1 ⟨D1, A1, c1, rfl, h1, h2, h3⟩; have HC := lh (HCR.out D1 A1 c1 w1 h1 h2 h3); clear h1 h2 h3)
  |(go_at_call 32; (with_reducible refine HC.out.mono ?_); rintro e w2 h2; have HE := lh (HBK.out _ _ h2); obtain ⟨D', A', c', rfl, -⟩ := h2))
 go_ret
 exact HE.out
theorem En.hear_conn {x : En.X} {hi hi2 : Int} (hf : En.Fit x hi hi2) (u : Cn.Pd) (l : List Int) (hk : En.ofEp u.kind = false) : En.Fit (En.hear x u l).1 hi hi2 ∧ (En.hear x u l).2.length <= 1000 := by
 have hb := And.intro (hf.brought (Cn.hear_ends x.conn u)) (En.brought_sg x (Cn.hear_ends x.conn u))
 unfold En.hear
 split
 ·exact ⟨hf, by simp⟩
 ·split
  ·exact ⟨hf, by simp⟩
  ·split
   ·exact hb
   ·rw [hk]
    exact hb
theorem nreceive_conn (h : EndIn k D w n cn pc un sp rp A ca B cb x) {hi hi2 : Int} (hf : En.Fit x hi hi2) (u : Cn.Pd) (l : List Int) (hu : UFit k D w u l) (hk : En.ofEp u.kind = false) :
  Calls Tryz.prog 13 #[.pointer (some ⟨n, 0, none⟩), pduV u] w (EndSigs k D w n (En.receive x u l)) :=
 nreceive_of h u l hu (fun _ _ h0 hu0 => nhear_of h0 hf u l hu0 fun _ _ _ _ _ _ hk2 => absurd hk2 (by rw [hk]; decide)) (En.hear_conn hf u l hk)
end
end Go.Proofs.YtipaobpmojahaaaGreat

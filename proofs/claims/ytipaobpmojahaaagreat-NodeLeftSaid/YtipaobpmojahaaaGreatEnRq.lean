/-
  node.Node: ask, arm by arm (Unit, Manage). No conditions but where the end lies · node.Node: ask at Data. Conditions: an epoch is there · node.Node: ask at a connection's request. Conditions: the end may be · node.Node: ask at Retrieve. Conditions: not too much was left · node.Node: Request. Conditions: the end may be.
-/
import Derived.Test.YtipaobpmojahaaaGreatEnR
import Derived.Test.YtipaobpmojahaaaGreatEvD
import Derived.BigRegion
import Derived.Test.YtipaobpmojahaaaGreatRPuD
import Derived.Test.YtipaobpmojahaaaGreatEnZk
import Derived.Test.YtipaobpmojahaaaGreatEnQ
set_option maxHeartbeats 2000000
namespace Go.Proofs.YtipaobpmojahaaaGreat
open Go.RowKit
set_option maxRecDepth 20000

def AskPost (k : Nat) (D : Nat -> Nat) (w : World) (n : Nat) (y : En.X × List Cn.Sig × Int) (e : Ending) (w' : World) : Prop :=
 ∃ D' A c, e = .returned (.tuple #[.slice A y.2.1.length c, .int .i64 y.2.2]) ∧ EndTo k D D' w w' n y.1 ∧ Sl sigE w' A c y.2.1 ∧ ∀ ad, A = some ad -> w.heap.size <= ad.block ∧ D' ad.block = k + 8
section
variable {k : Nat} {D : Nat -> Nat} {w : World} {n cn pc un : Nat} {sp rp : Option Nat} {A B : Option Addr} {ca cb : Nat} {x : En.X}
theorem nask_unit (h : EndIn k D w n cn pc un sp rp A ca B cb x) (d : ByteArray) (m : Int) :
  Calls Tryz.prog 31 #[.pointer (some ⟨n, 0, none⟩), .agg #[.int .i64 8, .string d, .int .i64 m]] w (AskPost k D w n (En.putU x (En.umsg 13 d))) := by
 obtain ⟨w0, hw0⟩ := xq (w.alloc (.cells #[.int .i64 8, .string d, .int .i64 m] 53))
 obtain ⟨b0, hb0⟩ := xq w.heap.size
 obtain ⟨D0, hD0⟩ := xq (lab D w.heap.size (k + 8))
 have HF0 : Hid (Fresh w w0) := by rw [hw0]; exact (Touch.refl _ _).alloc _
 have HLAB : Hid (Lab k D D0 w.heap.size) := by rw [hD0]; exact lab_lab k D _ 8 (by omega)
 have hDb : D0 b0 = k + 8 := by rw [hD0, hb0]; exact lab_new (Nat.le_refl _)
 have hBX : Blk w0 b0 53 [.int .i64 8, .string d, .int .i64 m] := by rw [hw0, hb0]; exact Blk.new w _ _
 have H0 : Hid (EndIn k D0 w0 n cn pc un sp rp A ca B cb x) := h.old HF0.out (fun b hb => HLAB.out.1 b hb)
 obtain ⟨rb, hr, hdu, hdb⟩ := H0.out.u
 have hF : ∀ z, Foot un rb z -> D0 z = k + 3 := fun z e => by
  rcases e with rfl | e
  ·exact hdu
  ·exact hdb _ e
 have KF : Hid (∀ wx, Touch (Foot un rb) w0 wx -> wx.cell? ⟨n, 16, none⟩ = some (.pointer (some ⟨un, 0, none⟩)) ∧ wx.cell? ⟨b0, 1, none⟩ = some (.string d)) := fun wx hw =>
  have h1 := hw.blk H0.out.b.1 (fun e => by have := hF _ e; have := H0.out.b.2; omega)
  have h2 := hw.blk hBX (fun e => by have := hF _ e; omega)
  ⟨h1.cell 16, h2.cell 1⟩
 obtain ⟨er, her⟩ : ∃ er : Int, er = if x.units.length < x.c.units.toNat then 0 else 7 := ⟨_, rfl⟩
 obtain ⟨q2, hq2⟩ := xq (if x.units.length < x.c.units.toNat then x.units ++ [En.umsg 13 d] else x.units)
 have HP : Hid (∀ W, Fresh w0 W -> Calls Tryz.prog 76 #[.pointer (some ⟨un, 0, none⟩), .agg #[.int .i64 13, .int .i64 0, .int .u32 0, .int .u32 0, .int .u32 0, .slice none 0 0, .bool false, .string d]] W fun e w' => e = .returned (.int .i64 er) ∧ ∃ b', RingPdu w' un b' x.c.units.toNat q2 ∧ Touch (Foot un rb) W w' ∧ ∀ k, b' = some k -> rb = some k ∨ W.heap.size <= k) := fun W hW => by
  rw [her, hq2]
  exact ringPdu_put un rb _ _ (En.umsg 13 d) W (hr.touch hW (fun e => e) (fun _ _ e => e))
 have HY : Hid (En.putU x (En.umsg 13 d) = ({ x with units := q2 }, [], er)) := by
  show _ = _
  unfold En.putU
  rw [her, hq2]
  by_cases hc : x.units.length < x.c.units.toNat
  ·rw [if_pos hc, if_pos hc, if_pos (by omega)]
  ·rw [if_neg hc, if_neg hc, if_neg (by omega)]
 have HROW : Hid (∀ w1 b', RingPdu w1 un b' x.c.units.toNat q2 -> Touch (Foot un rb) w0 w1 -> (∀ k, b' = some k -> rb = some k ∨ w0.heap.size <= k) -> EndTo k D (lab D0 w0.heap.size (k + 3)) w w1 n { x with units := q2 }) := fun w1 b' h1 h2 h3 => by
  have ho : ∀ z, z < w0.heap.size -> lab D0 w0.heap.size (k + 3) z = D0 z := fun z hz => lab_old hz
  have h4 := H0.out.rowed (us := q2) (D' := lab D0 w0.heap.size (k + 3)) ⟨b', h1, (ho _ hr.lt).trans hdu, fun g e => by
   rcases h3 g e with e | e
   ·exact (ho _ (hr.ltb g e)).trans (hdb g e)
   ·exact lab_new e⟩ h2 hF ho
  exact ⟨⟨_, _, _, _, _, _, _, _, _, h4⟩, HLAB.out.trans (lab_lab k D0 _ 3 (by omega)) HF0.out.size, (HF0.out.mono (fun _ _ e => e.elim)).trans h2 (fun z hz e => by have h5 := hF z e; rw [HLAB.out.1 z hz] at h5; unfold All; omega)⟩
 obtain ⟨a16, a1⟩ := KF.out w0 (Touch.refl _ _)
 have a0 : w0.cell? ⟨b0, 0, none⟩ = some (.int .i64 8) := hBX.cell 0
 have FD : Fresh w0 w0.drew := (Touch.refl _ _).drew
 clear h hBX H0 hr hdu hdb hF her hq2 HF0 HLAB hDb hD0
 generalize En.putU x (En.umsg 13 d) = Y at HY ⊢
 go_enter Tryz.func31, Tryz.ntmps31
 go_upto_region 1 with (fail)
 rw [<- hw0, <- hb0]
 clear hw0 hb0
 go_upto_region 12 with (fail)
 go_region_held3 (fun wx => wx.cell? ⟨n, 16, none⟩ = some (.pointer (some ⟨un, 0, none⟩)) ∧ wx.cell? ⟨b0, 1, none⟩ = some (.string d))
  ((with_reducible refine KF.out _ ?_; first | with_reducible assumption | exact FD.mono (fun _ _ e => e.elim)))
  (first
   |(go_simp; go_at_call 76; (with_reducible refine (HP.out _ FD).mono ?_); rintro e w1 ⟨rfl, b', hr1, t1, hb1⟩
     have FT : Touch (Foot un rb) w0 w1 := (FD.mono (fun _ _ e => e.elim)).trans t1 (fun _ _ e => e)))
 all_goals
  have HE := lh (HROW.out w1 b' hr1 FT (fun k e => (hb1 k e)))
  clear hr1 FT t1 hb1 KF HP HROW
  go_wp2
  go_ret2
  rw [HY.out]
  exact ⟨_, none, 0, rfl, HE.out, Sl.nil _ _, fun _ e => nomatch e⟩
theorem nask_manage (h : EndIn k D w n cn pc un sp rp A ca B cb x) (d : ByteArray) (m : Int) :
  Calls Tryz.prog 31 #[.pointer (some ⟨n, 0, none⟩), .agg #[.int .i64 9, .string d, .int .i64 m]] w (AskPost k D w n (En.putU x (En.umsg 14 d))) := by
 obtain ⟨w0, hw0⟩ := xq (w.alloc (.cells #[.int .i64 9, .string d, .int .i64 m] 53))
 obtain ⟨b0, hb0⟩ := xq w.heap.size
 obtain ⟨D0, hD0⟩ := xq (lab D w.heap.size (k + 8))
 have HF0 : Hid (Fresh w w0) := by rw [hw0]; exact (Touch.refl _ _).alloc _
 have HLAB : Hid (Lab k D D0 w.heap.size) := by rw [hD0]; exact lab_lab k D _ 8 (by omega)
 have hDb : D0 b0 = k + 8 := by rw [hD0, hb0]; exact lab_new (Nat.le_refl _)
 have hBX : Blk w0 b0 53 [.int .i64 9, .string d, .int .i64 m] := by rw [hw0, hb0]; exact Blk.new w _ _
 have H0 : Hid (EndIn k D0 w0 n cn pc un sp rp A ca B cb x) := h.old HF0.out (fun b hb => HLAB.out.1 b hb)
 obtain ⟨rb, hr, hdu, hdb⟩ := H0.out.u
 have hF : ∀ z, Foot un rb z -> D0 z = k + 3 := fun z e => by
  rcases e with rfl | e
  ·exact hdu
  ·exact hdb _ e
 have KF : Hid (∀ wx, Touch (Foot un rb) w0 wx -> wx.cell? ⟨n, 16, none⟩ = some (.pointer (some ⟨un, 0, none⟩)) ∧ wx.cell? ⟨b0, 1, none⟩ = some (.string d)) := fun wx hw =>
  have h1 := hw.blk H0.out.b.1 (fun e => by have := hF _ e; have := H0.out.b.2; omega)
  have h2 := hw.blk hBX (fun e => by have := hF _ e; omega)
  ⟨h1.cell 16, h2.cell 1⟩
 obtain ⟨er, her⟩ : ∃ er : Int, er = if x.units.length < x.c.units.toNat then 0 else 7 := ⟨_, rfl⟩
 obtain ⟨q2, hq2⟩ := xq (if x.units.length < x.c.units.toNat then x.units ++ [En.umsg 14 d] else x.units)
 have HP : Hid (∀ W, Fresh w0 W -> Calls Tryz.prog 76 #[.pointer (some ⟨un, 0, none⟩), .agg #[.int .i64 14, .int .i64 0, .int .u32 0, .int .u32 0, .int .u32 0, .slice none 0 0, .bool false, .string d]] W fun e w' => e = .returned (.int .i64 er) ∧ ∃ b', RingPdu w' un b' x.c.units.toNat q2 ∧ Touch (Foot un rb) W w' ∧ ∀ k, b' = some k -> rb = some k ∨ W.heap.size <= k) := fun W hW => by
  rw [her, hq2]
  exact ringPdu_put un rb _ _ (En.umsg 14 d) W (hr.touch hW (fun e => e) (fun _ _ e => e))
 have HY : Hid (En.putU x (En.umsg 14 d) = ({ x with units := q2 }, [], er)) := by
  show _ = _
  unfold En.putU
  rw [her, hq2]
  by_cases hc : x.units.length < x.c.units.toNat
  ·rw [if_pos hc, if_pos hc, if_pos (by omega)]
  ·rw [if_neg hc, if_neg hc, if_neg (by omega)]
 have HROW : Hid (∀ w1 b', RingPdu w1 un b' x.c.units.toNat q2 -> Touch (Foot un rb) w0 w1 -> (∀ k, b' = some k -> rb = some k ∨ w0.heap.size <= k) -> EndTo k D (lab D0 w0.heap.size (k + 3)) w w1 n { x with units := q2 }) := fun w1 b' h1 h2 h3 => by
  have ho : ∀ z, z < w0.heap.size -> lab D0 w0.heap.size (k + 3) z = D0 z := fun z hz => lab_old hz
  have h4 := H0.out.rowed (us := q2) (D' := lab D0 w0.heap.size (k + 3)) ⟨b', h1, (ho _ hr.lt).trans hdu, fun g e => by
   rcases h3 g e with e | e
   ·exact (ho _ (hr.ltb g e)).trans (hdb g e)
   ·exact lab_new e⟩ h2 hF ho
  exact ⟨⟨_, _, _, _, _, _, _, _, _, h4⟩, HLAB.out.trans (lab_lab k D0 _ 3 (by omega)) HF0.out.size, (HF0.out.mono (fun _ _ e => e.elim)).trans h2 (fun z hz e => by have h5 := hF z e; rw [HLAB.out.1 z hz] at h5; unfold All; omega)⟩
 obtain ⟨a16, a1⟩ := KF.out w0 (Touch.refl _ _)
 have a0 : w0.cell? ⟨b0, 0, none⟩ = some (.int .i64 9) := hBX.cell 0
 have FD : Fresh w0 w0.drew := (Touch.refl _ _).drew
 clear h hBX H0 hr hdu hdb hF her hq2 HF0 HLAB hDb hD0
 generalize En.putU x (En.umsg 14 d) = Y at HY ⊢
 go_enter Tryz.func31, Tryz.ntmps31
 go_upto_region 1 with (fail)
 rw [<- hw0, <- hb0]
 clear hw0 hb0
 go_upto_region 14 with (fail)
 go_region_held3 (fun wx => wx.cell? ⟨n, 16, none⟩ = some (.pointer (some ⟨un, 0, none⟩)) ∧ wx.cell? ⟨b0, 1, none⟩ = some (.string d))
  ((with_reducible refine KF.out _ ?_; first | with_reducible assumption | exact FD.mono (fun _ _ e => e.elim)))
  (first
   |(go_simp; go_at_call 76; (with_reducible refine (HP.out _ FD).mono ?_); rintro e w1 ⟨rfl, b', hr1, t1, hb1⟩
     have FT : Touch (Foot un rb) w0 w1 := (FD.mono (fun _ _ e => e.elim)).trans t1 (fun _ _ e => e)))
 all_goals
  have HE := lh (HROW.out w1 b' hr1 FT (fun k e => (hb1 k e)))
  clear hr1 FT t1 hb1 KF HP HROW
  go_wp2
  go_ret2
  rw [HY.out]
  exact ⟨_, none, 0, rfl, HE.out, Sl.nil _ _, fun _ e => nomatch e⟩
end
set_option maxRecDepth 20000

section
variable {k : Nat} {D : Nat -> Nat} {w : World} {n cn pc un : Nat} {sp rp : Option Nat} {A B : Option Addr} {ca cb : Nat} {x : En.X}
theorem nask_data (h : EndIn k D w n cn pc un sp rp A ca B cb x) {s : Sf.S} {r : Rf.S} (he : x.ep = some (s, r)) (d : ByteArray) (m : Int) :
  Calls Tryz.prog 31 #[.pointer (some ⟨n, 0, none⟩), .agg #[.int .i64 7, .string d, .int .i64 m]] w (AskPost k D w n (En.putS x d)) := by
 obtain ⟨w0, hw0⟩ := xq (w.alloc (.cells #[.int .i64 7, .string d, .int .i64 m] 53))
 obtain ⟨b0, hb0⟩ := xq w.heap.size
 obtain ⟨D0, hD0⟩ := xq (lab D w.heap.size (k + 8))
 have HF0 : Hid (Fresh w w0) := by rw [hw0]; exact (Touch.refl _ _).alloc _
 have HLAB : Hid (Lab k D D0 w.heap.size) := by rw [hD0]; exact lab_lab k D _ 8 (by omega)
 have hDb : D0 b0 = k + 8 := by rw [hD0, hb0]; exact lab_new (Nat.le_refl _)
 have hBX : Blk w0 b0 53 [.int .i64 7, .string d, .int .i64 m] := by rw [hw0, hb0]; exact Blk.new w _ _
 have H0 : Hid (EndIn k D0 w0 n cn pc un sp rp A ca B cb x) := h.old HF0.out (fun b hb => HLAB.out.1 b hb)
 obtain ⟨p, q, rfl, rfl, -, -⟩ := h.ep_some he
 obtain ⟨⟨Fs, hs, hFs⟩, -⟩ := PE.snd (by have := H0.out.e; rw [he] at this; exact this)
 have KF : Hid (∀ wx, Touch Fs w0 wx -> wx.cell? ⟨n, 13, none⟩ = some (.pointer (some ⟨p, 0, none⟩)) ∧ wx.cell? ⟨b0, 1, none⟩ = some (.string d)) := fun wx hw =>
  have h1 := hw.blk H0.out.b.1 (fun e => by have := (hFs _ e).1; have := H0.out.b.2; omega)
  have h2 := hw.blk hBX (fun e => by have := (hFs _ e).1; omega)
  ⟨h1.cell 13, h2.cell 1⟩
 obtain ⟨s2, hs2⟩ := xq (Sf.put s d)
 have HP : Hid (∀ W, Fresh w0 W -> Calls Tryz.prog 74 #[.pointer (some ⟨p, 0, none⟩), .string d] W fun e w' => e = .returned (.int .i64 (if s.wait.length < s.most then 0 else 7)) ∧ SendAt w' p (Grown Fs W) (Sf.prog s2) ∧ Touch Fs W w') := fun W hW => by
  have := sput_any p Fs (Sf.prog s) d W (hs.old hW)
  rw [Sf.prog_put, <- hs2] at this
  exact this
 have HROW : Hid (∀ w1 W, W.heap.size = w0.heap.size -> SendAt w1 p (Grown Fs W) (Sf.prog s2) -> Touch Fs w0 w1 -> EndIn k (lab D0 w0.heap.size (k + 5)) w1 n cn pc un (some p) (some q) A ca B cb { x with ep := some (s2, r) } ∧ Touch (All D0 k) w0 w1) := fun w1 W h3 h1 h2 =>
  ⟨H0.out.sent he rfl (PS.up (w := w0) hFs (h1.mono fun b hb => hb.imp id (fun e => by rw [<- h3]; exact e))) h2 (fun b hb => (hFs b hb).1) (fun b hb => lab_old hb), h2.mono fun b _ hb => by have := (hFs b hb).1; unfold All; omega⟩
 have HTO : Hid (∀ w1 X, EndIn k (lab D0 w0.heap.size (k + 5)) w1 n cn pc un (some p) (some q) A ca B cb X -> Touch (All D0 k) w0 w1 -> EndTo k D (lab D0 w0.heap.size (k + 5)) w w1 n X) := fun w1 X h1 h2 =>
  ⟨⟨_, _, _, _, _, _, _, _, _, h1⟩, HLAB.out.trans (lab_lab k D0 _ 5 (by omega)) HF0.out.size, (HF0.out.mono (fun _ _ e => e.elim)).then HLAB.out h2⟩
 obtain ⟨a13, a1⟩ := KF.out w0 (Touch.refl _ _)
 have a0 : w0.cell? ⟨b0, 0, none⟩ = some (.int .i64 7) := hBX.cell 0
 have FD : Fresh w0 w0.drew := (Touch.refl _ _).drew
 obtain ⟨Y, hY⟩ := xq (En.putS x d)
 rw [<- hY]
 by_cases hc : s.wait.length < s.most
 ·have HY : Hid (Y = ({ x with ep := some (s2, r), tm := Pc.busy x.tm x.c.poll x.c.silent }, [], 0)) := by
   show _ = _
   rw [hY]
   unfold En.putS
   rw [he]
   simp only [hc, if_true, hs2]
  rw [if_pos hc] at HP
  clear h hBX H0 hs hFs HF0 HLAB hDb hD0 hc hY hs2 he
  go_enter Tryz.func31, Tryz.ntmps31
  go_upto_region 1 with (fail)
  rw [<- hw0, <- hb0]
  clear hw0 hb0
  go_upto_region 7 with (fail)
  go_region_held3 (fun wx => wx.cell? ⟨n, 13, none⟩ = some (.pointer (some ⟨p, 0, none⟩)) ∧ wx.cell? ⟨b0, 1, none⟩ = some (.string d))
   ((with_reducible refine KF.out _ ?_; first | with_reducible assumption | exact FD.mono (fun _ _ e => e.elim)))
   (first
    |(go_simp; go_at_call 74; (with_reducible refine (HP.out _ FD).mono ?_); rintro e w1 ⟨rfl, hr1, t1⟩
      have FT : Touch Fs w0 w1 := (FD.mono (fun _ _ e => e.elim)).trans t1 (fun _ _ e => e)))
  all_goals
   obtain ⟨h1, t2⟩ := HROW.out w1 _ rfl hr1 FT
   have H1 := lh h1
   have T2 := lh t2
   have c12 : w1.cell? ⟨n, 12, none⟩ = some (.pointer (some ⟨pc, 0, none⟩)) := h1.b.1.cell 12
   have HB := lh (busy_any _ _ _ _ _ _ _ _ h1.p.1)
   clear hr1 FT t1 KF HP HROW h1 t2 a13 a1 a0 FD
   go_wp2_with (go_at_call 75; (with_reducible refine HB.out.mono ?_); rintro e w2 ⟨rfl, p3, t3⟩; have P3 := lh p3; have T3 := lh t3; clear p3 t3)
   go_ret2
   rw [HY.out]
   have h3 := H1.out.paced (D' := (lab D0 w0.heap.size (k + 5))) P3.out T3.out (fun b hb => by subst hb; exact H1.out.p.2) (fun _ _ => rfl)
   have t4 : Touch (All D0 k) w0 w2 := T2.out.trans T3.out (fun b hb e => by subst e; have h5 := H1.out.p.2; rw [lab_old hb] at h5; unfold All; omega)
   exact ⟨_, none, 0, rfl, HTO.out _ _ h3 t4, Sl.nil _ _, fun _ e => nomatch e⟩
 ·have HY : Hid (Y = (x, [], 7)) := by
   show _ = _
   rw [hY]
   unfold En.putS
   rw [he]
   simp only [hc, if_false]
  have HX : Hid ({ x with ep := some (s2, r) } = x) := by
   show _ = _
   rw [hs2]
   unfold Sf.put
   rw [if_neg hc, <- he]
  rw [if_neg hc] at HP
  clear h hBX H0 hs hFs HF0 HLAB hDb hD0 hc hY hs2 he
  go_enter Tryz.func31, Tryz.ntmps31
  go_upto_region 1 with (fail)
  rw [<- hw0, <- hb0]
  clear hw0 hb0
  go_upto_region 7 with (fail)
  go_region_held3 (fun wx => wx.cell? ⟨n, 13, none⟩ = some (.pointer (some ⟨p, 0, none⟩)) ∧ wx.cell? ⟨b0, 1, none⟩ = some (.string d))
   ((with_reducible refine KF.out _ ?_; first | with_reducible assumption | exact FD.mono (fun _ _ e => e.elim)))
   (first
    |(go_simp; go_at_call 74; (with_reducible refine (HP.out _ FD).mono ?_); rintro e w1 ⟨rfl, hr1, t1⟩
      have FT : Touch Fs w0 w1 := (FD.mono (fun _ _ e => e.elim)).trans t1 (fun _ _ e => e)))
  all_goals
   obtain ⟨h1, t2⟩ := HROW.out w1 _ rfl hr1 FT
   rw [HX.out] at h1
   have HE := lh (HTO.out _ _ h1 t2)
   clear hr1 FT t1 KF HP HROW h1 t2 HTO HX
   go_wp2
   go_ret2
   rw [HY.out]
   exact ⟨_, none, 0, rfl, HE.out, Sl.nil _ _, fun _ e => nomatch e⟩
end
set_option maxRecDepth 20000

theorem ConnPost.old {w w1 w2 : World} {c : Nat} {y : Cn.SR} {v : Value} (h : ConnPost w c y v w1) (ht : Fresh w1 w2) : ConnPost w c y v w2 := by
 obtain ⟨A1, c1, A2, c2, e, s1, s2, b1, b2⟩ := h.res
 exact ⟨ht.blk h.conn (fun e => e), h.ok, h.few, ⟨A1, c1, A2, c2, e, s1.touch ht (fun _ _ e => e), s2.touch ht (fun _ _ e => e), b1, b2⟩, h.touch.trans ht (fun _ _ e => e.elim)⟩
section
variable {k : Nat} {D : Nat -> Nat} {w : World} {n cn pc un : Nat} {sp rp : Option Nat} {A B : Option Addr} {ca cb : Nat} {x : En.X}
theorem nask_conn (h : EndIn k D w n cn pc un sp rp A ca B cb x) {hi hi2 : Int} (hf : En.Fit x hi hi2) (kd : Int) (d : ByteArray) (m : Int) (hd : d.size <= maxLen) (hk : kd ≠ 7 ∧ kd ≠ 8 ∧ kd ≠ 9 ∧ kd ≠ 10 ∧ kd ≠ 11) (he : Cn.askErr x.conn kd d = 0) :
  Calls Tryz.prog 31 #[.pointer (some ⟨n, 0, none⟩), .agg #[.int .i64 kd, .string d, .int .i64 m]] w (AskPost k D w n (En.askC x kd d)) := by
 obtain ⟨w0, hw0⟩ := xq (w.alloc (.cells #[.int .i64 kd, .string d, .int .i64 m] 53))
 obtain ⟨b0, hb0⟩ := xq w.heap.size
 obtain ⟨D0, hD0⟩ := xq (lab D w.heap.size (k + 8))
 have HF0 : Hid (Fresh w w0) := by rw [hw0]; exact (Touch.refl _ _).alloc _
 have HLAB : Hid (Lab k D D0 w.heap.size) := by rw [hD0]; exact lab_lab k D _ 8 (by omega)
 have hDb : D0 b0 = k + 8 := by rw [hD0, hb0]; exact lab_new (Nat.le_refl _)
 have hBX : Blk w0 b0 53 [.int .i64 kd, .string d, .int .i64 m] := by rw [hw0, hb0]; exact Blk.new w _ _
 have H0 : Hid (EndIn k D0 w0 n cn pc un sp rp A ca B cb x) := h.old HF0.out (fun b hb => HLAB.out.1 b hb)
 have hcn := H0.out.c.2.2
 have HCN : Hid (cn < w0.heap.size) := H0.out.c.1.lt
 have KF : Hid (∀ wx, Touch (fun b => b = cn ∨ w0.heap.size <= b) w0 wx -> wx.cell? ⟨n, 11, none⟩ = some (.pointer (some ⟨cn, 0, none⟩)) ∧ wx.cell? ⟨b0, 0, none⟩ = some (.int .i64 kd) ∧ wx.cell? ⟨b0, 1, none⟩ = some (.string d)) := fun wx hw =>
  have h1 := hw.blk H0.out.b.1 (fun e => by have := H0.out.b.2; have h9 := H0.out.b.1.lt; rcases e with e | e; (subst e; omega); omega)
  have h2 := hw.blk hBX (fun e => by have h9 := hBX.lt; rcases e with e | e; (subst e; omega); omega)
  ⟨h1.cell 11, h2.cell 0, h2.cell 1⟩
 obtain ⟨y, hy⟩ := xq (Cn.askS x.conn kd d)
 have hye : Cn.Ends x.conn y := by rw [hy]; exact Cn.ask_ends _ _ _
 have HP : Hid (∀ W, Fresh w0 W -> Calls Tryz.prog 78 #[.pointer (some ⟨cn, 0, none⟩), .int .i64 kd, .string d] W fun e w' => ∃ v, e = .returned (.tuple #[v, .int .i64 0]) ∧ ConnPost W cn y v w') := fun W hW => by
  have hc := H0.out.c
  refine (crequest_any (hW.blk hc.1 (fun e => e)) hc.2.1 kd d hd).mono ?_
  rintro e w' ⟨v, h1, h2⟩
  rw [he] at h1
  rw [<- hy] at h2
  exact ⟨v, h1, h2⟩
 have HBR : Hid (∀ v w1, ConnPost w0 cn y v w1 -> Calls Tryz.prog 51 #[.pointer (some ⟨n, 0, none⟩), v] w1 (EndSigs k D w n (En.brought x y))) := fun v w1 hc => (nbrought H0.out hc hf.ctl (hf.ends hye)).mono fun _ _ hz => hz.back HLAB.out (HF0.out.mono (fun _ _ e => e.elim))
 have HY : Hid (En.askC x kd d = ((En.brought x y).1, (En.brought x y).2, 0)) := by
  show _ = _
  unfold En.askC
  rw [if_pos he, hy]
 obtain ⟨a11, a0, a1⟩ := KF.out w0 (Touch.refl _ _)
 have FD : Fresh w0 w0.drew := (Touch.refl _ _).drew
 have FD2 : Touch (fun b => b = cn ∨ w0.heap.size <= b) w0 w0.drew := (Touch.refl _ _).drew
 have b7 : (kd == 7) = false := by simpa using hk.1
 have b8 : (kd == 8) = false := by simpa using hk.2.1
 have b9 : (kd == 9) = false := by simpa using hk.2.2.1
 have b10 : (kd == 10) = false := by simpa using hk.2.2.2.1
 have b11 : (kd == 11) = false := by simpa using hk.2.2.2.2
 generalize En.askC x kd d = Y at HY ⊢
 generalize En.brought x y = Z at HY HBR
 clear h hBX H0 HF0 HLAB hDb hD0 hcn hy hye hk he hf
 go_enter Tryz.func31, Tryz.ntmps31
 go_upto_region 1 with (fail)
 rw [<- hw0, <- hb0]
 clear hw0 hb0
 go_upto_region 2 with (fail)
 go_region_held3 (fun wx => wx.cell? ⟨n, 11, none⟩ = some (.pointer (some ⟨cn, 0, none⟩)) ∧ wx.cell? ⟨b0, 0, none⟩ = some (.int .i64 kd) ∧ wx.cell? ⟨b0, 1, none⟩ = some (.string d))
  ((with_reducible refine KF.out _ ?_; first | with_reducible assumption | exact ((Touch.refl _ w0).drew.alloc _) | exact ((Touch.refl _ w0).alloc _).drew | (refine Touch.alloc ?_ _; assumption) | (refine Touch.st (Touch.st (Touch.st (Touch.st (Touch.st (Touch.st ?_ (.inr (Nat.le_refl _))) (.inr (Nat.le_refl _))) (.inr (Nat.le_refl _))) (.inr (Nat.le_refl _))) (.inr (Nat.le_refl _))) (.inr (Nat.le_refl _)); assumption)))
  (first
   |(go_simp; go_at_call 78; (with_reducible refine (HP.out w0.drew FD).mono ?_); rintro e w1 ⟨v, rfl, hc⟩
     obtain ⟨A1, c1, A2, c2, hv, -⟩ := hc.res
     subst hv
     have FT : Touch (fun b => b = cn ∨ w0.heap.size <= b) w0 w1 := ((Touch.refl _ w0).drew).trans hc.touch (fun _ _ e => .inl e))
   |(go_simp; go_at_call 78; (refine (HP.out _ (((Touch.refl _ w0).alloc _).drew)).mono ?_); rintro e w1 ⟨v, rfl, hc⟩
     obtain ⟨A1, c1, A2, c2, hv, -⟩ := hc.res
     subst hv
     have FT : Touch (fun b => b = cn ∨ w0.heap.size <= b) w0 w1 := (((Touch.refl _ w0).alloc _).drew).trans hc.touch (fun _ _ e => .inl e)
     have BX := hc.touch.blk (Blk.new w0 129 [.slice none 0 0, .slice none 0 0, .bool false, .bool false, .int .u32 0, .int .i64 0]) (fun e => by have := HCN.out; omega)
     have y0 := BX.cell 0
     have y1 := BX.cell 1
     have y2 := BX.cell 2
     have y3 := BX.cell 3
     have y4 := BX.cell 4
     have y5 := BX.cell 5
     have z0 := BX.frozen 0
     have z1 := BX.frozen 1
     have z2 := BX.frozen 2
     have z3 := BX.frozen 3
     have z4 := BX.frozen 4
     have z5 := BX.frozen 5
     simp only [List.getElem?_cons_zero, List.getElem?_cons_succ] at y0 y1 y2 y3 y4 y5))
 ·have HC := lh (HBR.out _ _ ((hc.back FD HCN.out).old ((Touch.refl _ w1).alloc (.cells #[.slice A1 y.2.sigs.length c1, .slice A2 y.2.units.length c2, .bool y.2.begins, .bool y.2.ends, .int .u32 y.2.ms, .int .i64 y.2.timer] 129))))
  clear KF HP HBR FT FD FD2 a11 a0 a1 hc
  go_wp2_with (go_at_call 51; (with_reducible refine HC.out.mono ?_); rintro e w2 ⟨D2, A3, c3, rfl, g1, g2, g3⟩; have G1 := lh g1; have G2 := lh g2; have G3 := lh g3; clear g1 g2 g3)
  go_ret2
  rw [HY.out]
  exact ⟨D2, A3, c3, rfl, G1.out, G2.out, G3.out⟩
 ·have t6 : Touch (· = w0.heap.size) w1 ((((((w1.setCell ⟨w0.heap.size, 0, none⟩ (.slice A1 y.2.sigs.length c1)).setCell ⟨w0.heap.size, 1, none⟩ (.slice A2 y.2.units.length c2)).setCell ⟨w0.heap.size, 2, none⟩ (.bool y.2.begins)).setCell ⟨w0.heap.size, 3, none⟩ (.bool y.2.ends)).setCell ⟨w0.heap.size, 4, none⟩ (.int .u32 y.2.ms)).setCell ⟨w0.heap.size, 5, none⟩ (.int .i64 y.2.timer)) := (((((((Touch.refl (· = w0.heap.size) w1).st rfl).st rfl).st rfl).st rfl).st rfl).st rfl)
  have HC := lh (HBR.out _ _ (hc.stored (((Touch.refl _ w0).alloc _).drew) HCN.out (Nat.le_refl _) (by simp) t6))
  clear KF HP HBR FT FD FD2 a11 a0 a1 hc t6
  go_wp2_with (go_at_call 51; (with_reducible refine HC.out.mono ?_); rintro e w2 ⟨D2, A3, c3, rfl, g1, g2, g3⟩; have G1 := lh g1; have G2 := lh g2; have G3 := lh g3; clear g1 g2 g3)
  go_ret2
  rw [HY.out]
  exact ⟨D2, A3, c3, rfl, G1.out, G2.out, G3.out⟩
end
set_option maxRecDepth 20000

section
variable {k : Nat} {D : Nat -> Nat} {w : World} {n cn pc un : Nat} {sp rp : Option Nat} {A B : Option Addr} {ca cb : Nat} {x : En.X}
theorem nask_retr (h : EndIn k D w n cn pc un sp rp A ca B cb x) (hl : x.left.length <= 1000000) (d : ByteArray) (m : Int) :
  Calls Tryz.prog 31 #[.pointer (some ⟨n, 0, none⟩), .agg #[.int .i64 11, .string d, .int .i64 m]] w (AskPost k D w n ({ x with left := [] }, x.left.map (En.msg 11), 0)) := by
 obtain ⟨w0, hw0⟩ := xq (w.alloc (.cells #[.int .i64 11, .string d, .int .i64 m] 53))
 obtain ⟨b0, hb0⟩ := xq w.heap.size
 obtain ⟨D0, hD0⟩ := xq (lab D w.heap.size (k + 8))
 have HF0 : Hid (Fresh w w0) := by rw [hw0]; exact (Touch.refl _ _).alloc _
 have HLAB : Hid (Lab k D D0 w.heap.size) := by rw [hD0]; exact lab_lab k D _ 8 (by omega)
 have hBX : Blk w0 b0 53 [.int .i64 11, .string d, .int .i64 m] := by rw [hw0, hb0]; exact Blk.new w _ _
 have H0 : Hid (EndIn k D0 w0 n cn pc un sp rp A ca B cb x) := h.old HF0.out (fun b hb => HLAB.out.1 b hb)
 have a0 : w0.cell? ⟨b0, 0, none⟩ = some (.int .i64 11) := hBX.cell 0
 obtain ⟨L, hL⟩ := xq x.left
 have c21 : w0.cell? ⟨n, 21, none⟩ = some (.slice B L.length cb) := by rw [hL]; exact H0.out.b.1.cell 21
 have K21 : Hid (∀ wx, Fresh w0 wx -> wx.cell? ⟨n, 21, none⟩ = some (.slice B L.length cb) ∧ wx.frozen? ⟨n, 21, none⟩ = false) := fun wx hw => by
  have h1 := hw.blk H0.out.b.1 (fun e => e)
  exact ⟨by rw [hL]; exact h1.cell 21, h1.frozen 21⟩
 have S1 : Hid (Sl strE w0 B cb L) := by rw [hL]; exact H0.out.f.1
 have hll : L.length <= 1000000 := by rw [hL]; exact hl
 rw [<- hL]
 have HN : Hid (n < w0.heap.size) := H0.out.b.1.lt
 have HEND : Hid (∀ wr Al cl, Mine sigE w0 wr Al cl (L.map (En.msg 11)) -> AskPost k D w n ({ x with left := [] }, L.map (En.msg 11), 0) (.returned (.tuple #[.slice Al L.length cl, .int .i64 0])) (wr.setCell ⟨n, 21, none⟩ (.slice none 0 0))) := fun wr Al cl hm => by
  have ho : ∀ b, b < w0.heap.size -> lab D0 w0.heap.size (k + 8) b = D0 b := fun b hb => lab_old hb
  have h1 := H0.out.old hm.fresh ho
  have h2 := h1.put (x' := { x with left := [] }) 21 (.slice none 0 0) rfl rfl ⟨rfl, rfl⟩ rfl h1.l ⟨Sl.nil _ _, fun _ e => nomatch e⟩ h1.e
  refine ⟨lab D0 w0.heap.size (k + 8), Al, cl, by rw [List.length_map], ⟨⟨_, _, _, _, _, _, _, _, _, h2⟩, HLAB.out.trans (lab_lab k D0 _ 8 (by omega)) HF0.out.size, (HF0.out.mono (fun _ _ e => e.elim)).then HLAB.out ((hm.fresh.mono (fun _ _ e => e.elim)).st H0.out.own)⟩, hm.sl.setCell (fun ad e => ?_) _, fun ad e => ⟨Nat.le_trans HF0.out.size (hm.base ad e), lab_new (hm.base ad e)⟩⟩
  have := hm.base ad e
  have := HN.out
  show ad.block ≠ n
  omega
 clear h hBX hD0 hL hl HF0 HLAB H0
 go_enter Tryz.func31, Tryz.ntmps31
 go_upto_region 1 with (fail)
 rw [<- hw0, <- hb0]
 clear hw0 hb0
 go_wp2_with fail
 clear a0 c21
 go_loopw [7, 87] (fun v7 v87 wr => ∃ (j : Nat) (Al : Option Addr) (cl : Nat), j <= L.length ∧ v87 = .int .i64 j ∧ v7 = .slice Al j cl ∧ Hid (Mine sigE w0 wr Al cl ((L.take j).map (En.msg 11)))) (fun _ v87 _ => L.length - (intOf v87).toNat)
 case atStart => exact ⟨0, none, 0, Nat.zero_le _, rfl, rfl, Mine.nil _ _⟩
 case round =>
  obtain ⟨j, Al, cl, hj, rfl, rfl, HM⟩ := hrel
  by_cases hlt : j < L.length
  ·have hk1 : (j : Int) < (L.length : Int) := by omega
   have hk0 : (0 : Int) <= (j : Int) := by omega
   have HTS : Hid ((L.take (j + 1)).map (En.msg 11) = (L.take j).map (En.msg 11) ++ [En.msg 11 L[j]]) := map_take_succ (En.msg 11) L j hlt
   obtain ⟨g, o, rfl, _, c0⟩ := (HM.out.keeps S1.out).str_at j hlt
   have HGE : Hid (L.getD j ByteArray.empty = L[j]) := by show _ = _; simp [List.getD, List.getElem?_eq_getElem hlt]
   rw [HGE.out] at c0
   obtain ⟨m, hm⟩ := xq (L[j])
   rw [<- hm] at c0 HTS
   clear hm HGE
   have hlen : ((L.take j).map (En.msg 11)).length = j := by simp; omega
   obtain ⟨Q, hQ⟩ := xq ((L.take j).map (En.msg 11))
   rw [<- hQ] at HM HTS hlen
   clear hQ
   subst hlen
   go_wp2_with (at_builtin; refine app_sig rfl rfl (l := Q) (l2 := [En.msg 11 m]) rfl rfl (HM.out.sl.alloc _) (Sl.rd (Sl.lit sigE wr _ rfl _ [En.msg 11 m] rfl _ rfl (by decide))) (by simp; omega) ?_; intro A4 c4 L4 w4 hL4 s4 t4 a4; have S4 := lh s4; have T4 := lh t4; have P4 := lh a4; clear s4 t4 a4)
   have HM4 : Hid (Mine sigE w0 w4 A4 c4 ((L.take (Q.length + 1)).map (En.msg 11))) := by
    have h0 := (HM.out.alloc _).app S4.out T4.out P4.out
    rw [HTS.out, <- hL4.out]
    exact h0
   have HL4 : Hid (L4.length = Q.length + 1) := by rw [hL4.out]; show _ = _; simp
   go_roundw
   case rel => exact ⟨Q.length + 1, A4, c4, by omega, by go_num, by rw [HL4.out], HM4⟩
   case measure => simp [intOf]; omega
  ·obtain rfl : j = L.length := by omega
   have hm := HM.out
   rw [List.take_length] at hm
   have HEE := lh (HEND.out _ _ _ hm)
   obtain ⟨e21, f21⟩ := K21.out _ hm.fresh
   clear hm HM HEND K21
   go_wp2
   go_ret2
   exact HEE.out
end
set_option maxRecDepth 20000
section
variable {k : Nat} {D D' : Nat -> Nat} {w w1 w' : World} {n cn pc un : Nat} {sp rp : Option Nat} {A B : Option Addr} {ca cb : Nat} {x : En.X}
theorem AskPost.back {w0 : World} {D0 : Nat -> Nat} {y : En.X × List Cn.Sig × Int} {e : Ending} (h : AskPost k D w n y e w') (hl : Lab k D0 D w0.heap.size) (ht : Touch (All D0 k) w0 w) : AskPost k D0 w0 n y e w' := by
 obtain ⟨D', A, c, h1, h2, h3, h4⟩ := h
 exact ⟨D', A, c, h1, ⟨h2.at_, hl.trans h2.lab ht.size, ht.then hl h2.touch⟩, h3, fun ad e => ⟨Nat.le_trans ht.size (h4 ad e).1, (h4 ad e).2⟩⟩
theorem En.ask_sg (hl : x.left.length <= 1000000) (kd : Int) (d : ByteArray) (m : Int) : (En.ask x kd d m).2.1.length <= 1000000 := by
 unfold En.ask
 repeat' split
 ·unfold En.putS
  split
  ·simp
  ·split <;> simp
 ·unfold En.putU; split <;> simp
 ·unfold En.putU; split <;> simp
 ·simp
 ·simpa using hl
 ·unfold En.askC
  split
  ·exact Nat.le_trans (En.brought_sg x (Cn.ask_ends _ _ _)) (by decide)
  ·simp
theorem nrequest_of (h : EndIn k D w n cn pc un sp rp A ca B cb x) {hi hi2 : Int} (hf : En.Fit x hi hi2) (hl : x.left.length <= 1000000) (kd : Int) (d : ByteArray) (m : Int) (HP : ∀ D W, EndIn k D W n cn pc un sp rp A ca B cb x -> Ru.may x.conn.state kd = true -> Calls Tryz.prog 31 #[.pointer (some ⟨n, 0, none⟩), .agg #[.int .i64 kd, .string d, .int .i64 m]] W (AskPost k D W n (En.ask x kd d m))) :
  Calls Tryz.prog 12 #[.pointer (some ⟨n, 0, none⟩), .agg #[.int .i64 kd, .string d, .int .i64 m]] w (AskPost k D w n (En.request x kd d m)) := by
 obtain ⟨w0, hw0⟩ := xq (w.alloc (.cells #[.int .i64 kd, .string d, .int .i64 m] 53))
 obtain ⟨b0, hb0⟩ := xq w.heap.size
 obtain ⟨D0, hD0⟩ := xq (lab D w.heap.size (k + 8))
 have HF0 : Hid (Fresh w w0) := by rw [hw0]; exact (Touch.refl _ _).alloc _
 have HLAB : Hid (Lab k D D0 w.heap.size) := by rw [hD0]; exact lab_lab k D _ 8 (by omega)
 have hBX : Blk w0 b0 53 [.int .i64 kd, .string d, .int .i64 m] := by rw [hw0, hb0]; exact Blk.new w _ _
 have H0 : Hid (EndIn k D0 w0 n cn pc un sp rp A ca B cb x) := h.old HF0.out (fun b hb => HLAB.out.1 b hb)
 have KF : Hid (∀ wx, Fresh w0 wx -> wx.cell? ⟨n, 11, none⟩ = some (.pointer (some ⟨cn, 0, none⟩)) ∧ wx.cell? ⟨b0, 0, none⟩ = some (.int .i64 kd) ∧ wx.cell? ⟨b0, 1, none⟩ = some (.string d) ∧ wx.cell? ⟨b0, 2, none⟩ = some (.int .i64 m)) := fun wx hw =>
  have h1 := hw.blk H0.out.b.1 (fun e => e)
  have h2 := hw.blk hBX (fun e => e)
  ⟨h1.cell 11, h2.cell 0, h2.cell 1, h2.cell 2⟩
 obtain ⟨V, hV⟩ : ∃ V : Value, V = .agg #[.int .i64 x.conn.state, .int .i64 x.conn.sq, .int .i64 x.conn.peer, .int .i64 x.conn.cc, .int .u32 x.conn.ms] := ⟨_, rfl⟩
 have hfd : ∀ W, (Instr.field 65 V 0).run Tryz.prog W = .ok (.int .i64 x.conn.state) W := fun W => by rw [hV]; exact field_state _ _ _ _ _ W
 have HV : Hid (∀ W, Fresh w0 W -> Calls Tryz.prog 30 #[.pointer (some ⟨cn, 0, none⟩)] W fun e w' => e = .returned V ∧ Fresh W w') := fun W hW => by
  rw [hV]; exact vars_any (hW.blk H0.out.c.1 (fun e => e))
 clear hV
 have HE0 : Hid (∀ W er, Fresh w0 W -> AskPost k D w n (x, [], er) (.returned (.tuple #[.slice none 0 0, .int .i64 er])) W) := fun W er hW =>
  ⟨D0, none, 0, rfl, ⟨⟨_, _, _, _, _, _, _, _, _, H0.out.old hW (fun _ _ => rfl)⟩, HLAB.out, (HF0.out.mono (fun _ _ e => e.elim)).trans hW (fun _ _ e => e.elim)⟩, Sl.nil _ _, fun _ e => nomatch e⟩
 have HAK : Hid (∀ W, Fresh w0 W -> Ru.may x.conn.state kd = true -> Calls Tryz.prog 31 #[.pointer (some ⟨n, 0, none⟩), .agg #[.int .i64 kd, .string d, .int .i64 m]] W (AskPost k D w n (En.ask x kd d m))) := fun W hW hm =>
  (HP D0 W (H0.out.old hW (fun _ _ => rfl)) hm).mono fun _ _ hz => hz.back HLAB.out ((HF0.out.mono (fun _ _ e => e.elim)).trans hW (fun _ _ e => e.elim))
 have hak := En.ask_ok hf kd d m
 have hsg := En.ask_sg (x := x) hl kd d m
 have HRQ : Hid (En.request x kd d m = if Ev.err kd d m = 0 then (if Ru.may x.conn.state kd then (if (En.ask x kd d m).2.2 = 0 then ((En.credit (En.ask x kd d m).1 (En.ask x kd d m).2.1).1, (En.credit (En.ask x kd d m).1 (En.ask x kd d m).2.1).2, 0) else ((En.ask x kd d m).1, [], (En.ask x kd d m).2.2)) else (x, [], 8)) else (x, [], Ev.err kd d m)) := rfl
 generalize En.ask x kd d m = Y at HAK hak hsg HRQ
 have HCR : Hid (∀ D' A c w1, EndTo k D D' w w1 n Y.1 -> Sl sigE w1 A c Y.2.1 -> (∀ ad, A = some ad -> w.heap.size <= ad.block ∧ D' ad.block = k + 8) -> Calls Tryz.prog 32 #[.pointer (some ⟨n, 0, none⟩), .slice A Y.2.1.length c] w1 (EndSigs k D w n (En.credit Y.1 Y.2.1))) := fun D' A c w1 h1 h2 h3 => ncredit_to (y := (Y.1, Y.2.1)) h1 h2 h3 hak hsg
 generalize En.request x kd d m = R at HRQ ⊢
 obtain ⟨er, her⟩ := qx (Ev.err kd d m)
 obtain ⟨my, hmy⟩ := qx (Ru.may x.conn.state kd)
 have HCK : Hid (Calls Tryz.prog 28 #[.agg #[.int .i64 kd, .string d, .int .i64 m]] w0 fun e w' => e = .returned (.int .i64 er) ∧ Fresh w0 w') := by
  have := evcheck_any kd d m w0
  rw [her] at this
  exact this
 have HMY : Hid (∀ W, Calls Tryz.prog 29 #[.int .i64 x.conn.state, .int .i64 kd] W fun e w' => e = .returned (.bool my) ∧ Fresh W w') := fun W => by
  have := may_any x.conn.state kd W
  rw [hmy] at this
  exact this
 rw [her, hmy] at HRQ
 rw [hmy] at HAK
 obtain ⟨a11, a0, a1, a2⟩ := KF.out w0 (Touch.refl _ _)
 clear h hBX H0 HF0 HLAB hD0 hf hl hak hsg her hmy HP
 go_enter Tryz.func12, Tryz.ntmps12
 go_upto_region 1 with (fail)
 rw [<- hw0, <- hb0]
 clear hw0 hb0
 go_upto_region 2 with (go_at_call 28; (with_reducible refine HCK.out.mono ?_); rintro e w1 ⟨rfl, F1⟩)
 have HF1 := lh F1
 clear a11 a0 a1 a2 F1 HCK
 by_cases he : er = 0
 ·subst he
  have HRQ2 : Hid (R = if my then (if Y.2.2 = 0 then ((En.credit Y.1 Y.2.1).1, (En.credit Y.1 Y.2.1).2, 0) else (Y.1, [], Y.2.2)) else (x, [], 8)) := HRQ.out.trans (if_pos rfl)
  clear HRQ
  obtain ⟨a11, a0, a1, a2⟩ := KF.out w1 HF1.out
  have FD : Fresh w0 w1.drew := HF1.out.drew
  go_upto_region 4 with (fail)
  go_region_held3 (fun wx => wx.cell? ⟨n, 11, none⟩ = some (.pointer (some ⟨cn, 0, none⟩)) ∧ wx.cell? ⟨b0, 0, none⟩ = some (.int .i64 kd))
   ((with_reducible refine ⟨(KF.out _ ?_).1, (KF.out _ ?_).2.1⟩) <;> first | with_reducible assumption)
   (first
    |(go_simp; go_at_call 30; (with_reducible refine (HV.out _ FD).mono ?_); rintro e w2 ⟨rfl, f2⟩
      have F2 : Fresh w0 w2 := FD.trans f2 (fun _ _ e => e))
    |(go_simp; go_at_call 29; (with_reducible refine (HMY.out _).mono ?_); rintro e w3 ⟨rfl, f3⟩
      have F3 : Fresh w0 w3 := F2.trans f3 (fun _ _ e => e)))
  all_goals
   have HF3 := lh F3
   clear F3 F2 f2 f3 FD HF1 a11 a0 a1 a2
   obtain ⟨a11, a0, a1, a2⟩ := KF.out w3 HF3.out
   cases my with
   |false =>
    have hR : R = (x, [], 8) := HRQ2.out.trans (if_neg (by decide))
    subst hR
    have HZ := lh (HE0.out w3 8 HF3.out)
    clear HRQ2 HCR HAK HE0 HV HMY KF HF3
    go_wp2
    go_ret2
    exact HZ.out
   |true =>
    have HRQ3 : Hid (R = if Y.2.2 = 0 then ((En.credit Y.1 Y.2.1).1, (En.credit Y.1 Y.2.1).2, 0) else (Y.1, [], Y.2.2)) := HRQ2.out.trans (if_pos rfl)
    have HA := lh (HAK.out w3 HF3.out rfl)
    obtain ⟨Y1, L, e2⟩ := Y
    have HRQ4 : Hid (R = if e2 = 0 then ((En.credit Y1 L).1, (En.credit Y1 L).2, 0) else (Y1, [], e2)) := HRQ3.out
    have HC2 : Hid (∀ D' A c w1, EndTo k D D' w w1 n Y1 -> Sl sigE w1 A c L -> (∀ ad, A = some ad -> w.heap.size <= ad.block ∧ D' ad.block = k + 8) -> Calls Tryz.prog 32 #[.pointer (some ⟨n, 0, none⟩), .slice A L.length c] w1 (EndSigs k D w n (En.credit Y1 L))) := HCR.out
    clear HRQ3 HRQ2 HCR HAK HE0 HV HMY KF HF3 hfd
    generalize En.credit Y1 L = Q at HRQ4 HC2
    by_cases h2 : e2 = 0
    ·subst h2
     have hR : R = (Q.1, Q.2, 0) := HRQ4.out.trans (if_pos rfl)
     subst hR
     clear HRQ4
     go_wp2_with (first
      |(go_at_call 31; (with_reducible refine HA.out.mono ?_); rintro e w4 ⟨D4, A4, c4, rfl, g1, g2, g3⟩; have HD := lh (HC2.out D4 A4 c4 w4 g1 g2 g3); clear g1 g2 g3)
      |(go_at_call 32; (with_reducible refine HD.out.mono ?_); rintro e w5 ⟨D5, A5, c5, rfl, g1, g2, g3⟩; have G1 := lh g1; have G2 := lh g2; have G3 := lh g3; clear g1 g2 g3))
     go_ret2
     exact ⟨D5, A5, c5, rfl, G1.out, G2.out, G3.out⟩
    ·have be : (e2 != 0) = true := by simpa using h2
     have hR : R = (Y1, [], e2) := HRQ4.out.trans (if_neg h2)
     subst hR
     clear HRQ4 h2 HC2
     go_wp2_with (first
      |(go_at_call 31; (with_reducible refine HA.out.mono ?_); rintro e w4 ⟨D4, A4, c4, rfl, g1, g2, g3⟩; have G1 := lh g1; clear g1 g2 g3))
     go_ret2
     exact ⟨D4, none, 0, rfl, G1.out, Sl.nil _ _, fun _ e => nomatch e⟩
 ·have be : (er != 0) = true := by simpa using he
  have hR : R = (x, [], er) := by rw [HRQ.out, if_neg he]
  subst hR
  have HZ := lh (HE0.out w1 er HF1.out)
  clear he HRQ HCR HAK HE0 HV HMY KF HF1
  go_wp2
  go_ret2
  exact HZ.out
theorem nrequest_conn (h : EndIn k D w n cn pc un sp rp A ca B cb x) {hi hi2 : Int} (hf : En.Fit x hi hi2) (hl : x.left.length <= 1000000) (kd : Int) (d : ByteArray) (m : Int) (hd : d.size <= maxLen) (hk : kd < 7) (he : Cn.askErr x.conn kd d = 0) :
  Calls Tryz.prog 12 #[.pointer (some ⟨n, 0, none⟩), .agg #[.int .i64 kd, .string d, .int .i64 m]] w (AskPost k D w n (En.request x kd d m)) :=
 nrequest_of h hf hl kd d m fun _ _ h0 _ => by
  have e : En.ask x kd d m = En.askC x kd d := by
   unfold En.ask
   rw [if_neg (by omega), if_neg (by omega), if_neg (by omega), if_neg (by omega), if_neg (by omega)]
  rw [e]
  exact nask_conn h0 hf kd d m hd ⟨by omega, by omega, by omega, by omega, by omega⟩ he
end
end Go.Proofs.YtipaobpmojahaaaGreat

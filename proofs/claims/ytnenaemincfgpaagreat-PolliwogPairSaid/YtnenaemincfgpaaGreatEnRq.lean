/-
  node.Node: ask. Conditions: the end may be; Data is asked only where an epoch is · node.Node: Request. Conditions: the end may be.
-/
import Derived.Test.YtnenaemincfgpaaGreatEnY
import Derived.Test.YtnenaemincfgpaaGreatPrA
import Derived.Test.YtnenaemincfgpaaGreatEnS
import Derived.Test.YtnenaemincfgpaaGreatEnQ
set_option maxHeartbeats 2000000
namespace Go.Proofs.YtnenaemincfgpaaGreat
open Go.RowKit
section
variable {k : Nat} {D : Nat -> Nat} {w : World} {n cn pc un : Nat} {sp rp : Option Nat} {A B : Option Addr} {ca cb : Nat} {x : En.X}
theorem nask_any (h : EndIn k D w n cn pc un sp rp A ca B cb x) {hi hi2 : Int} (hf : En.Fit x hi hi2) (hl : x.left.length <= 1000000) (kd : Int) (d : ByteArray) (m : Int) (hd : d.size <= maxLen) (hs : kd = 7 -> x.ep.isSome = true) :
  Calls Tryz.prog 35 #[.pointer (some ⟨n, 0, none⟩), .agg #[.int .i64 kd, .string d, .int .i64 m]] w (AskPost k D w n (En.ask x kd d m)) := by
 unfold En.ask
 by_cases h7 : kd = 7
 ·rw [if_pos h7]
  obtain ⟨e, he⟩ := Option.isSome_iff_exists.1 (hs h7)
  subst h7
  exact nask_data h (s := e.1) (r := e.2) he d m
 rw [if_neg h7]
 by_cases h8 : kd = 8
 ·rw [if_pos h8]; subst h8; exact nask_unit h d m
 rw [if_neg h8]
 by_cases h9 : kd = 9
 ·rw [if_pos h9]; subst h9; exact nask_manage h d m
 rw [if_neg h9]
 by_cases h10 : kd = 10
 ·rw [if_pos h10]; subst h10; exact nask_take h (fun e he => (hf.ep e he).2) d m
 rw [if_neg h10]
 by_cases h11 : kd = 11
 ·rw [if_pos h11]; subst h11; exact nask_retr h hl d m
 rw [if_neg h11]
 by_cases he : Cn.askErr x.conn kd d = 0
 ·exact nask_conn h hf kd d m hd ⟨h7, h8, h9, h10, h11⟩ he
 ·exact nask_conn_no h hf kd d m hd ⟨h7, h8, h9, h10, h11⟩ rfl he
end
set_option maxRecDepth 20000
section
variable {k : Nat} {D D' : Nat -> Nat} {w w1 w' : World} {n cn pc un : Nat} {sp rp : Option Nat} {A B : Option Addr} {ca cb : Nat} {x : En.X}
theorem AskPost.back {w0 : World} {D0 : Nat -> Nat} {y : En.X × List Cn.Sig × Int} {e : Ending} (h : AskPost k D w n y e w') (hl : Lab k D0 D w0.heap.size) (ht : Touch (All D0 k) w0 w) : AskPost k D0 w0 n y e w' := by
 obtain ⟨D', A, c, h1, h2, h3, h4⟩ := h
 exact ⟨D', A, c, h1, ⟨h2.at_, hl.trans h2.lab ht.size, ht.then hl h2.touch⟩, h3, fun ad e => ⟨Nat.le_trans ht.size (h4 ad e).1, (h4 ad e).2⟩⟩
theorem En.Fit.ready {hi hi2 : Int} (hf : En.Fit x hi hi2) (hm : Ru.may x.conn.state 7 = true) : x.ep.isSome = true := by
 rw [hf.st]
 have h1 : ∀ p ∈ Ru.req.map (·.1), p.2 = 7 -> p.1 = 10 := by
  have : (Ru.req.map (·.1)).all (fun p => p.2 != 7 || p.1 == 10) = true := by kernel_rfl
  intro p hp h7
  have h2 := List.all_eq_true.1 this p hp
  simpa [h7] using h2
 have h3 : (x.conn.state, (7 : Int)) ∈ Ru.req.map (·.1) := by
  apply Classical.byContradiction
  intro hn
  unfold Ru.may at hm
  rw [mget_none.2 hn] at hm
  exact absurd hm (by decide)
 have := h1 _ h3 rfl
 simpa using this
theorem En.ask_sg (hl : x.left.length <= 1000000) (kd : Int) (d : ByteArray) (m : Int) : (En.ask x kd d m).2.1.length <= 1000000 := by
 unfold En.ask
 repeat' split
 ·unfold En.putS
  split
  ·simp
  ·split <;> simp
 ·unfold En.putU; split <;> simp
 ·unfold En.putU; split <;> simp
 ·simp
 ·simpa using hl
 ·unfold En.askC
  split
  ·exact Nat.le_trans (En.brought_sg x (Cn.ask_ends _ _ _)) (by decide)
  ·simp
theorem nrequest_any (h : EndIn k D w n cn pc un sp rp A ca B cb x) {hi hi2 : Int} (hf : En.Fit x hi hi2) (hl : x.left.length <= 1000000) (kd : Int) (d : ByteArray) (m : Int) (hd : d.size <= maxLen) :
  Calls Tryz.prog 9 #[.pointer (some ⟨n, 0, none⟩), .agg #[.int .i64 kd, .string d, .int .i64 m]] w (AskPost k D w n (En.request x kd d m)) := by
 obtain ⟨w0, hw0⟩ := xq (w.alloc (.cells #[.int .i64 kd, .string d, .int .i64 m] 45))
 obtain ⟨b0, hb0⟩ := xq w.heap.size
 obtain ⟨D0, hD0⟩ := xq (lab D w.heap.size (k + 8))
 have HF0 : Hid (Fresh w w0) := by rw [hw0]; exact (Touch.refl _ _).alloc _
 have HLAB : Hid (Lab k D D0 w.heap.size) := by rw [hD0]; exact lab_lab k D _ 8 (by omega)
 have hBX : Blk w0 b0 45 [.int .i64 kd, .string d, .int .i64 m] := by rw [hw0, hb0]; exact Blk.new w _ _
 have H0 : Hid (EndIn k D0 w0 n cn pc un sp rp A ca B cb x) := h.old HF0.out (fun b hb => HLAB.out.1 b hb)
 have KF : Hid (∀ wx, Fresh w0 wx -> wx.cell? ⟨n, 11, none⟩ = some (.pointer (some ⟨cn, 0, none⟩)) ∧ wx.cell? ⟨b0, 0, none⟩ = some (.int .i64 kd) ∧ wx.cell? ⟨b0, 1, none⟩ = some (.string d) ∧ wx.cell? ⟨b0, 2, none⟩ = some (.int .i64 m)) := fun wx hw =>
  have h1 := hw.blk H0.out.b.1 (fun e => e)
  have h2 := hw.blk hBX (fun e => e)
  ⟨h1.cell 11, h2.cell 0, h2.cell 1, h2.cell 2⟩
 obtain ⟨V, hV⟩ : ∃ V : Value, V = .agg #[.int .i64 x.conn.state, .int .i64 x.conn.sq, .int .i64 x.conn.peer, .int .i64 x.conn.cc, .int .u32 x.conn.ms] := ⟨_, rfl⟩
 have hfd : ∀ W, (Instr.field 47 V 0).run Tryz.prog W = .ok (.int .i64 x.conn.state) W := fun W => by rw [hV]; exact field_state _ _ _ _ _ W
 have HV : Hid (∀ W, Fresh w0 W -> Calls Tryz.prog 34 #[.pointer (some ⟨cn, 0, none⟩)] W fun e w' => e = .returned V ∧ Fresh W w') := fun W hW => by
  rw [hV]; exact vars_any (hW.blk H0.out.c.1 (fun e => e))
 clear hV
 have HE0 : Hid (∀ W er, Fresh w0 W -> AskPost k D w n (x, [], er) (.returned (.tuple #[.slice none 0 0, .int .i64 er])) W) := fun W er hW =>
  ⟨D0, none, 0, rfl, ⟨⟨_, _, _, _, _, _, _, _, _, H0.out.old hW (fun _ _ => rfl)⟩, HLAB.out, (HF0.out.mono (fun _ _ e => e.elim)).trans hW (fun _ _ e => e.elim)⟩, Sl.nil _ _, fun _ e => nomatch e⟩
 have HAK : Hid (∀ W, Fresh w0 W -> Ru.may x.conn.state kd = true -> Calls Tryz.prog 35 #[.pointer (some ⟨n, 0, none⟩), .agg #[.int .i64 kd, .string d, .int .i64 m]] W (AskPost k D w n (En.ask x kd d m))) := fun W hW hm =>
  (nask_any (H0.out.old hW (fun _ _ => rfl)) hf hl kd d m hd (fun e => hf.ready (by rw [<- e]; exact hm))).mono fun _ _ hz => hz.back HLAB.out ((HF0.out.mono (fun _ _ e => e.elim)).trans hW (fun _ _ e => e.elim))
 have hak := En.ask_ok hf kd d m
 have hsg := En.ask_sg (x := x) hl kd d m
 have HRQ : Hid (En.request x kd d m = if Ev.err kd d m = 0 then (if Ru.may x.conn.state kd then (if (En.ask x kd d m).2.2 = 0 then ((En.credit (En.ask x kd d m).1 (En.ask x kd d m).2.1).1, (En.credit (En.ask x kd d m).1 (En.ask x kd d m).2.1).2, 0) else ((En.ask x kd d m).1, [], (En.ask x kd d m).2.2)) else (x, [], 8)) else (x, [], Ev.err kd d m)) := rfl
 generalize En.ask x kd d m = Y at HAK hak hsg HRQ
 have HCR : Hid (∀ D' A c w1, EndTo k D D' w w1 n Y.1 -> Sl sigE w1 A c Y.2.1 -> (∀ ad, A = some ad -> w.heap.size <= ad.block ∧ D' ad.block = k + 8) -> Calls Tryz.prog 30 #[.pointer (some ⟨n, 0, none⟩), .slice A Y.2.1.length c] w1 (EndSigs k D w n (En.credit Y.1 Y.2.1))) := fun D' A c w1 h1 h2 h3 => ncredit_to (y := (Y.1, Y.2.1)) h1 h2 h3 hak hsg
 generalize En.request x kd d m = R at HRQ ⊢
 obtain ⟨er, her⟩ := qx (Ev.err kd d m)
 obtain ⟨my, hmy⟩ := qx (Ru.may x.conn.state kd)
 have HCK : Hid (Calls Tryz.prog 32 #[.agg #[.int .i64 kd, .string d, .int .i64 m]] w0 fun e w' => e = .returned (.int .i64 er) ∧ Fresh w0 w') := by
  have := evcheck_any kd d m w0
  rw [her] at this
  exact this
 have HMY : Hid (∀ W, Calls Tryz.prog 33 #[.int .i64 x.conn.state, .int .i64 kd] W fun e w' => e = .returned (.bool my) ∧ Fresh W w') := fun W => by
  have := may_any x.conn.state kd W
  rw [hmy] at this
  exact this
 rw [her, hmy] at HRQ
 rw [hmy] at HAK
 obtain ⟨a11, a0, a1, a2⟩ := KF.out w0 (Touch.refl _ _)
 clear h hBX H0 HF0 HLAB hD0 hf hl hak hsg her hmy hd
 go_enter Tryz.func9, Tryz.ntmps9
 go_upto_region 1 with (fail)
 rw [<- hw0, <- hb0]
 clear hw0 hb0
 go_upto_region 2 with (go_at_call 32; (with_reducible refine HCK.out.mono ?_); rintro e w1 ⟨rfl, F1⟩)
 have HF1 := lh F1
 clear a11 a0 a1 a2 F1 HCK
 by_cases he : er = 0
 ·subst he
  have HRQ2 : Hid (R = if my then (if Y.2.2 = 0 then ((En.credit Y.1 Y.2.1).1, (En.credit Y.1 Y.2.1).2, 0) else (Y.1, [], Y.2.2)) else (x, [], 8)) := HRQ.out.trans (if_pos rfl)
  clear HRQ
  obtain ⟨a11, a0, a1, a2⟩ := KF.out w1 HF1.out
  have FD : Fresh w0 w1.drew := HF1.out.drew
  go_upto_region 4 with (fail)
  go_region_held3 (fun wx => wx.cell? ⟨n, 11, none⟩ = some (.pointer (some ⟨cn, 0, none⟩)) ∧ wx.cell? ⟨b0, 0, none⟩ = some (.int .i64 kd))
   ((with_reducible refine ⟨(KF.out _ ?_).1, (KF.out _ ?_).2.1⟩) <;> first | with_reducible assumption)
   (first
    |(go_simp; go_at_call 34; (with_reducible refine (HV.out _ FD).mono ?_); rintro e w2 ⟨rfl, f2⟩
      have F2 : Fresh w0 w2 := FD.trans f2 (fun _ _ e => e))
    |(go_simp; go_at_call 33; (with_reducible refine (HMY.out _).mono ?_); rintro e w3 ⟨rfl, f3⟩
      have F3 : Fresh w0 w3 := F2.trans f3 (fun _ _ e => e)))
  all_goals
   have HF3 := lh F3
   clear F3 F2 f2 f3 FD HF1 a11 a0 a1 a2
   obtain ⟨a11, a0, a1, a2⟩ := KF.out w3 HF3.out
   cases my with
   |false =>
    have hR : R = (x, [], 8) := HRQ2.out.trans (if_neg (by decide))
    subst hR
    have HZ := lh (HE0.out w3 8 HF3.out)
    clear HRQ2 HCR HAK HE0 HV HMY KF HF3
    go_wp2
    go_ret2
    exact HZ.out
   |true =>
    have HRQ3 : Hid (R = if Y.2.2 = 0 then ((En.credit Y.1 Y.2.1).1, (En.credit Y.1 Y.2.1).2, 0) else (Y.1, [], Y.2.2)) := HRQ2.out.trans (if_pos rfl)
    have HA := lh (HAK.out w3 HF3.out rfl)
    obtain ⟨Y1, L, e2⟩ := Y
    have HRQ4 : Hid (R = if e2 = 0 then ((En.credit Y1 L).1, (En.credit Y1 L).2, 0) else (Y1, [], e2)) := HRQ3.out
    have HC2 : Hid (∀ D' A c w1, EndTo k D D' w w1 n Y1 -> Sl sigE w1 A c L -> (∀ ad, A = some ad -> w.heap.size <= ad.block ∧ D' ad.block = k + 8) -> Calls Tryz.prog 30 #[.pointer (some ⟨n, 0, none⟩), .slice A L.length c] w1 (EndSigs k D w n (En.credit Y1 L))) := HCR.out
    clear HRQ3 HRQ2 HCR HAK HE0 HV HMY KF HF3 hfd
    generalize En.credit Y1 L = Q at HRQ4 HC2
    by_cases h2 : e2 = 0
    ·subst h2
     have hR : R = (Q.1, Q.2, 0) := HRQ4.out.trans (if_pos rfl)
     subst hR
     clear HRQ4
     go_wp2_with (first
      |(go_at_call 35; (with_reducible refine HA.out.mono ?_); rintro e w4 ⟨D4, A4, c4, rfl, g1, g2, g3⟩; have HD := lh (HC2.out D4 A4 c4 w4 g1 g2 g3); clear g1 g2 g3)
      |(go_at_call 30; (with_reducible refine HD.out.mono ?_); rintro e w5 ⟨D5, A5, c5, rfl, g1, g2, g3⟩; have G1 := lh g1; have G2 := lh g2; have G3 := lh g3; clear g1 g2 g3))
     go_ret2
     exact ⟨D5, A5, c5, rfl, G1.out, G2.out, G3.out⟩
    ·have be : (e2 != 0) = true := by simpa using h2
     have hR : R = (Y1, [], e2) := HRQ4.out.trans (if_neg h2)
     subst hR
     clear HRQ4 h2 HC2
     go_wp2_with (first
      |(go_at_call 35; (with_reducible refine HA.out.mono ?_); rintro e w4 ⟨D4, A4, c4, rfl, g1, g2, g3⟩; have G1 := lh g1; clear g1 g2 g3))
     go_ret2
     exact ⟨D4, none, 0, rfl, G1.out, Sl.nil _ _, fun _ e => nomatch e⟩
 ·have be : (er != 0) = true := by simpa using he
  have hR : R = (x, [], er) := by rw [HRQ.out, if_neg he]
  subst hR
  have HZ := lh (HE0.out w1 er HF1.out)
  clear he HRQ HCR HAK HE0 HV HMY KF HF1
  go_wp2
  go_ret2
  exact HZ.out
end
end Go.Proofs.YtnenaemincfgpaaGreat

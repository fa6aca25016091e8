/-
  node.Node: transfer: what a unit of an epoch's brings. Conditions: the sender and the receiver may be; numbers are of 24 bits · node.Node: transfer at a report: STAT. Conditions: the sender may be; numbers are of 24 bits · send.Send: Next, by a function of the document's sender. No conditions.
-/
import Derived.Test.YtlbopdfobgjjaaaGreatDoorEnC
import Derived.Test.YtlbopdfobgjjaaaGreatDoorSfH
import Derived.Test.YtlbopdfobgjjaaaGreatDoorRf
set_option maxHeartbeats 4000000
namespace Go.Proofs.YtlbopdfobgjjaaaGreatDoor
open Go.RowKit
set_option maxRecDepth 20000
section
variable {k:Nat} {D D':Nat->Nat} {w w':World} {n cn pc un:Nat} {sp rp:Option Nat} {A B:Option Addr} {ca cb:Nat} {x:En.X}
theorem PS.up {p:Nat} {F:Nat->Prop} {s':Sf.S} (hF:∀ b,F b->D b=k+5/\b<w.heap.size) (hs:SendAt w' p (Grown F w) (Sf.prog s')):PS k (lab D w.heap.size (k+5)) w' p s':=by
 refine ⟨_,hs.cutE,fun b hb=>⟨?_,hb.2⟩⟩
 rcases hb.1 with e | e
 ·rw [lab_old (hF b e).2];exact (hF b e).1
 ·exact lab_new e
theorem nfail_to (code:Int) {w1:World} {D1:Nat->Nat} {x1:En.X} (h:EndIn k D1 w1 n cn pc un sp rp A ca B cb x1) (hl:Lab k D D1 w.heap.size) (ht:Touch (All D k) w w1) (hctl:x1.ctl.length<=1000) (he:∃ e lo hi,x1.ep=some e/\Sf.Ok e.1 lo hi) :
  Calls Tryz.prog 189 #[.pointer (some ⟨n,0,none⟩),.int .u8 code] w1 (EndSigs k D w n (En.fail x1 code)):=
 (nfail_any h code hctl (fun _=>he)).mono fun _ _ hy=>hy.back hl ht
theorem ntrans_poll (h:EndIn k D w n cn pc un sp rp A ca B cb x) {s:Sf.S} {r:Rf.S} (he:x.ep=some (s,r)) {lo hi lo2 hi2:Int} (hso:Sf.Ok s lo hi) (hro:Rf.Ok r lo2 hi2) (hctl:x.ctl.length<=1000) (u:Cn.Pd) (l:List Int) (hk:u.kind=10) (hn:0<=u.n/\u.n<16777216) :
  Calls Tryz.prog 155 #[.pointer (some ⟨n,0,none⟩),pduV u] w (EndSigs k D w n (En.transfer x (s,r) u l)):=by
 obtain ⟨ok,hok⟩:=qx (Rf.pollOk r u.n)
 have HY:Hid (En.transfer x (s,r) u l=if ok then ({ x with ep:=some (s,Rf.poll r u.n),stat:=true,asked:=u.ps },[]) else En.fail x 81):=by
  unfold En.transfer
  rw [if_neg (by omega),if_pos hk]
  show (if Rf.pollOk r u.n then _ else _)=_
  rw [hok]
 have hp1:=hro.pollOk u.n
 rw [show u.n%16777216=u.n by omega] at hp1
 have HP1:=lh hp1
 have HP2:Hid ((if Rf.pollOk r u.n then { Rf.prog r with h:=u.n%16777216 } else Rf.prog r)=Rf.prog (Rf.poll r u.n)):=(hro.poll u.n).1
 clear hp1
 obtain ⟨w0,hw0⟩:=xq (w.alloc (.cells #[.int .i64 u.kind,.int .i64 u.sq,.int .u32 u.n,.int .u32 u.ps,.int .u32 u.mr,.slice u.lA u.ln u.lc,.bool u.self,.string u.data] 49))
 obtain ⟨b,hb⟩:=xq w.heap.size
 obtain ⟨D0,hD0⟩:=xq (lab D w.heap.size (k+8))
 have HF0:Hid (Fresh w w0):=by rw [hw0];exact (Touch.refl _ _).alloc _
 have HLAB:Hid (Lab k D D0 w.heap.size):=by rw [hD0];exact lab_lab k D _ 8 (by omega)
 have hDb:D0 b=k+8:=by rw [hD0,hb];exact lab_new (Nat.le_refl _)
 have HBX:Hid (∀ W,Touch (All D0 k) w0 W->Blk W b 49 [.int .i64 u.kind,.int .i64 u.sq,.int .u32 u.n,.int .u32 u.ps,.int .u32 u.mr,.slice u.lA u.ln u.lc,.bool u.self,.string u.data]):=fun W hW=>hW.blk (by rw [hw0,hb];exact Blk.new w _ _) (by unfold All;omega)
 have H0:Hid (EndIn k D0 w0 n cn pc un sp rp A ca B cb x):=h.old HF0.out (fun b hb=>HLAB.out.1 b hb)
 have HBK:Hid (∀ y e w',EndSigs k D0 w0 n y e w'->EndSigs k D w n y e w'):=fun y e w' hy=>hy.back HLAB.out (HF0.out.mono (fun _ _ e=>e.elim))
 obtain ⟨p,q,rfl,rfl,-,-⟩:=h.ep_some he
 obtain ⟨⟨Fs,hs,hFs⟩,⟨Fr,hr,hFr⟩⟩:=PE.snd (by have:=H0.out.e;rw [he] at this;exact this)
 have HS:=lh hs
 have HR:=lh hr
 have HFS:=lh hFs
 have HFR:=lh hFr
 have HE:=lh he
 clear h hs hr hFs hFr hD0 he
 have x0:w0.cell? ⟨b,0,none⟩=some (.int .i64 u.kind):=(HBX.out w0 (Touch.refl _ _)).cell 0
 rw [hk] at x0
 clear hk
 generalize hZ:En.transfer x (s,r) u l=Z at HY ⊢
 clear hZ
 unfold pduV
 go_enter Tryz.func155,Tryz.ntmps155
 go_upto_region 1 with (fail)
 rw [<- hw0,<- hb]
 clear hw0 hb
 have HPL:Hid (∀ W,Fresh w0 W->Calls Tryz.prog 188 #[.pointer (some ⟨q,0,none⟩),.int .u32 u.n] W fun e w'=>e=.returned (.int .i64 (if ok then 0 else 11))/\RecvAt w' q Fr (Rf.prog (Rf.poll r u.n))/\Touch Fr W w'):=fun W hW=>by
  have:=rpoll_any q Fr (Rf.prog r) u.n W (HR.out.old hW) (HP1.out.trans hok)
  rw [<- hok,HP2.out] at this
  rw [<- hok]
  exact this
 clear HP1 HP2
 have FD:Fresh w0 w0.drew:=(Touch.refl _ _).drew
 have KF:Hid (∀ wx,Touch Fr w0 wx->wx.cell? ⟨n,14,none⟩=some (.pointer (some ⟨q,0,none⟩))/\wx.cell? ⟨b,2,none⟩=some (.int .u32 u.n)):=fun wx hW =>
  have hb:=hW.blk H0.out.b.1 (fun e=>by have:=(HFR.out _ e).1;have:=H0.out.b.2;omega)
  have hx:=hW.blk (HBX.out w0 (Touch.refl _ _)) (fun e=>by have:=(HFR.out _ e).1;omega)
  ⟨hb.cell 14,hx.cell 2⟩
 obtain ⟨a14,a2⟩:=KF.out w0 (Touch.refl _ _)
 have HS9:Hid (∀ w1,RecvAt w1 q Fr (Rf.prog (Rf.poll r u.n))->Touch Fr w0 w1->EndIn k D0 w1 n cn pc un (some p) (some q) A ca B cb { x with ep:=some (s,Rf.poll r u.n) }/\Touch (All D0 k) w0 w1):=fun w1 h1 h2 =>
  ⟨H0.out.recvd (D':=D0) HE.out rfl ⟨Fr,h1,fun b hb=>⟨(HFR.out b hb).1,Nat.lt_of_lt_of_le (HFR.out b hb).2 h2.size⟩⟩ h2 (fun b hb=>(HFR.out b hb).1) (fun _ _=>rfl),h2.mono fun b _ hb=>by have:=(HFR.out b hb).1;unfold All;omega⟩
 have HL0:Hid (Lab k D0 D0 w0.heap.size):=⟨fun _ _=>rfl,fun b hb=>HLAB.out.2 b (Nat.le_trans HF0.out.size hb)⟩
 cases ok with
 |false =>
  have HY2:Hid (Z=En.fail x 81):=HY.out
  have HX2:Hid (Rf.poll r u.n=r):=by show _=_;unfold Rf.poll;rw [hok];rfl
  rw [HX2.out] at HS9 HPL
  have HNF:Hid (∀ w1,EndIn k D0 w1 n cn pc un (some p) (some q) A ca B cb { x with ep:=some (s,r) }->Touch (All D0 k) w0 w1->Calls Tryz.prog 189 #[.pointer (some ⟨n,0,none⟩),.int .u8 81] w1 (EndSigs k D w n Z)):=fun w1 h1 h2=>by
   rw [HY2.out]
   rw [show ({ x with ep:=some (s,r) }:En.X)=x by rw [<- HE.out]] at h1
   exact (nfail_to 81 h1 HL0.out h2 hctl ⟨(s,r),lo,hi,HE.out,hso⟩).mono fun e w' hy=>HBK.out _ _ _ hy
  clear hok HY HY2 HX2 HBK hso hro HE
  go_upto_region 11 with (fail)
  go_region_held3 (fun wx=>wx.cell? ⟨n,14,none⟩=some (.pointer (some ⟨q,0,none⟩))/\wx.cell? ⟨b,2,none⟩=some (.int .u32 u.n))
   ((with_reducible refine KF.out _ ?_;first | with_reducible assumption | exact FD.mono (fun _ _ e=>e.elim)))
   (first
    |(go_simp;go_at_call 188;(with_reducible refine (HPL.out _ FD).mono ?_);rintro e w1 ⟨rfl,hr1,t1⟩
      have FT:Touch Fr w0 w1:=(FD.mono (fun _ _ e=>e.elim)).trans t1 (fun _ _ e=>e)))
  obtain ⟨h1,t2⟩:=HS9.out w1 hr1 FT
  have HC:=lh (HNF.out w1 h1 t2)
  clear h1 t2 hr1 t1 FT KF HNF HS9 HPL x0 a14 a2
  go_wp2_with fail
  refine HC.out.mono ?_
  rintro e w2 h2
  have HE2:=lh h2
  obtain ⟨D',A',c',rfl,-⟩:=h2
  simp only
  go_wp2
  go_ret
  exact HE2.out
 |true =>
  have HY2:Hid (Z=({ x with ep:=some (s,Rf.poll r u.n),stat:=true,asked:=u.ps },[])):=HY.out
  clear hok HY hso hro hctl
  go_upto_region 11 with (fail)
  go_region_held3 (fun wx=>wx.cell? ⟨n,14,none⟩=some (.pointer (some ⟨q,0,none⟩))/\wx.cell? ⟨b,2,none⟩=some (.int .u32 u.n))
   ((with_reducible refine KF.out _ ?_;first | with_reducible assumption | exact FD.mono (fun _ _ e=>e.elim)))
   (first
    |(go_simp;go_at_call 188;(with_reducible refine (HPL.out _ FD).mono ?_);rintro e w1 ⟨rfl,hr1,t1⟩
      have FT:Touch Fr w0 w1:=(FD.mono (fun _ _ e=>e.elim)).trans t1 (fun _ _ e=>e)))
  obtain ⟨h1,t2⟩:=HS9.out w1 hr1 FT
  have H1:=lh h1
  have T1:=lh t2
  clear h1 t2 hr1 t1 FT KF HS9 HPL x0 a14 a2 FD
  go_upto_region 13 with (fail)
  have b3:w1.cell? ⟨b,3,none⟩=some (.int .u32 u.ps):=(HBX.out w1 T1.out).cell 3
  have hnb:n ≠ b:=fun e=>by have:=H0.out.b.2;rw [e] at this;omega
  have hbn:b ≠ n:=fun e=>hnb e.symm
  have c18:w1.cell? ⟨n,18,none⟩=some (.bool x.stat):=H1.out.b.1.cell 18
  have f18:=H1.out.b.1.frozen 18
  have c19:w1.cell? ⟨n,19,none⟩=some (.int .u32 x.asked):=H1.out.b.1.cell 19
  have f19:=H1.out.b.1.frozen 19
  have KB:Hid (∀ W,Touch (· = n) w1 W->W.cell? ⟨b,3,none⟩=some (.int .u32 u.ps)):=fun W hW=>(hW.blk (HBX.out w1 T1.out) hbn).cell 3
  have HFI:Hid (∀ W,W=((w1.setCell ⟨n,18,none⟩ (.bool true)).setCell ⟨n,19,none⟩ (.int .u32 u.ps)).drew->EndSigs k D w n Z (.returned (.slice none 0 0)) W):=fun W hW=>by
   subst hW
   rw [HY2.out]
   refine HBK.out _ _ _ ⟨D0,none,0,rfl,⟨?_,HL0.out,((T1.out.st ?_).st ?_).drew⟩,Sl.nil _ _,fun _ e=>nomatch e⟩
   ·have h1:=H1.out
    have h2:=h1.put (x':={ x with ep:=some (s,Rf.poll r u.n),stat:=true }) 18 (.bool true) rfl rfl ⟨rfl,rfl⟩ rfl h1.l h1.f h1.e
    exact ⟨_,_,_,_,_,_,_,_,_,(h2.put (x':={ x with ep:=some (s,Rf.poll r u.n),stat:=true,asked:=u.ps }) 19 (.int .u32 u.ps) rfl rfl ⟨rfl,rfl⟩ rfl h2.l h2.f h2.e).old (Touch.drew (Touch.refl _ _)) (fun _ _=>rfl)⟩
   ·exact H0.out.own
   ·exact H0.out.own
  clear H1 T1 HY2 HBX
  go_region_held3 (fun wx=>wx.cell? ⟨b,3,none⟩=some (.int .u32 u.ps))
   ((with_reducible refine KB.out _ ?_;repeat (first | with_reducible exact Touch.refl _ _ | with_reducible refine Touch.drew ?_ | with_reducible refine Touch.st ?_ rfl)))
   (fail)
  go_wp2
  go_ret
  exact HFI.out _ rfl
end
set_option maxRecDepth 20000
section
variable {k:Nat} {D D':Nat->Nat} {w w':World} {n cn pc un:Nat} {sp rp:Option Nat} {A B:Option Addr} {ca cb:Nat} {x:En.X}
theorem ntrans_stat (h:EndIn k D w n cn pc un sp rp A ca B cb x) {s:Sf.S} {r:Rf.S} (he:x.ep=some (s,r)) {lo hi lo2 hi2:Int} (hso:Sf.Ok s lo hi) (_hro:Rf.Ok r lo2 hi2) (hctl:x.ctl.length<=1000) (u:Cn.Pd) (l:List Int) (hk:u.kind=11) (hmr:0<=u.mr/\u.mr<16777216) (hrl:Rd numE w u.lA u.lc l) (hln:u.ln=l.length) (hll:l.length<=1000000) (hlA:∀ ad,u.lA=some ad->¬ (k<=D ad.block/\D ad.block<k+8)) :
  Calls Tryz.prog 155 #[.pointer (some ⟨n,0,none⟩),pduV u] w (EndSigs k D w n (En.transfer x (s,r) u l)):=by
 obtain ⟨s2,cnt,er,hz⟩:∃ s2 cnt er,Sf.stat s u.n u.mr u.ps l=(s2,cnt,er):=⟨_,_,_,rfl⟩
 have HZE:=lh hz
 have hok2:Sf.Ok s2 lo hi:=by have:=hso.stat u.n u.mr u.ps l;rw [hz] at this;exact this
 have HOK2:=lh hok2
 have hcs:(er=12/\s2=s)\/(er=13/\s2=s)\/er=0:=by
  unfold Sf.stat at hz
  split at hz
  ·injection hz with e1 e2;injection e2 with e2 e3;exact .inl ⟨e3.symm,e1.symm⟩
  ·split at hz
   ·injection hz with e1 e2;injection e2 with e2 e3;exact .inr (.inl ⟨e3.symm,e1.symm⟩)
   ·injection hz with e1 e2;injection e2 with e2 e3;exact .inr (.inr e3.symm)
 have HY:Hid (En.transfer x (s,r) u l=if er=12 then En.fail x 82 else if er=13 then En.fail x 83 else ({ x with ep:=some (s2,r),tm:=Pc.answered x.tm x.c.silent x.c.idle (En.sIdle s2) },En.again cnt)):=by
  show _=_
  unfold En.transfer
  rw [if_neg (by omega),if_neg (by omega),if_pos hk]
  simp only [hz]
 clear hz hok2
 obtain ⟨w0,hw0⟩:=xq (w.alloc (.cells #[.int .i64 u.kind,.int .i64 u.sq,.int .u32 u.n,.int .u32 u.ps,.int .u32 u.mr,.slice u.lA u.ln u.lc,.bool u.self,.string u.data] 49))
 obtain ⟨b,hb⟩:=xq w.heap.size
 obtain ⟨D0,hD0⟩:=xq (lab D w.heap.size (k+8))
 have HF0:Hid (Fresh w w0):=by rw [hw0];exact (Touch.refl _ _).alloc _
 have HLAB:Hid (Lab k D D0 w.heap.size):=by rw [hD0];exact lab_lab k D _ 8 (by omega)
 have hDb:D0 b=k+8:=by rw [hD0,hb];exact lab_new (Nat.le_refl _)
 have HBX:Hid (∀ W,Touch (All D0 k) w0 W->Blk W b 49 [.int .i64 u.kind,.int .i64 u.sq,.int .u32 u.n,.int .u32 u.ps,.int .u32 u.mr,.slice u.lA u.ln u.lc,.bool u.self,.string u.data]):=fun W hW=>hW.blk (by rw [hw0,hb];exact Blk.new w _ _) (by unfold All;omega)
 have H0:Hid (EndIn k D0 w0 n cn pc un sp rp A ca B cb x):=h.old HF0.out (fun b hb=>HLAB.out.1 b hb)
 have HBK:Hid (∀ y e w',EndSigs k D0 w0 n y e w'->EndSigs k D w n y e w'):=fun y e w' hy=>hy.back HLAB.out (HF0.out.mono (fun _ _ e=>e.elim))
 obtain ⟨p,q,rfl,rfl,-,-⟩:=h.ep_some he
 obtain ⟨⟨Fs,hs,hFs⟩,⟨Fr,hr,hFr⟩⟩:=PE.snd (by have:=H0.out.e;rw [he] at this;exact this)
 have HS:=lh hs
 have HR:=lh hr
 have HFS:=lh hFs
 have HFR:=lh hFr
 have HE:=lh he
 have HLI:Hid (∀ W,Touch (All D0 k) w0 W->Rd numE W u.lA u.lc l):=fun W hW=>by
  refine Rd.touch (hrl.touch HF0.out (fun _ _ _ e=>e)) hW (fun ad e hl2 e2=>?_)
  have:=hrl.lt hl2 ad e
  unfold All at e2
  rw [HLAB.out.1 _ this] at e2
  exact hlA ad e e2
 have HLN:=lh hln
 clear h hs hr hFs hFr hD0 he hrl hlA hln
 have x0:w0.cell? ⟨b,0,none⟩=some (.int .i64 u.kind):=(HBX.out w0 (Touch.refl _ _)).cell 0
 rw [hk] at x0
 clear hk
 generalize hZ:En.transfer x (s,r) u l=Z at HY ⊢
 clear hZ
 unfold pduV
 go_enter Tryz.func155,Tryz.ntmps155
 go_upto_region 1 with (fail)
 rw [<- hw0,<- hb]
 clear hw0 hb
 have HPL:Hid (∀ W,Fresh w0 W->Calls Tryz.prog 190 #[.pointer (some ⟨p,0,none⟩),.int .u32 u.n,.int .u32 u.mr,.int .u32 u.ps,.slice u.lA l.length u.lc] W fun e w'=>e=.returned (.tuple #[.int .i64 cnt,.int .i64 er])/\SendAt w' p (Grown Fs W) (Sf.prog s2)/\Touch Fs W w'):=fun W hW=>by
  have:=sstat_any p Fs s lo hi hso u.n u.mr u.ps u.lA u.lc l W (HS.out.old hW) (HLI.out W (hW.mono (fun _ _ e=>e.elim))) hll hmr
  unfold StatPost at this
  rw [HZE.out] at this
  exact this
 have FD:Fresh w0 w0.drew:=(Touch.refl _ _).drew
 have KF:Hid (∀ wx,Touch Fs w0 wx->wx.cell? ⟨n,13,none⟩=some (.pointer (some ⟨p,0,none⟩))/\wx.cell? ⟨b,2,none⟩=some (.int .u32 u.n)/\wx.cell? ⟨b,4,none⟩=some (.int .u32 u.mr)/\wx.cell? ⟨b,3,none⟩=some (.int .u32 u.ps)/\wx.cell? ⟨b,5,none⟩=some (.slice u.lA l.length u.lc)):=fun wx hW =>
  have hb:=hW.blk H0.out.b.1 (fun e=>by have:=(HFS.out _ e).1;have:=H0.out.b.2;omega)
  have hx:=hW.blk (HBX.out w0 (Touch.refl _ _)) (fun e=>by have:=(HFS.out _ e).1;omega)
  have hx5:wx.cell? ⟨b,5,none⟩=some (.slice u.lA l.length u.lc):=by rw [<- HLN.out];exact hx.cell 5
  ⟨hb.cell 13,hx.cell 2,hx.cell 4,hx.cell 3,hx5⟩
 obtain ⟨an13,ab2,ab4,ab3,ab5⟩:=KF.out w0 (Touch.refl _ _)
 have HL0:Hid (Lab k D0 (lab D0 w0.heap.size (k+5)) w0.heap.size):=lab_lab k D0 _ 5 (by omega)
 have HS9:Hid (∀ w1 W,Fresh w0 W->SendAt w1 p (Grown Fs W) (Sf.prog s2)->Touch Fs w0 w1->W.heap.size=w0.heap.size->EndIn k (lab D0 w0.heap.size (k+5)) w1 n cn pc un (some p) (some q) A ca B cb { x with ep:=some (s2,r) }/\Touch (All D0 k) w0 w1):=fun w1 W hW h1 h2 h3=>by
  have hps:PS k (lab D0 w0.heap.size (k+5)) w1 p s2:=PS.up (w:=w0) HFS.out (h1.mono fun b hb=>hb.imp id (fun e=>by rw [<- h3];exact e))
  exact ⟨H0.out.sent HE.out rfl hps h2 (fun b hb=>(HFS.out b hb).1) (fun b hb=>lab_old hb),h2.mono fun b _ hb=>by have:=(HFS.out b hb).1;unfold All;omega⟩
 rcases hcs with ⟨rfl,rfl⟩ | ⟨rfl,rfl⟩ | rfl
 ·have HY2:Hid (Z=En.fail x 82):=by show _=_;have:=HY.out;simpa using this
  have HNF:Hid (∀ w1 D1,EndIn k D1 w1 n cn pc un (some p) (some q) A ca B cb { x with ep:=some (s2,r) }->Lab k D0 D1 w0.heap.size->Touch (All D0 k) w0 w1->Calls Tryz.prog 189 #[.pointer (some ⟨n,0,none⟩),.int .u8 82] w1 (EndSigs k D w n Z)):=fun w1 D1 h1 hl h2=>by
   rw [HY2.out]
   rw [show ({ x with ep:=some (s2,r) }:En.X)=x by rw [<- HE.out]] at h1
   exact (nfail_to 82 h1 hl h2 hctl ⟨(s2,r),lo,hi,HE.out,HOK2.out⟩).mono fun e w' hy=>HBK.out _ _ _ hy
  clear HY HY2 HBK hso _hro HE HZE HOK2
  go_upto_region 16 with (fail)
  go_region_held3 (fun wx=>wx.cell? ⟨n,13,none⟩=some (.pointer (some ⟨p,0,none⟩))/\wx.cell? ⟨b,2,none⟩=some (.int .u32 u.n)/\wx.cell? ⟨b,4,none⟩=some (.int .u32 u.mr)/\wx.cell? ⟨b,3,none⟩=some (.int .u32 u.ps)/\wx.cell? ⟨b,5,none⟩=some (.slice u.lA l.length u.lc))
   ((with_reducible refine KF.out _ ?_;first | with_reducible assumption | exact FD.mono (fun _ _ e=>e.elim)))
   (first
    |(go_simp;go_at_call 190;(with_reducible refine (HPL.out _ FD).mono ?_);rintro e w1 ⟨rfl,hr1,t1⟩
      have FT:Touch Fs w0 w1:=(FD.mono (fun _ _ e=>e.elim)).trans t1 (fun _ _ e=>e)))
  obtain ⟨h1,t2⟩:=HS9.out w1 _ FD hr1 FT rfl
  have H1:=lh h1
  have T1:=lh t2
  clear h1 t2 hr1 t1 FT KF HS9 HPL x0 an13 ab2 ab4 ab3 ab5 FD
  have HC:=lh (HNF.out w1 _ H1.out HL0.out T1.out)
  clear H1 T1 HNF
  go_wp2_with fail
  refine HC.out.mono ?_
  rintro e w2 h2
  have HE2:=lh h2
  obtain ⟨D',A',c',rfl,-⟩:=h2
  simp only
  go_wp2
  go_ret
  exact HE2.out
 ·have HY2:Hid (Z=En.fail x 83):=by show _=_;have:=HY.out;simpa using this
  have HNF:Hid (∀ w1 D1,EndIn k D1 w1 n cn pc un (some p) (some q) A ca B cb { x with ep:=some (s2,r) }->Lab k D0 D1 w0.heap.size->Touch (All D0 k) w0 w1->Calls Tryz.prog 189 #[.pointer (some ⟨n,0,none⟩),.int .u8 83] w1 (EndSigs k D w n Z)):=fun w1 D1 h1 hl h2=>by
   rw [HY2.out]
   rw [show ({ x with ep:=some (s2,r) }:En.X)=x by rw [<- HE.out]] at h1
   exact (nfail_to 83 h1 hl h2 hctl ⟨(s2,r),lo,hi,HE.out,HOK2.out⟩).mono fun e w' hy=>HBK.out _ _ _ hy
  clear HY HY2 HBK hso _hro HE HZE HOK2
  go_upto_region 16 with (fail)
  go_region_held3 (fun wx=>wx.cell? ⟨n,13,none⟩=some (.pointer (some ⟨p,0,none⟩))/\wx.cell? ⟨b,2,none⟩=some (.int .u32 u.n)/\wx.cell? ⟨b,4,none⟩=some (.int .u32 u.mr)/\wx.cell? ⟨b,3,none⟩=some (.int .u32 u.ps)/\wx.cell? ⟨b,5,none⟩=some (.slice u.lA l.length u.lc))
   ((with_reducible refine KF.out _ ?_;first | with_reducible assumption | exact FD.mono (fun _ _ e=>e.elim)))
   (first
    |(go_simp;go_at_call 190;(with_reducible refine (HPL.out _ FD).mono ?_);rintro e w1 ⟨rfl,hr1,t1⟩
      have FT:Touch Fs w0 w1:=(FD.mono (fun _ _ e=>e.elim)).trans t1 (fun _ _ e=>e)))
  obtain ⟨h1,t2⟩:=HS9.out w1 _ FD hr1 FT rfl
  have H1:=lh h1
  have T1:=lh t2
  clear h1 t2 hr1 t1 FT KF HS9 HPL x0 an13 ab2 ab4 ab3 ab5 FD
  have HC:=lh (HNF.out w1 _ H1.out HL0.out T1.out)
  clear H1 T1 HNF
  go_wp2_with fail
  refine HC.out.mono ?_
  rintro e w2 h2
  have HE2:=lh h2
  obtain ⟨D',A',c',rfl,-⟩:=h2
  simp only
  go_wp2
  go_ret
  exact HE2.out
 ·have HY2:Hid (Z=({ x with ep:=some (s2,r),tm:=Pc.answered x.tm x.c.silent x.c.idle (En.sIdle s2) },En.again cnt)):=by show _=_;have:=HY.out;simpa using this
  have HOKL:Hid (s2.last.length=s2.kept.length):=HOK2.out.llen
  clear HY hso _hro hctl HE HZE HOK2
  go_upto_region 16 with (fail)
  go_region_held3 (fun wx=>wx.cell? ⟨n,13,none⟩=some (.pointer (some ⟨p,0,none⟩))/\wx.cell? ⟨b,2,none⟩=some (.int .u32 u.n)/\wx.cell? ⟨b,4,none⟩=some (.int .u32 u.mr)/\wx.cell? ⟨b,3,none⟩=some (.int .u32 u.ps)/\wx.cell? ⟨b,5,none⟩=some (.slice u.lA l.length u.lc))
   ((with_reducible refine KF.out _ ?_;first | with_reducible assumption | exact FD.mono (fun _ _ e=>e.elim)))
   (first
    |(go_simp;go_at_call 190;(with_reducible refine (HPL.out _ FD).mono ?_);rintro e w1 ⟨rfl,hr1,t1⟩
      have FT:Touch Fs w0 w1:=(FD.mono (fun _ _ e=>e.elim)).trans t1 (fun _ _ e=>e)))
  obtain ⟨h1,t2⟩:=HS9.out w1 _ FD hr1 FT rfl
  have H1:=lh h1
  have T1:=lh t2
  clear h1 t2 hr1 t1 FT KF HS9 HPL x0 an13 ab2 ab4 ab3 ab5 FD
  go_upto_region 22 with (fail)
  have HPC:=lh H1.out.p.1
  have KP:Hid (∀ wx,Touch (· = pc) w1 wx->wx.cell? ⟨n,12,none⟩=some (.pointer (some ⟨pc,0,none⟩))):=fun wx hW=>(hW.blk H1.out.b.1 (fun e=>by have e:n=pc:=e;have:=H1.out.p.2;have:=H1.out.b.2;rw [e] at this;omega)).cell 12
  have a12:=KP.out w1 (Touch.refl _ _)
  have HIDQ:Hid (∀ W,Fresh w1 W->Calls Tryz.prog 84 #[.pointer (some ⟨n,0,none⟩)] W fun e w'=>e=.returned (.bool (En.sIdle s2))/\Fresh W w'):=fun W hW=>by
   have hq:∀ b,b<w1.heap.size->(lab D0 w0.heap.size (k+5)) b=(lab D0 w0.heap.size (k+5)) b:=fun _ _=>rfl
   refine (nidle_any (H1.out.old hW hq) (fun e he=>by injection he with he;subst he;exact HOKL.out)).mono ?_
   rintro e w' ⟨h1,m2,h2⟩
   exact ⟨h1,by rw [h2];exact (Touch.refl _ _).drewN m2⟩
  have HAN:Hid (∀ W,Fresh w1 W->Calls Tryz.prog 191 #[.pointer (some ⟨pc,0,none⟩),.bool (En.sIdle s2)] W fun e w'=>e=.returned (.tuple #[])/\Pk w' pc (Pc.answered x.tm x.c.silent x.c.idle (En.sIdle s2)) x.c.cc x.c.poll x.c.keep x.c.silent x.c.idle/\Touch (· = pc) W w'):=fun W hW=>answered_any _ _ _ _ _ _ _ _ _ (Bk.touch HPC.out hW (fun e=>e))
  have FD:Fresh w1 w1.drew:=(Touch.refl _ _).drew
  go_region_held3 (fun wx=>wx.cell? ⟨n,12,none⟩=some (.pointer (some ⟨pc,0,none⟩)))
   ((with_reducible refine KP.out _ ?_;first | with_reducible assumption | exact FD.mono (fun _ _ e=>e.elim) | exact FI.mono (fun _ _ e=>e.elim)))
   (first
    |(go_simp;go_at_call 84;(with_reducible refine (HIDQ.out _ FD).mono ?_);rintro e w2 ⟨rfl,f2⟩
      have FI:Fresh w1 w2:=FD.trans f2 (fun _ _ e=>e)
      have FJ:Touch (· = pc) w1 w2:=FI.mono (fun _ _ e=>e.elim))
    |(go_simp;go_at_call 191;(with_reducible refine (HAN.out _ FI).mono ?_);rintro e w3 ⟨rfl,p3,t3⟩
      have FT:Touch (· = pc) w1 w3:=(FI.mono (fun _ _ e=>e.elim)).trans t3 (fun _ _ e=>e)))
  have H3:=lh (H1.out.paced (D':=(lab D0 w0.heap.size (k+5))) p3 FT (fun b hb=>by subst hb;exact H1.out.p.2) (fun _ _=>rfl))
  have T3:Hid (Touch (All D0 k) w0 w3):=T1.out.then HL0.out (FT.mono fun b _ hb=>by subst hb;have:=H1.out.p.2;unfold All;omega)
  clear H1 T1 FI FJ FT FD f2 p3 t3 KP HIDQ HAN a12 HPC
  go_wp2_with (go_at_call 192;(with_reducible refine (nagain_any _ _).mono ?_);rintro e w4 ⟨A2,c2,rfl,hm⟩)
  go_ret
  rw [HY2.out]
  have z1:=T3.out.size
  have hD:∀ b,b<w3.heap.size->lab (lab D0 w0.heap.size (k+5)) w3.heap.size (k+8) b=(lab D0 w0.heap.size (k+5)) b:=fun b hb=>lab_old hb
  exact HBK.out _ _ _ ⟨_,A2,c2,rfl,⟨⟨_,_,_,_,_,_,_,_,_,H3.out.old hm.fresh hD⟩,HL0.out.trans (lab_lab k _ _ 8 (by omega)) z1,T3.out.trans hm.fresh (fun _ _ e=>e.elim)⟩,hm.sl,fun ad e=>⟨Nat.le_trans z1 (hm.base ad e),lab_new (hm.base ad e)⟩⟩
end
theorem snext_void (p:Nat) (F:Nat->Prop) (st:Sd.S) (w:World) (h:SendAt w p F st) (ha:st.again=[]) (hs:st.s ≠ st.ms) (hq:st.q=[]) :
  Calls Tryz.prog 85 #[.pointer (some ⟨p,0,none⟩)] w fun e w'=>e=.returned (.tuple #[.int .u32 0,.string ByteArray.empty,.bool false,.bool false])/\SendAt w' p F st/\Touch F w w':=by
 obtain ⟨g,b,k,A,c,h1,hF⟩:=h.open_
 have c0:w.cell? ⟨p,0,none⟩=some (.int .u32 st.s):=h1.blk.cell 0
 have c2:w.cell? ⟨p,2,none⟩=some (.int .u32 st.ms):=h1.blk.cell 2
 have c7:w.cell? ⟨p,7,none⟩=some (.pointer (some ⟨g,0,none⟩)):=h1.blk.cell 7
 have c9:w.cell? ⟨p,9,none⟩=some (.slice A st.again.length c):=h1.blk.cell 9
 rw [ha,List.length_nil] at c9
 have hb:(st.s==st.ms)=false:=by simpa using hs
 have HR:=lh (fun n=>ringStr_take g b st.most st.q (w.drewN n) (h1.ring.same rfl))
 have HQ:Hid ({ st with q:=[] }=st):=by unfold Hid;rw [<- hq]
 rw [hq] at HR
 have HI:=lh h1
 have HF:=lh hF
 clear h h1 hF ha hs hq
 obtain ⟨s,hse⟩:=xq st.s
 obtain ⟨ms,hme⟩:=xq st.ms
 rw [<- hse] at c0 hb
 rw [<- hme] at c2 hb
 clear hse hme
 go_enter Tryz.func85,Tryz.ntmps85
 go_wp2
 go_quiet (fail)
 go_wp2_with fail
 refine (HR.out _).mono ?_
 rintro e w1 ⟨rfl,hr,ht⟩
 have I1:Hid (SendIn w1 p g b k A c { st with q:=[] }):=(HI.out.drewN _).ringed hr ht
 have T1:Hid (Touch F w w1):=((Touch.refl _ _).drewN _).trans ht (fun x _ hx=>HF.out.foot x hx)
 have HX:Hid (SendAt w1 p F st):=by
  have:=SendAt.mk' I1.out HF.out
  rw [HQ.out] at this
  exact this
 clear hr ht HR HI c0 c2 c7 c9
 simp only [List.length_nil,if_true]
 go_wp2
 exact bodyPost_ret (results_tmp4 rfl _ _ _) rfl ⟨rfl,HX.out,T1.out⟩
end Go.Proofs.YtlbopdfobgjjaaaGreatDoor

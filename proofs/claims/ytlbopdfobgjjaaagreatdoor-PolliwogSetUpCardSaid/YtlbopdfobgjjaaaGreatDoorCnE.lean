/-
  conn: what an act does with a unit · conn: what an act does with a unit, and with a request.
-/
import Derived.Test.YtlbopdfobgjjaaaGreatDoorCloP
set_option maxHeartbeats 2000000
namespace Go.Proofs.YtlbopdfobgjjaaaGreatDoor
open Go.RowKit
theorem back_lit {K:Nat->Prop} {n:Nat} {w:World} {a c:Nat} {x:Cn.SR} (h:InAct K n w a c x) (p:Cn.Pd) (kind:Int) (ks:List Int) (hn:n+ks.length<=90) :
  Calls Tryz.prog 226 #[.pointer (some ⟨a,0,none⟩),pduV p,.int .i64 kind,.slice (some ⟨w.heap.size,0,none⟩) ks.length ks.length] (w.alloc (.cells (ks.map (Value.int .i64)).toArray 3)) fun e w'=>e=.returned (.tuple #[])/\InAct K (n+ks.length) w' a c (Cn.backs x p kind ks)/\Touch (OfAct K) w w':=by
 have HF:Fresh w (w.alloc (.cells (ks.map (Value.int .i64)).toArray 3)):=(Touch.refl _ w).alloc _
 refine (back_any (h.keep HF) p kind (Sl.rd (Sl.lit intE w _ rfl _ ks (by rw [intE_all]) _ rfl (by unfold maxLen;omega))) (fun ad e _=>?_) hn).mono ?_
 ·injection e with e
  subst e
  exact .inr ⟨Nat.le_refl _,by simp⟩
 ·rintro e w' ⟨rfl,i,t⟩
  exact ⟨rfl,i.less (fun k e=>.inl e),(HF.mono (fun _ _ e=>e.elim)).trans (t.loose (fun k e=>.inl e)) (fun _ _ e=>e)⟩
theorem oldBegin_any {K:Nat->Prop} {n:Nat} {w:World} {a c:Nat} {x:Cn.SR} (h:InAct K n w a c x) (hn:n<=80) (p:Cn.Pd) :
  Calls Tryz.prog 223 #[.pointer (some ⟨a,0,none⟩),pduV p] w fun e w'=>e=.returned (.tuple #[])/\InAct K (n+7) w' a c (Cn.oldBegin x p)/\Touch (OfAct K) w w':=by
 unfold pduV
 obtain ⟨w1,qw,HF,HB,HI1,HG,HL,HP⟩:=box_pre h p
 obtain ⟨st,hst⟩:=qx x.1.state
 have HS:=lh hst
 obtain ⟨sq,hsq⟩:=qx x.1.sq
 have HSQ:=lh hsq
 obtain ⟨peer,hpe⟩:=qx x.1.peer
 have HPE:=lh hpe
 clear h hst hsq hpe
 go_enter Tryz.func223,Tryz.ntmps223
 go_upto_region 1 with (fail)
 rw [<- qw.out]
 clear qw
 generalize Kept K w w1=K1 at *
 generalize w.heap.size=g at *
 have HT1:Hid (Touch (OfAct K1) w1 w1):=Touch.refl _ _
 obtain ⟨d0,d1,d2,d3,d4,d5,d6,d7⟩:=(HT1.out.keptB HB.out HG.out).a8
 have hh:=HI1.out
 obtain ⟨A1,c1,A2,c2,hh⟩:=hh
 have k0:w1.cell? ⟨a,0,none⟩=some (.pointer (some ⟨c,0,none⟩)):=hh.blk.cell 0
 have s2:w1.cell? ⟨c,2,none⟩=some (.int .i64 st):=by rw [<- HS.out];exact hh.conn.cell 2
 clear hh
 go_wp2_with fail
 refine (back_lit HI1.out p 7 [1] (by simp;omega)).mono ?_
 rintro e w2 ⟨rfl,i2,t2⟩
 have HI2:=lh i2
 have HT2:Hid (Touch (OfAct K1) _ w2):=HT1.out.trans t2 (fun _ _ e=>e)
 clear i2 t2
 clear d0 d1 d2 d3 d4 d5 d6 d7 k0 s2
 obtain ⟨d0,d1,d2,d3,d4,d5,d6,d7⟩:=(HT2.out.keptB HB.out HG.out).a8
 have hh:=HI2.out
 obtain ⟨A1,c1,A2,c2,hh⟩:=hh
 have k0:w2.cell? ⟨a,0,none⟩=some (.pointer (some ⟨c,0,none⟩)):=hh.blk.cell 0
 clear hh
 go_wp2_with fail
 refine (back_lit HI2.out p 2 [5,6,7,8,9,10] (by simp;omega)).mono ?_
 rintro e w3 ⟨rfl,i3,t3⟩
 have HI3:=lh i3
 have HT3:Hid (Touch (OfAct K1) _ w3):=HT2.out.trans t3 (fun _ _ e=>e)
 clear i3 t3
 clear d0 d1 d2 d3 d4 d5 d6 d7 k0
 have HX:Hid (InAct K (n+7) w3 a c (Cn.oldBegin x p)/\Touch (OfAct K) w w3):=by
  refine ⟨InAct.eq ((HI3.out.less HL.out).wide (by simp;try omega)) ?_,HP.out.trans (HT3.out.loose HL.out) (fun _ _ e=>e)⟩
  rfl
 clear HI3 HT3
 go_wp2
 first
  |(go_end0;exact ⟨rfl,HX.out⟩)
  |exact bodyPost_ret (results_none rfl _ _ _) rfl ⟨rfl,HX.out⟩
theorem end_any {K:Nat->Prop} {n:Nat} {w:World} {a c:Nat} {x:Cn.SR} (h:InAct K n w a c x) (hn:n<=80) (p:Cn.Pd) :
  Calls Tryz.prog 225 #[.pointer (some ⟨a,0,none⟩),pduV p] w fun e w'=>e=.returned (.tuple #[])/\InAct K (n+2) w' a c (Cn.end_ x p)/\Touch (OfAct K) w w':=by
 unfold pduV
 obtain ⟨w1,qw,HF,HB,HI1,HG,HL,HP⟩:=box_pre h p
 obtain ⟨st,hst⟩:=qx x.1.state
 have HS:=lh hst
 obtain ⟨sq,hsq⟩:=qx x.1.sq
 have HSQ:=lh hsq
 obtain ⟨peer,hpe⟩:=qx x.1.peer
 have HPE:=lh hpe
 clear h hst hsq hpe
 go_enter Tryz.func225,Tryz.ntmps225
 go_upto_region 1 with (fail)
 rw [<- qw.out]
 clear qw
 generalize Kept K w w1=K1 at *
 generalize w.heap.size=g at *
 have HT1:Hid (Touch (OfAct K1) w1 w1):=Touch.refl _ _
 obtain ⟨d0,d1,d2,d3,d4,d5,d6,d7⟩:=(HT1.out.keptB HB.out HG.out).a8
 have hh:=HI1.out
 obtain ⟨A1,c1,A2,c2,hh⟩:=hh
 have k0:w1.cell? ⟨a,0,none⟩=some (.pointer (some ⟨c,0,none⟩)):=hh.blk.cell 0
 have s2:w1.cell? ⟨c,2,none⟩=some (.int .i64 st):=by rw [<- HS.out];exact hh.conn.cell 2
 clear hh
 go_wp2_with fail
 refine (out_any HI1.out (by omega) (Cn.unit_ 4 p.sq false Cn.no)).mono ?_
 rintro e w2 ⟨rfl,i2,t2⟩
 have HI2:=lh i2
 have HT2:Hid (Touch (OfAct K1) _ w2):=HT1.out.trans t2 (fun _ _ e=>e)
 clear i2 t2
 clear d0 d1 d2 d3 d4 d5 d6 d7 k0 s2
 obtain ⟨d0,d1,d2,d3,d4,d5,d6,d7⟩:=(HT2.out.keptB HB.out HG.out).a8
 have hh:=HI2.out
 obtain ⟨A1,c1,A2,c2,hh⟩:=hh
 have k0:w2.cell? ⟨a,0,none⟩=some (.pointer (some ⟨c,0,none⟩)):=hh.blk.cell 0
 have s2:w2.cell? ⟨c,2,none⟩=some (.int .i64 st):=by rw [<- HS.out];exact hh.conn.cell 2
 clear hh
 by_cases e1:st=1
 ·subst e1
  have HX:Hid (InAct K (n+2) w2 a c (Cn.end_ x p)/\Touch (OfAct K) w w2):=by
   refine ⟨InAct.eq ((HI2.out.less HL.out).wide (by simp;try omega)) ?_,HP.out.trans (HT2.out.loose HL.out) (fun _ _ e=>e)⟩
   unfold Cn.end_;rw [if_pos HS.out]
  clear HI2 HT2
  go_wp2
  first
   |(go_end0;exact ⟨rfl,HX.out⟩)
   |exact bodyPost_ret (results_none rfl _ _ _) rfl ⟨rfl,HX.out⟩
 have b1:(st==1)=false:=by simpa using e1
 by_cases e2:st=4
 ·subst e2
  go_wp2_with fail
  refine (tell_any HI2.out (by omega) (Cn.sig 4 false Cn.no)).mono ?_
  rintro e w3 ⟨rfl,i3,t3⟩
  have HI3:=lh i3
  have HT3:Hid (Touch (OfAct K1) _ w3):=HT2.out.trans t3 (fun _ _ e=>e)
  clear i3 t3
  clear d0 d1 d2 d3 d4 d5 d6 d7 k0 s2
  go_wp2_with fail
  refine (stop_any HI3.out (by omega) 1).mono ?_
  rintro e w4 ⟨rfl,i4,t4⟩
  have HI4:=lh i4
  have HT4:Hid (Touch (OfAct K1) _ w4):=HT3.out.trans t4 (fun _ _ e=>e)
  clear i4 t4
  have HX:Hid (InAct K (n+2) w4 a c (Cn.end_ x p)/\Touch (OfAct K) w w4):=by
   refine ⟨InAct.eq ((HI4.out.less HL.out).wide (by simp;try omega)) ?_,HP.out.trans (HT4.out.loose HL.out) (fun _ _ e=>e)⟩
   unfold Cn.end_;rw [if_neg (by rw [HS.out];decide),if_pos HS.out]
  clear HI4 HT4
  go_wp2
  first
   |(go_end0;exact ⟨rfl,HX.out⟩)
   |exact bodyPost_ret (results_none rfl _ _ _) rfl ⟨rfl,HX.out⟩
 have b2:(st==4)=false:=by simpa using e2
 have E1:=lh e1
 have E2:=lh e2
 clear e1 e2
 go_wp2_with fail
 refine (tell_any HI2.out (by omega) (Cn.sig 3 p.self p.data)).mono ?_
 rintro e w3 ⟨rfl,i3,t3⟩
 have HI3:=lh i3
 have HT3:Hid (Touch (OfAct K1) _ w3):=HT2.out.trans t3 (fun _ _ e=>e)
 clear i3 t3
 clear d0 d1 d2 d3 d4 d5 d6 d7 k0 s2
 go_wp2_with fail
 refine (stop_any HI3.out (by omega) 1).mono ?_
 rintro e w4 ⟨rfl,i4,t4⟩
 have HI4:=lh i4
 have HT4:Hid (Touch (OfAct K1) _ w4):=HT3.out.trans t4 (fun _ _ e=>e)
 clear i4 t4
 have HX:Hid (InAct K (n+2) w4 a c (Cn.end_ x p)/\Touch (OfAct K) w w4):=by
  refine ⟨InAct.eq ((HI4.out.less HL.out).wide (by simp;try omega)) ?_,HP.out.trans (HT4.out.loose HL.out) (fun _ _ e=>e)⟩
  unfold Cn.end_;rw [if_neg (by rw [HS.out];exact E1.out),if_neg (by rw [HS.out];exact E2.out)]
 clear HI4 HT4
 go_wp2
 first
  |(go_end0;exact ⟨rfl,HX.out⟩)
  |exact bodyPost_ret (results_none rfl _ _ _) rfl ⟨rfl,HX.out⟩
theorem resync_any {K:Nat->Prop} {n:Nat} {w:World} {a c:Nat} {x:Cn.SR} (h:InAct K n w a c x) (hn:n<=80) (p:Cn.Pd) :
  Calls Tryz.prog 227 #[.pointer (some ⟨a,0,none⟩),pduV p] w fun e w'=>e=.returned (.tuple #[])/\InAct K (n+2) w' a c (Cn.resync x p)/\Touch (OfAct K) w w':=by
 unfold pduV
 obtain ⟨w1,qw,HF,HB,HI1,HG,HL,HP⟩:=box_pre h p
 obtain ⟨st,hst⟩:=qx x.1.state
 have HS:=lh hst
 obtain ⟨sq,hsq⟩:=qx x.1.sq
 have HSQ:=lh hsq
 obtain ⟨peer,hpe⟩:=qx x.1.peer
 have HPE:=lh hpe
 clear h hst hsq hpe
 go_enter Tryz.func227,Tryz.ntmps227
 go_upto_region 1 with (fail)
 rw [<- qw.out]
 clear qw
 generalize Kept K w w1=K1 at *
 generalize w.heap.size=g at *
 have HT1:Hid (Touch (OfAct K1) w1 w1):=Touch.refl _ _
 obtain ⟨d0,d1,d2,d3,d4,d5,d6,d7⟩:=(HT1.out.keptB HB.out HG.out).a8
 have hh:=HI1.out
 obtain ⟨A1,c1,A2,c2,hh⟩:=hh
 have k0:w1.cell? ⟨a,0,none⟩=some (.pointer (some ⟨c,0,none⟩)):=hh.blk.cell 0
 have s2:w1.cell? ⟨c,2,none⟩=some (.int .i64 st):=by rw [<- HS.out];exact hh.conn.cell 2
 clear hh
 go_wp2_with fail
 refine (heard_any HI1.out (by omega) p).mono ?_
 rintro e w2 ⟨rfl,i2,t2⟩
 have HI2:=lh i2
 have HT2:Hid (Touch (OfAct K1) _ w2):=HT1.out.trans t2 (fun _ _ e=>e)
 clear i2 t2
 clear d0 d1 d2 d3 d4 d5 d6 d7 k0 s2
 obtain ⟨d0,d1,d2,d3,d4,d5,d6,d7⟩:=(HT2.out.keptB HB.out HG.out).a8
 have hh:=HI2.out
 obtain ⟨A1,c1,A2,c2,hh⟩:=hh
 have k0:w2.cell? ⟨a,0,none⟩=some (.pointer (some ⟨c,0,none⟩)):=hh.blk.cell 0
 have s2:w2.cell? ⟨c,2,none⟩=some (.int .i64 st):=by rw [<- HS.out];exact hh.conn.cell 2
 clear hh
 by_cases e1:st=5
 ·subst e1
  go_wp2_with fail
  refine (out_any HI2.out (by omega) (Cn.unit_ 6 p.sq false Cn.no)).mono ?_
  rintro e w3 ⟨rfl,i3,t3⟩
  have HI3:=lh i3
  have HT3:Hid (Touch (OfAct K1) _ w3):=HT2.out.trans t3 (fun _ _ e=>e)
  clear i3 t3
  clear d0 d1 d2 d3 d4 d5 d6 d7 k0 s2
  go_wp2_with fail
  refine (tell_any HI3.out (by omega) (Cn.sig 6 false Cn.no)).mono ?_
  rintro e w4 ⟨rfl,i4,t4⟩
  have HI4:=lh i4
  have HT4:Hid (Touch (OfAct K1) _ w4):=HT3.out.trans t4 (fun _ _ e=>e)
  clear i4 t4
  go_wp2_with fail
  refine (ready_any HI4.out (by omega)).mono ?_
  rintro e w5 ⟨rfl,i5,t5⟩
  have HI5:=lh i5
  have HT5:Hid (Touch (OfAct K1) _ w5):=HT4.out.trans t5 (fun _ _ e=>e)
  clear i5 t5
  have HX:Hid (InAct K (n+2) w5 a c (Cn.resync x p)/\Touch (OfAct K) w w5):=by
   refine ⟨InAct.eq ((HI5.out.less HL.out).wide (by simp;try omega)) ?_,HP.out.trans (HT5.out.loose HL.out) (fun _ _ e=>e)⟩
   unfold Cn.resync;rw [if_pos HS.out]
  clear HI5 HT5
  go_wp2
  first
   |(go_end0;exact ⟨rfl,HX.out⟩)
   |exact bodyPost_ret (results_none rfl _ _ _) rfl ⟨rfl,HX.out⟩
 have b1:(st==5)=false:=by simpa using e1
 by_cases e2:st=6
 ·subst e2
  have HX:Hid (InAct K (n+2) w2 a c (Cn.resync x p)/\Touch (OfAct K) w w2):=by
   refine ⟨InAct.eq ((HI2.out.less HL.out).wide (by simp;try omega)) ?_,HP.out.trans (HT2.out.loose HL.out) (fun _ _ e=>e)⟩
   unfold Cn.resync;rw [if_neg (by rw [HS.out];decide),if_pos HS.out]
  clear HI2 HT2
  go_wp2
  first
   |(go_end0;exact ⟨rfl,HX.out⟩)
   |exact bodyPost_ret (results_none rfl _ _ _) rfl ⟨rfl,HX.out⟩
 have b2:(st==6)=false:=by simpa using e2
 have E1:=lh e1
 have E2:=lh e2
 clear e1 e2
 go_wp2_with fail
 refine (tell_any HI2.out (by omega) (Cn.sig 5 false p.data)).mono ?_
 rintro e w3 ⟨rfl,i3,t3⟩
 have HI3:=lh i3
 have HT3:Hid (Touch (OfAct K1) _ w3):=HT2.out.trans t3 (fun _ _ e=>e)
 clear i3 t3
 clear d0 d1 d2 d3 d4 d5 d6 d7 k0 s2
 go_wp2_with fail
 refine (stop_any HI3.out (by omega) 6).mono ?_
 rintro e w4 ⟨rfl,i4,t4⟩
 have HI4:=lh i4
 have HT4:Hid (Touch (OfAct K1) _ w4):=HT3.out.trans t4 (fun _ _ e=>e)
 clear i4 t4
 have HX:Hid (InAct K (n+2) w4 a c (Cn.resync x p)/\Touch (OfAct K) w w4):=by
  refine ⟨InAct.eq ((HI4.out.less HL.out).wide (by simp;try omega)) ?_,HP.out.trans (HT4.out.loose HL.out) (fun _ _ e=>e)⟩
  unfold Cn.resync;rw [if_neg (by rw [HS.out];exact E1.out),if_neg (by rw [HS.out];exact E2.out)]
 clear HI4 HT4
 go_wp2
 first
  |(go_end0;exact ⟨rfl,HX.out⟩)
  |exact bodyPost_ret (results_none rfl _ _ _) rfl ⟨rfl,HX.out⟩
theorem recover_any {K:Nat->Prop} {n:Nat} {w:World} {a c:Nat} {x:Cn.SR} (h:InAct K n w a c x) (hn:n<=80) (p:Cn.Pd) :
  Calls Tryz.prog 228 #[.pointer (some ⟨a,0,none⟩),pduV p] w fun e w'=>e=.returned (.tuple #[])/\InAct K (n+3) w' a c (Cn.recover x p)/\Touch (OfAct K) w w':=by
 unfold pduV
 obtain ⟨w1,qw,HF,HB,HI1,HG,HL,HP⟩:=box_pre h p
 obtain ⟨st,hst⟩:=qx x.1.state
 have HS:=lh hst
 obtain ⟨sq,hsq⟩:=qx x.1.sq
 have HSQ:=lh hsq
 obtain ⟨peer,hpe⟩:=qx x.1.peer
 have HPE:=lh hpe
 clear h hst hsq hpe
 go_enter Tryz.func228,Tryz.ntmps228
 go_upto_region 1 with (fail)
 rw [<- qw.out]
 clear qw
 generalize Kept K w w1=K1 at *
 generalize w.heap.size=g at *
 have HT1:Hid (Touch (OfAct K1) w1 w1):=Touch.refl _ _
 obtain ⟨d0,d1,d2,d3,d4,d5,d6,d7⟩:=(HT1.out.keptB HB.out HG.out).a8
 have hh:=HI1.out
 obtain ⟨A1,c1,A2,c2,hh⟩:=hh
 have k0:w1.cell? ⟨a,0,none⟩=some (.pointer (some ⟨c,0,none⟩)):=hh.blk.cell 0
 have s2:w1.cell? ⟨c,2,none⟩=some (.int .i64 st):=by rw [<- HS.out];exact hh.conn.cell 2
 clear hh
 go_wp2_with fail
 refine (heard_any HI1.out (by omega) p).mono ?_
 rintro e w2 ⟨rfl,i2,t2⟩
 have HI2:=lh i2
 have HT2:Hid (Touch (OfAct K1) _ w2):=HT1.out.trans t2 (fun _ _ e=>e)
 clear i2 t2
 clear d0 d1 d2 d3 d4 d5 d6 d7 k0 s2
 obtain ⟨d0,d1,d2,d3,d4,d5,d6,d7⟩:=(HT2.out.keptB HB.out HG.out).a8
 have hh:=HI2.out
 obtain ⟨A1,c1,A2,c2,hh⟩:=hh
 have k0:w2.cell? ⟨a,0,none⟩=some (.pointer (some ⟨c,0,none⟩)):=hh.blk.cell 0
 have s2:w2.cell? ⟨c,2,none⟩=some (.int .i64 st):=by rw [<- HS.out];exact hh.conn.cell 2
 clear hh
 go_wp2_with fail
 refine (back_lit HI2.out p 15 [7,8] (by simp;omega)).mono ?_
 rintro e w3 ⟨rfl,i3,t3⟩
 have HI3:=lh i3
 have HT3:Hid (Touch (OfAct K1) _ w3):=HT2.out.trans t3 (fun _ _ e=>e)
 clear i3 t3
 clear d0 d1 d2 d3 d4 d5 d6 d7 k0 s2
 obtain ⟨d0,d1,d2,d3,d4,d5,d6,d7⟩:=(HT3.out.keptB HB.out HG.out).a8
 have hh:=HI3.out
 obtain ⟨A1,c1,A2,c2,hh⟩:=hh
 have k0:w3.cell? ⟨a,0,none⟩=some (.pointer (some ⟨c,0,none⟩)):=hh.blk.cell 0
 clear hh
 have s2:w3.cell? ⟨c,2,none⟩=some (.int .i64 st):=by
  obtain ⟨A1,c1,A2,c2,hh⟩:=HI3.out
  have e:w3.cell? ⟨c,2,none⟩=some (.int .i64 (Cn.backs (Cn.heard x p) p 15 [7,8]).1.state):=hh.conn.cell 2
  rw [Cn.backs_fst] at e
  rw [<- HS.out];exact e
 by_cases e1:st=7
 ·subst e1
  go_wp2_with fail
  refine (tell_any HI3.out (by simp;omega) (Cn.sig 7 false Cn.no)).mono ?_
  rintro e w4 ⟨rfl,i4,t4⟩
  have HI4:=lh i4
  have HT4:Hid (Touch (OfAct K1) _ w4):=HT3.out.trans t4 (fun _ _ e=>e)
  clear i4 t4
  clear d0 d1 d2 d3 d4 d5 d6 d7 k0 s2
  go_wp2_with fail
  refine (stop_any HI4.out (by simp;omega) 8).mono ?_
  rintro e w5 ⟨rfl,i5,t5⟩
  have HI5:=lh i5
  have HT5:Hid (Touch (OfAct K1) _ w5):=HT4.out.trans t5 (fun _ _ e=>e)
  clear i5 t5
  have HX:Hid (InAct K (n+3) w5 a c (Cn.recover x p)/\Touch (OfAct K) w w5):=by
   refine ⟨InAct.eq ((HI5.out.less HL.out).wide (by simp;try omega)) ?_,HP.out.trans (HT5.out.loose HL.out) (fun _ _ e=>e)⟩
   unfold Cn.recover;rw [if_pos HS.out]
  clear HI5 HT5
  go_wp2
  first
   |(go_end0;exact ⟨rfl,HX.out⟩)
   |exact bodyPost_ret (results_none rfl _ _ _) rfl ⟨rfl,HX.out⟩
 have b1:(st==7)=false:=by simpa using e1
 by_cases e2:st=10
 ·subst e2
  go_wp2_with fail
  refine (tell_any HI3.out (by simp;omega) (Cn.sig 7 false Cn.no)).mono ?_
  rintro e w4 ⟨rfl,i4,t4⟩
  have HI4:=lh i4
  have HT4:Hid (Touch (OfAct K1) _ w4):=HT3.out.trans t4 (fun _ _ e=>e)
  clear i4 t4
  clear d0 d1 d2 d3 d4 d5 d6 d7 k0 s2
  go_wp2_with fail
  refine (to_any' HI4.out 9).mono ?_
  rintro e w5 ⟨rfl,i5,t5⟩
  have HI5:=lh i5
  have HT5:Hid (Touch (OfAct K1) _ w5):=HT4.out.trans t5 (fun _ _ e=>e)
  clear i5 t5
  have HX:Hid (InAct K (n+3) w5 a c (Cn.recover x p)/\Touch (OfAct K) w w5):=by
   refine ⟨InAct.eq ((HI5.out.less HL.out).wide (by simp;try omega)) ?_,HP.out.trans (HT5.out.loose HL.out) (fun _ _ e=>e)⟩
   unfold Cn.recover;rw [if_neg (by rw [HS.out];decide),if_pos HS.out]
  clear HI5 HT5
  go_wp2
  first
   |(go_end0;exact ⟨rfl,HX.out⟩)
   |exact bodyPost_ret (results_none rfl _ _ _) rfl ⟨rfl,HX.out⟩
 have b2:(st==10)=false:=by simpa using e2
 have E1:=lh e1
 have E2:=lh e2
 clear e1 e2
 have HX:Hid (InAct K (n+3) w3 a c (Cn.recover x p)/\Touch (OfAct K) w w3):=by
  refine ⟨InAct.eq ((HI3.out.less HL.out).wide (by simp;try omega)) ?_,HP.out.trans (HT3.out.loose HL.out) (fun _ _ e=>e)⟩
  unfold Cn.recover;rw [if_neg (by rw [HS.out];exact E1.out),if_neg (by rw [HS.out];exact E2.out)]
 clear HI3 HT3
 go_wp2
 first
  |(go_end0;exact ⟨rfl,HX.out⟩)
  |exact bodyPost_ret (results_none rfl _ _ _) rfl ⟨rfl,HX.out⟩
theorem newBegin_any {K:Nat->Prop} {n:Nat} {w:World} {a c:Nat} {x:Cn.SR} (h:InAct K n w a c x) (hn:n<=80) (p:Cn.Pd) :
  Calls Tryz.prog 224 #[.pointer (some ⟨a,0,none⟩),pduV p] w fun e w'=>e=.returned (.tuple #[])/\InAct K (n+3) w' a c (Cn.newBegin x p)/\Touch (OfAct K) w w':=by
 unfold pduV
 obtain ⟨w1,qw,HF,HB,HI1,HG,HL,HP⟩:=box_pre h p
 obtain ⟨st,hst⟩:=qx x.1.state
 have HS:=lh hst
 obtain ⟨sq,hsq⟩:=qx x.1.sq
 have HSQ:=lh hsq
 obtain ⟨peer,hpe⟩:=qx x.1.peer
 have HPE:=lh hpe
 clear h hst hsq hpe
 go_enter Tryz.func224,Tryz.ntmps224
 go_upto_region 1 with (fail)
 rw [<- qw.out]
 clear qw
 generalize Kept K w w1=K1 at *
 generalize w.heap.size=g at *
 have HT1:Hid (Touch (OfAct K1) w1 w1):=Touch.refl _ _
 obtain ⟨d0,d1,d2,d3,d4,d5,d6,d7⟩:=(HT1.out.keptB HB.out HG.out).a8
 have hh:=HI1.out
 obtain ⟨A1,c1,A2,c2,hh⟩:=hh
 have k0:w1.cell? ⟨a,0,none⟩=some (.pointer (some ⟨c,0,none⟩)):=hh.blk.cell 0
 have s2:w1.cell? ⟨c,2,none⟩=some (.int .i64 st):=by rw [<- HS.out];exact hh.conn.cell 2
 clear hh
 go_wp2_with fail
 refine (heard_any HI1.out (by omega) p).mono ?_
 rintro e w2 ⟨rfl,i2,t2⟩
 have HI2:=lh i2
 have HT2:Hid (Touch (OfAct K1) _ w2):=HT1.out.trans t2 (fun _ _ e=>e)
 clear i2 t2
 clear d0 d1 d2 d3 d4 d5 d6 d7 k0 s2
 obtain ⟨d0,d1,d2,d3,d4,d5,d6,d7⟩:=(HT2.out.keptB HB.out HG.out).a8
 have hh:=HI2.out
 obtain ⟨A1,c1,A2,c2,hh⟩:=hh
 have k0:w2.cell? ⟨a,0,none⟩=some (.pointer (some ⟨c,0,none⟩)):=hh.blk.cell 0
 have s2:w2.cell? ⟨c,2,none⟩=some (.int .i64 st):=by rw [<- HS.out];exact hh.conn.cell 2
 clear hh
 go_upto_region 3 with (fail)
 have HF2:Hid (Fresh w2 (w2.alloc (.cells #[.int .i64 1,.string p.data,.bool false,.int .u8 0,.int .i64 0] 51))):=(Touch.refl _ _).alloc _
 have HB2:Hid (Blk (w2.alloc (.cells #[.int .i64 1,.string p.data,.bool false,.int .u8 0,.int .i64 0] 51)) w2.heap.size 51 (sigE.enc (Cn.sig 1 false p.data))):=Blk.new _ _ _
 have HI3:=lh (HI2.out.keep HF2.out)
 have HG2:Hid (Kept K1 w2 (w2.alloc (.cells #[.int .i64 1,.string p.data,.bool false,.int .u8 0,.int .i64 0] 51)) w2.heap.size):=.inr ⟨Nat.le_refl _,by simp⟩
 have HGP:Hid (Kept K1 w2 (w2.alloc (.cells #[.int .i64 1,.string p.data,.bool false,.int .u8 0,.int .i64 0] 51)) g):=.inl HG.out
 have HLL:Hid (∀ k,K k->Kept K1 w2 (w2.alloc (.cells #[.int .i64 1,.string p.data,.bool false,.int .u8 0,.int .i64 0] 51)) k):=fun k e=>.inl (HL.out k e)
 have HPP:Hid (Touch (OfAct K) w (w2.alloc (.cells #[.int .i64 1,.string p.data,.bool false,.int .u8 0,.int .i64 0] 51))):=(HP.out.trans (HT2.out.loose HL.out) (fun _ _ e=>e)).trans (HF2.out.mono (fun _ _ e=>e.elim)) (fun _ _ e=>e)
 have HBP:=lh (HF2.out.blk (HT2.out.keptB HB.out HG.out) (fun e=>e))
 clear HF2 HB HG HL HP HI2 HT2
 clear d0 d1 d2 d3 d4 d5 d6 d7 k0 s2
 generalize (w2.alloc (.cells #[.int .i64 1,.string p.data,.bool false,.int .u8 0,.int .i64 0] 51))=w3 at *
 generalize Kept K1 w2 w3=K2 at *
 generalize w2.heap.size=g2 at *
 have HT3:Hid (Touch (OfAct K2) w3 w3):=Touch.refl _ _
 have HB:=HBP
 have HG:=HGP
 have HL:=HLL
 have HP:=HPP
 clear HBP HGP HLL HPP
 obtain ⟨d0,d1,d2,d3,d4,d5,d6,d7⟩:=(HT3.out.keptB HB.out HG.out).a8
 have hh:=HI3.out
 obtain ⟨A1,c1,A2,c2,hh⟩:=hh
 have k0:w3.cell? ⟨a,0,none⟩=some (.pointer (some ⟨c,0,none⟩)):=hh.blk.cell 0
 have s2:w3.cell? ⟨c,2,none⟩=some (.int .i64 st):=by rw [<- HS.out];exact hh.conn.cell 2
 clear hh
 obtain ⟨e0,e1,e2,e3,e4⟩:=(HT3.out.keptB HB2.out HG2.out).a5
 by_cases e'1:st=1
 ·subst e'1
  go_wp2_with fail
  refine (tell_any HI3.out (by omega) (Cn.sig 1 false p.data)).mono ?_
  rintro e w4 ⟨rfl,i4,t4⟩
  have HI4:=lh i4
  have HT4:Hid (Touch (OfAct K2) _ w4):=HT3.out.trans t4 (fun _ _ e=>e)
  clear i4 t4
  clear d0 d1 d2 d3 d4 d5 d6 d7 k0 s2 e0 e1 e2 e3 e4
  go_wp2_with fail
  refine (to_any' HI4.out 3).mono ?_
  rintro e w5 ⟨rfl,i5,t5⟩
  have HI5:=lh i5
  have HT5:Hid (Touch (OfAct K2) _ w5):=HT4.out.trans t5 (fun _ _ e=>e)
  clear i5 t5
  have HX:Hid (InAct K (n+3) w5 a c (Cn.newBegin x p)/\Touch (OfAct K) w w5):=by
   refine ⟨InAct.eq ((HI5.out.less HL.out).wide (by simp;try omega)) ?_,HP.out.trans (HT5.out.loose HL.out) (fun _ _ e=>e)⟩
   unfold Cn.newBegin;simp only [];rw [if_pos HS.out]
  clear HI5 HT5
  go_wp2
  first
   |(go_end0;exact ⟨rfl,HX.out⟩)
   |exact bodyPost_ret (results_none rfl _ _ _) rfl ⟨rfl,HX.out⟩
 have b1:(st==1)=false:=by simpa using e'1
 by_cases e'2:st=2
 ·subst e'2
  go_wp2_with fail
  refine (back_lit HI3.out p 2 [2] (by simp;omega)).mono ?_
  rintro e w4 ⟨rfl,i4,t4⟩
  have HI4:=lh i4
  have HT4:Hid (Touch (OfAct K2) _ w4):=HT3.out.trans t4 (fun _ _ e=>e)
  clear i4 t4
  clear d0 d1 d2 d3 d4 d5 d6 d7 k0 s2 e0 e1 e2 e3 e4
  go_wp2_with fail
  refine (tell_any HI4.out (by simp;omega) (Cn.sig 2 false Cn.no)).mono ?_
  rintro e w5 ⟨rfl,i5,t5⟩
  have HI5:=lh i5
  have HT5:Hid (Touch (OfAct K2) _ w5):=HT4.out.trans t5 (fun _ _ e=>e)
  clear i5 t5
  go_wp2_with fail
  refine (ready_any HI5.out (by simp;omega)).mono ?_
  rintro e w6 ⟨rfl,i6,t6⟩
  have HI6:=lh i6
  have HT6:Hid (Touch (OfAct K2) _ w6):=HT5.out.trans t6 (fun _ _ e=>e)
  clear i6 t6
  have HX:Hid (InAct K (n+3) w6 a c (Cn.newBegin x p)/\Touch (OfAct K) w w6):=by
   refine ⟨InAct.eq ((HI6.out.less HL.out).wide (by simp;try omega)) ?_,HP.out.trans (HT6.out.loose HL.out) (fun _ _ e=>e)⟩
   unfold Cn.newBegin;simp only [];rw [if_neg (by rw [HS.out];decide),if_pos HS.out]
  clear HI6 HT6
  go_wp2
  first
   |(go_end0;exact ⟨rfl,HX.out⟩)
   |exact bodyPost_ret (results_none rfl _ _ _) rfl ⟨rfl,HX.out⟩
 have b2:(st==2)=false:=by simpa using e'2
 by_cases e'4:st=4
 ·subst e'4
  go_wp2_with fail
  refine (tell_any HI3.out (by omega) (Cn.sig 4 false Cn.no)).mono ?_
  rintro e w4 ⟨rfl,i4,t4⟩
  have HI4:=lh i4
  have HT4:Hid (Touch (OfAct K2) _ w4):=HT3.out.trans t4 (fun _ _ e=>e)
  clear i4 t4
  clear d0 d1 d2 d3 d4 d5 d6 d7 k0 s2 e0 e1 e2 e3 e4
  obtain ⟨d0,d1,d2,d3,d4,d5,d6,d7⟩:=(HT4.out.keptB HB.out HG.out).a8
  have hh:=HI4.out
  obtain ⟨A1,c1,A2,c2,hh⟩:=hh
  have k0:w4.cell? ⟨a,0,none⟩=some (.pointer (some ⟨c,0,none⟩)):=hh.blk.cell 0
  clear hh
  obtain ⟨e0,e1,e2,e3,e4⟩:=(HT4.out.keptB HB2.out HG2.out).a5
  go_wp2_with fail
  refine (tell_any HI4.out (by omega) (Cn.sig 1 false p.data)).mono ?_
  rintro e w5 ⟨rfl,i5,t5⟩
  have HI5:=lh i5
  have HT5:Hid (Touch (OfAct K2) _ w5):=HT4.out.trans t5 (fun _ _ e=>e)
  clear i5 t5
  clear d0 d1 d2 d3 d4 d5 d6 d7 k0 e0 e1 e2 e3 e4
  go_wp2_with fail
  refine (stop_any HI5.out (by omega) 3).mono ?_
  rintro e w6 ⟨rfl,i6,t6⟩
  have HI6:=lh i6
  have HT6:Hid (Touch (OfAct K2) _ w6):=HT5.out.trans t6 (fun _ _ e=>e)
  clear i6 t6
  have HX:Hid (InAct K (n+3) w6 a c (Cn.newBegin x p)/\Touch (OfAct K) w w6):=by
   refine ⟨InAct.eq ((HI6.out.less HL.out).wide (by simp;try omega)) ?_,HP.out.trans (HT6.out.loose HL.out) (fun _ _ e=>e)⟩
   unfold Cn.newBegin;simp only [];rw [if_neg (by rw [HS.out];decide),if_neg (by rw [HS.out];decide),if_pos HS.out]
  clear HI6 HT6
  go_wp2
  first
   |(go_end0;exact ⟨rfl,HX.out⟩)
   |exact bodyPost_ret (results_none rfl _ _ _) rfl ⟨rfl,HX.out⟩
 have b4:(st==4)=false:=by simpa using e'4
 have E1:=lh e'1
 have E2:=lh e'2
 have E4:=lh e'4
 clear e'1 e'2 e'4
 go_wp2_with fail
 refine (tell_any HI3.out (by omega) (Cn.sig 3 false Cn.no)).mono ?_
 rintro e w4 ⟨rfl,i4,t4⟩
 have HI4:=lh i4
 have HT4:Hid (Touch (OfAct K2) _ w4):=HT3.out.trans t4 (fun _ _ e=>e)
 clear i4 t4
 clear d0 d1 d2 d3 d4 d5 d6 d7 k0 s2 e0 e1 e2 e3 e4
 obtain ⟨d0,d1,d2,d3,d4,d5,d6,d7⟩:=(HT4.out.keptB HB.out HG.out).a8
 have hh:=HI4.out
 obtain ⟨A1,c1,A2,c2,hh⟩:=hh
 have k0:w4.cell? ⟨a,0,none⟩=some (.pointer (some ⟨c,0,none⟩)):=hh.blk.cell 0
 have s2:w4.cell? ⟨c,2,none⟩=some (.int .i64 st):=by rw [<- HS.out];exact hh.conn.cell 2
 clear hh
 obtain ⟨e0,e1,e2,e3,e4⟩:=(HT4.out.keptB HB2.out HG2.out).a5
 go_wp2_with fail
 refine (tell_any HI4.out (by omega) (Cn.sig 1 false p.data)).mono ?_
 rintro e w5 ⟨rfl,i5,t5⟩
 have HI5:=lh i5
 have HT5:Hid (Touch (OfAct K2) _ w5):=HT4.out.trans t5 (fun _ _ e=>e)
 clear i5 t5
 clear d0 d1 d2 d3 d4 d5 d6 d7 k0 s2 e0 e1 e2 e3 e4
 go_wp2_with fail
 refine (stop_any HI5.out (by omega) 3).mono ?_
 rintro e w6 ⟨rfl,i6,t6⟩
 have HI6:=lh i6
 have HT6:Hid (Touch (OfAct K2) _ w6):=HT5.out.trans t6 (fun _ _ e=>e)
 clear i6 t6
 have HX:Hid (InAct K (n+3) w6 a c (Cn.newBegin x p)/\Touch (OfAct K) w w6):=by
  refine ⟨InAct.eq ((HI6.out.less HL.out).wide (by simp;try omega)) ?_,HP.out.trans (HT6.out.loose HL.out) (fun _ _ e=>e)⟩
  unfold Cn.newBegin;simp only [];rw [if_neg (by rw [HS.out];exact E1.out),if_neg (by rw [HS.out];exact E2.out),if_neg (by rw [HS.out];exact E4.out)]
 clear HI6 HT6
 go_wp2
 first
  |(go_end0;exact ⟨rfl,HX.out⟩)
  |exact bodyPost_ret (results_none rfl _ _ _) rfl ⟨rfl,HX.out⟩
theorem answer_any {K:Nat->Prop} {n:Nat} {w:World} {a c:Nat} {x:Cn.SR} (h:InAct K n w a c x) (hn:n<=80) (p:Cn.Pd) :
  Calls Tryz.prog 229 #[.pointer (some ⟨a,0,none⟩),pduV p] w fun e w'=>e=.returned (.tuple #[])/\InAct K (n+1) w' a c (Cn.answer x p)/\Touch (OfAct K) w w':=by
 unfold pduV
 obtain ⟨w1,qw,HF,HB,HI1,HG,HL,HP⟩:=box_pre h p
 obtain ⟨st,hst⟩:=qx x.1.state
 have HS:=lh hst
 obtain ⟨sq,hsq⟩:=qx x.1.sq
 have HSQ:=lh hsq
 obtain ⟨peer,hpe⟩:=qx x.1.peer
 have HPE:=lh hpe
 clear h hst hsq hpe
 go_enter Tryz.func229,Tryz.ntmps229
 go_upto_region 1 with (fail)
 rw [<- qw.out]
 clear qw
 generalize Kept K w w1=K1 at *
 generalize w.heap.size=g at *
 have HT1:Hid (Touch (OfAct K1) w1 w1):=Touch.refl _ _
 obtain ⟨k,hk⟩:=qx p.kind
 have HKD:=lh hk
 have hb:=HT1.out.keptB HB.out HG.out
 have d0:w1.cell? ⟨g,0,none⟩=some (.int .i64 p.kind):=hb.cell 0
 have d2:w1.cell? ⟨g,2,none⟩=some (.int .u32 p.n):=hb.cell 2
 have d7:w1.cell? ⟨g,7,none⟩=some (.string p.data):=hb.cell 7
 clear hb
 have hh:=HI1.out
 obtain ⟨A1,c1,A2,c2,hh⟩:=hh
 have k0:w1.cell? ⟨a,0,none⟩=some (.pointer (some ⟨c,0,none⟩)):=hh.blk.cell 0
 have s2:w1.cell? ⟨c,2,none⟩=some (.int .i64 st):=by rw [<- HS.out];exact hh.conn.cell 2
 have s6:w1.cell? ⟨c,6,none⟩=some (.int .u32 x.1.ms):=hh.conn.cell 6
 clear hh
 have fs6:w1.frozen? ⟨c,6,none⟩=false:=by obtain ⟨A1,c1,A2,c2,hh⟩:=HI1.out;exact Blk.frozen hh.conn 6
 have hne:¬ a=c:=by obtain ⟨A1,c1,A2,c2,hh⟩:=HI1.out;exact fun e=>hh.ne e.symm
 have hne2:¬ c=a:=by obtain ⟨A1,c1,A2,c2,hh⟩:=HI1.out;exact hh.ne
 rw [hk] at d0
 have HSM:Hid (InAct K1 n (w1.setCell ⟨c,6,none⟩ (.int .u32 p.n)).drew a c (Cn.setMs x p)/\Touch (OfAct K1) w1 (w1.setCell ⟨c,6,none⟩ (.int .u32 p.n)).drew):=by
  obtain ⟨A1,c1,A2,c2,hh⟩:=HI1.out
  exact InAct.done ⟨⟨_,_,_,_,hh.conn1 (s:={ x.1 with ms:=p.n }) 6 (.int .u32 p.n) rfl ⟨hh.ok.sq0,hh.ok.sq1,hh.ok.cc0,hh.ok.cc1,hh.ok.most0,hh.ok.most1⟩⟩,(Touch.refl _ _).st hh.nc⟩
 clear hk
 by_cases e1:k=2
 ·subst e1
  go_wp2
  go_region
  generalize (w1.setCell ⟨c,6,none⟩ (.int .u32 p.n)).drew=w2 at *
  have HI2:=lh HSM.out.1
  have HT2:=lh HSM.out.2
  clear d0 d2 d7 k0 s2 s6 fs6 HSM HI1 HT1
  go_wp2_with fail
  refine (tell_any HI2.out (by omega) (Cn.sig 2 false Cn.no)).mono ?_
  rintro e w3 ⟨rfl,i3,t3⟩
  have HI3:=lh i3
  have HT3:Hid (Touch (OfAct K1) _ w3):=HT2.out.trans t3 (fun _ _ e=>e)
  clear i3 t3
  go_wp2_with fail
  refine (ready_any HI3.out (by omega)).mono ?_
  rintro e w4 ⟨rfl,i4,t4⟩
  have HI4:=lh i4
  have HT4:Hid (Touch (OfAct K1) _ w4):=HT3.out.trans t4 (fun _ _ e=>e)
  clear i4 t4
  have HX:Hid (InAct K (n+1) w4 a c (Cn.answer x p)/\Touch (OfAct K) w w4):=by
   refine ⟨InAct.eq ((HI4.out.less HL.out).wide (by simp;try omega)) ?_,HP.out.trans (HT4.out.loose HL.out) (fun _ _ e=>e)⟩
   unfold Cn.answer;rw [if_pos HKD.out]
  clear HI4 HT4
  go_wp2
  first
   |(go_end0;exact ⟨rfl,HX.out⟩)
   |exact bodyPost_ret (results_none rfl _ _ _) rfl ⟨rfl,HX.out⟩
 have b1:(k==2)=false:=by simpa using e1
 by_cases e2:k=6
 ·subst e2
  go_wp2
  go_region
  generalize (w1.setCell ⟨c,6,none⟩ (.int .u32 p.n)).drew=w2 at *
  have HI2:=lh HSM.out.1
  have HT2:=lh HSM.out.2
  clear d0 d2 d7 k0 s2 s6 fs6 HSM HI1 HT1
  go_wp2_with fail
  refine (tell_any HI2.out (by omega) (Cn.sig 6 false Cn.no)).mono ?_
  rintro e w3 ⟨rfl,i3,t3⟩
  have HI3:=lh i3
  have HT3:Hid (Touch (OfAct K1) _ w3):=HT2.out.trans t3 (fun _ _ e=>e)
  clear i3 t3
  go_wp2_with fail
  refine (ready_any HI3.out (by omega)).mono ?_
  rintro e w4 ⟨rfl,i4,t4⟩
  have HI4:=lh i4
  have HT4:Hid (Touch (OfAct K1) _ w4):=HT3.out.trans t4 (fun _ _ e=>e)
  clear i4 t4
  have HX:Hid (InAct K (n+1) w4 a c (Cn.answer x p)/\Touch (OfAct K) w w4):=by
   refine ⟨InAct.eq ((HI4.out.less HL.out).wide (by simp;try omega)) ?_,HP.out.trans (HT4.out.loose HL.out) (fun _ _ e=>e)⟩
   unfold Cn.answer;rw [if_neg (by rw [HKD.out];decide),if_pos HKD.out]
  clear HI4 HT4
  go_wp2
  first
   |(go_end0;exact ⟨rfl,HX.out⟩)
   |exact bodyPost_ret (results_none rfl _ _ _) rfl ⟨rfl,HX.out⟩
 have b2:(k==6)=false:=by simpa using e2
 by_cases e3:k=15
 ·subst e3
  go_wp2
  go_region
  generalize (w1.setCell ⟨c,6,none⟩ (.int .u32 p.n)).drew=w2 at *
  have HI2:=lh HSM.out.1
  have HT2:=lh HSM.out.2
  clear d0 d2 d7 k0 s2 s6 fs6 HSM HI1 HT1
  go_wp2_with fail
  refine (tell_any HI2.out (by omega) (Cn.sig 7 false Cn.no)).mono ?_
  rintro e w3 ⟨rfl,i3,t3⟩
  have HI3:=lh i3
  have HT3:Hid (Touch (OfAct K1) _ w3):=HT2.out.trans t3 (fun _ _ e=>e)
  clear i3 t3
  go_wp2_with fail
  refine (stop_any HI3.out (by omega) 8).mono ?_
  rintro e w4 ⟨rfl,i4,t4⟩
  have HI4:=lh i4
  have HT4:Hid (Touch (OfAct K1) _ w4):=HT3.out.trans t4 (fun _ _ e=>e)
  clear i4 t4
  have HX:Hid (InAct K (n+1) w4 a c (Cn.answer x p)/\Touch (OfAct K) w w4):=by
   refine ⟨InAct.eq ((HI4.out.less HL.out).wide (by simp;try omega)) ?_,HP.out.trans (HT4.out.loose HL.out) (fun _ _ e=>e)⟩
   unfold Cn.answer;rw [if_neg (by rw [HKD.out];decide),if_neg (by rw [HKD.out];decide),if_pos HKD.out]
  clear HI4 HT4
  go_wp2
  first
   |(go_end0;exact ⟨rfl,HX.out⟩)
   |exact bodyPost_ret (results_none rfl _ _ _) rfl ⟨rfl,HX.out⟩
 have b3:(k==15)=false:=by simpa using e3
 by_cases e4:k=7\/k=4
 ·have HO:Hid (p.kind=7\/p.kind=4):=by unfold Hid;rw [HKD.out];exact e4
  have HD2:Hid (¬ p.kind=2/\¬ p.kind=6/\¬ p.kind=15):=by unfold Hid;rw [HKD.out];exact ⟨e1,e2,e3⟩
  rcases e4 with e4 | e4
  ·subst e4
   have k0a:∀ o,(w1.alloc o).cell? ⟨a,0,none⟩=some (.pointer (some ⟨c,0,none⟩)):=fun o=>by obtain ⟨A1,c1,A2,c2,hh⟩:=HI1.out;exact (hh.blk.alloc o).cell 0
   have s2a:∀ o,(w1.alloc o).cell? ⟨c,2,none⟩=some (.int .i64 st):=fun o=>by obtain ⟨A1,c1,A2,c2,hh⟩:=HI1.out;rw [<- HS.out];exact Blk.cell (Blk.alloc hh.conn o) 2
   have d7a:∀ o,(w1.alloc o).cell? ⟨g,7,none⟩=some (.string p.data):=fun o=>((HT1.out.keptB HB.out HG.out).alloc o).cell 7
   by_cases es:st=2
   ·subst es
    go_upto_region 19 with (fail)
    have HF2:Hid (Fresh w1 (w1.alloc (.cells #[.int .i64 3,.string p.data,.bool false,.int .u8 0,.int .i64 0] 51))):=(Touch.refl _ _).alloc _
    have HB2:Hid (Blk (w1.alloc (.cells #[.int .i64 3,.string p.data,.bool false,.int .u8 0,.int .i64 0] 51)) w1.heap.size 51 (sigE.enc (Cn.sig 3 false p.data))):=Blk.new _ _ _
    have HI2:=lh (HI1.out.keep HF2.out)
    have HG2:Hid (Kept K1 w1 (w1.alloc (.cells #[.int .i64 3,.string p.data,.bool false,.int .u8 0,.int .i64 0] 51)) w1.heap.size):=.inr ⟨Nat.le_refl _,by simp⟩
    have HGP:Hid (Kept K1 w1 (w1.alloc (.cells #[.int .i64 3,.string p.data,.bool false,.int .u8 0,.int .i64 0] 51)) g):=.inl HG.out
    have HLL:Hid (∀ k,K k->Kept K1 w1 (w1.alloc (.cells #[.int .i64 3,.string p.data,.bool false,.int .u8 0,.int .i64 0] 51)) k):=fun k e=>.inl (HL.out k e)
    have HPP:Hid (Touch (OfAct K) w (w1.alloc (.cells #[.int .i64 3,.string p.data,.bool false,.int .u8 0,.int .i64 0] 51))):=(HP.out.trans (HT1.out.loose HL.out) (fun _ _ e=>e)).trans (HF2.out.mono (fun _ _ e=>e.elim)) (fun _ _ e=>e)
    have HBP:=lh (HF2.out.blk (HT1.out.keptB HB.out HG.out) (fun e=>e))
    clear HF2 HB HG HL HP HI1 HT1
    clear d0 d2 d7 k0 s2 s6 fs6 k0a s2a d7a
    generalize (w1.alloc (.cells #[.int .i64 3,.string p.data,.bool false,.int .u8 0,.int .i64 0] 51))=w2 at *
    generalize Kept K1 w1 w2=K2 at *
    generalize w1.heap.size=g2 at *
    have HT2:Hid (Touch (OfAct K2) w2 w2):=Touch.refl _ _
    have HB:=HBP
    have HG:=HGP
    have HL:=HLL
    have HP:=HPP
    clear HBP HGP HLL HPP
    have hh:=HI2.out
    obtain ⟨A1,c1,A2,c2,hh⟩:=hh
    have k0:w2.cell? ⟨a,0,none⟩=some (.pointer (some ⟨c,0,none⟩)):=hh.blk.cell 0
    clear hh
    obtain ⟨e0,e1,e2,e3,e4⟩:=(HT2.out.keptB HB2.out HG2.out).a5
    go_wp2_with fail
    refine (tell_any HI2.out (by omega) (Cn.sig 3 false p.data)).mono ?_
    rintro e w3 ⟨rfl,i3,t3⟩
    have HI3:=lh i3
    have HT3:Hid (Touch (OfAct K2) _ w3):=HT2.out.trans t3 (fun _ _ e=>e)
    clear i3 t3
    clear k0 e0 e1 e2 e3 e4
    go_wp2_with fail
    refine (stop_any HI3.out (by omega) 1).mono ?_
    rintro e w4 ⟨rfl,i4,t4⟩
    have HI4:=lh i4
    have HT4:Hid (Touch (OfAct K2) _ w4):=HT3.out.trans t4 (fun _ _ e=>e)
    clear i4 t4
    have HX:Hid (InAct K (n+1) w4 a c (Cn.answer x p)/\Touch (OfAct K) w w4):=by
     refine ⟨InAct.eq ((HI4.out.less HL.out).wide (by simp;try omega)) ?_,HP.out.trans (HT4.out.loose HL.out) (fun _ _ e=>e)⟩
     unfold Cn.answer;rw [if_neg HD2.out.1,if_neg HD2.out.2.1,if_neg HD2.out.2.2,if_pos HO.out,if_pos HS.out]
    clear HI4 HT4
    go_wp2
    first
     |(go_end0;exact ⟨rfl,HX.out⟩)
     |exact bodyPost_ret (results_none rfl _ _ _) rfl ⟨rfl,HX.out⟩
   have bs:(st==2)=false:=by simpa using es
   have ES:=lh es
   clear es
   go_upto_region 19 with (fail)
   have HF2:Hid (Fresh w1 (w1.alloc (.cells #[.int .i64 4,.string { data:=#[] },.bool false,.int .u8 0,.int .i64 0] 51))):=(Touch.refl _ _).alloc _
   have HB2:Hid (Blk (w1.alloc (.cells #[.int .i64 4,.string { data:=#[] },.bool false,.int .u8 0,.int .i64 0] 51)) w1.heap.size 51 (sigE.enc (Cn.sig 4 false Cn.no))):=Blk.new _ _ _
   have HI2:=lh (HI1.out.keep HF2.out)
   have HG2:Hid (Kept K1 w1 (w1.alloc (.cells #[.int .i64 4,.string { data:=#[] },.bool false,.int .u8 0,.int .i64 0] 51)) w1.heap.size):=.inr ⟨Nat.le_refl _,by simp⟩
   have HGP:Hid (Kept K1 w1 (w1.alloc (.cells #[.int .i64 4,.string { data:=#[] },.bool false,.int .u8 0,.int .i64 0] 51)) g):=.inl HG.out
   have HLL:Hid (∀ k,K k->Kept K1 w1 (w1.alloc (.cells #[.int .i64 4,.string { data:=#[] },.bool false,.int .u8 0,.int .i64 0] 51)) k):=fun k e=>.inl (HL.out k e)
   have HPP:Hid (Touch (OfAct K) w (w1.alloc (.cells #[.int .i64 4,.string { data:=#[] },.bool false,.int .u8 0,.int .i64 0] 51))):=(HP.out.trans (HT1.out.loose HL.out) (fun _ _ e=>e)).trans (HF2.out.mono (fun _ _ e=>e.elim)) (fun _ _ e=>e)
   have HBP:=lh (HF2.out.blk (HT1.out.keptB HB.out HG.out) (fun e=>e))
   clear HF2 HB HG HL HP HI1 HT1
   clear d0 d2 d7 k0 s2 s6 fs6 k0a s2a d7a
   generalize (w1.alloc (.cells #[.int .i64 4,.string { data:=#[] },.bool false,.int .u8 0,.int .i64 0] 51))=w2 at *
   generalize Kept K1 w1 w2=K2 at *
   generalize w1.heap.size=g2 at *
   have HT2:Hid (Touch (OfAct K2) w2 w2):=Touch.refl _ _
   have HB:=HBP
   have HG:=HGP
   have HL:=HLL
   have HP:=HPP
   clear HBP HGP HLL HPP
   have hh:=HI2.out
   obtain ⟨A1,c1,A2,c2,hh⟩:=hh
   have k0:w2.cell? ⟨a,0,none⟩=some (.pointer (some ⟨c,0,none⟩)):=hh.blk.cell 0
   clear hh
   obtain ⟨e0,e1,e2,e3,e4⟩:=(HT2.out.keptB HB2.out HG2.out).a5
   go_wp2_with fail
   refine (tell_any HI2.out (by omega) (Cn.sig 4 false Cn.no)).mono ?_
   rintro e w3 ⟨rfl,i3,t3⟩
   have HI3:=lh i3
   have HT3:Hid (Touch (OfAct K2) _ w3):=HT2.out.trans t3 (fun _ _ e=>e)
   clear i3 t3
   clear k0 e0 e1 e2 e3 e4
   go_wp2_with fail
   refine (stop_any HI3.out (by omega) 1).mono ?_
   rintro e w4 ⟨rfl,i4,t4⟩
   have HI4:=lh i4
   have HT4:Hid (Touch (OfAct K2) _ w4):=HT3.out.trans t4 (fun _ _ e=>e)
   clear i4 t4
   have HX:Hid (InAct K (n+1) w4 a c (Cn.answer x p)/\Touch (OfAct K) w w4):=by
    refine ⟨InAct.eq ((HI4.out.less HL.out).wide (by simp;try omega)) ?_,HP.out.trans (HT4.out.loose HL.out) (fun _ _ e=>e)⟩
    unfold Cn.answer;rw [if_neg HD2.out.1,if_neg HD2.out.2.1,if_neg HD2.out.2.2,if_pos HO.out,if_neg (by rw [HS.out];exact ES.out)]
   clear HI4 HT4
   go_wp2
   first
    |(go_end0;exact ⟨rfl,HX.out⟩)
    |exact bodyPost_ret (results_none rfl _ _ _) rfl ⟨rfl,HX.out⟩
  ·subst e4
   have k0a:∀ o,(w1.alloc o).cell? ⟨a,0,none⟩=some (.pointer (some ⟨c,0,none⟩)):=fun o=>by obtain ⟨A1,c1,A2,c2,hh⟩:=HI1.out;exact (hh.blk.alloc o).cell 0
   have s2a:∀ o,(w1.alloc o).cell? ⟨c,2,none⟩=some (.int .i64 st):=fun o=>by obtain ⟨A1,c1,A2,c2,hh⟩:=HI1.out;rw [<- HS.out];exact Blk.cell (Blk.alloc hh.conn o) 2
   have d7a:∀ o,(w1.alloc o).cell? ⟨g,7,none⟩=some (.string p.data):=fun o=>((HT1.out.keptB HB.out HG.out).alloc o).cell 7
   by_cases es:st=2
   ·subst es
    go_upto_region 19 with (fail)
    have HF2:Hid (Fresh w1 (w1.alloc (.cells #[.int .i64 3,.string p.data,.bool false,.int .u8 0,.int .i64 0] 51))):=(Touch.refl _ _).alloc _
    have HB2:Hid (Blk (w1.alloc (.cells #[.int .i64 3,.string p.data,.bool false,.int .u8 0,.int .i64 0] 51)) w1.heap.size 51 (sigE.enc (Cn.sig 3 false p.data))):=Blk.new _ _ _
    have HI2:=lh (HI1.out.keep HF2.out)
    have HG2:Hid (Kept K1 w1 (w1.alloc (.cells #[.int .i64 3,.string p.data,.bool false,.int .u8 0,.int .i64 0] 51)) w1.heap.size):=.inr ⟨Nat.le_refl _,by simp⟩
    have HGP:Hid (Kept K1 w1 (w1.alloc (.cells #[.int .i64 3,.string p.data,.bool false,.int .u8 0,.int .i64 0] 51)) g):=.inl HG.out
    have HLL:Hid (∀ k,K k->Kept K1 w1 (w1.alloc (.cells #[.int .i64 3,.string p.data,.bool false,.int .u8 0,.int .i64 0] 51)) k):=fun k e=>.inl (HL.out k e)
    have HPP:Hid (Touch (OfAct K) w (w1.alloc (.cells #[.int .i64 3,.string p.data,.bool false,.int .u8 0,.int .i64 0] 51))):=(HP.out.trans (HT1.out.loose HL.out) (fun _ _ e=>e)).trans (HF2.out.mono (fun _ _ e=>e.elim)) (fun _ _ e=>e)
    have HBP:=lh (HF2.out.blk (HT1.out.keptB HB.out HG.out) (fun e=>e))
    clear HF2 HB HG HL HP HI1 HT1
    clear d0 d2 d7 k0 s2 s6 fs6 k0a s2a d7a
    generalize (w1.alloc (.cells #[.int .i64 3,.string p.data,.bool false,.int .u8 0,.int .i64 0] 51))=w2 at *
    generalize Kept K1 w1 w2=K2 at *
    generalize w1.heap.size=g2 at *
    have HT2:Hid (Touch (OfAct K2) w2 w2):=Touch.refl _ _
    have HB:=HBP
    have HG:=HGP
    have HL:=HLL
    have HP:=HPP
    clear HBP HGP HLL HPP
    have hh:=HI2.out
    obtain ⟨A1,c1,A2,c2,hh⟩:=hh
    have k0:w2.cell? ⟨a,0,none⟩=some (.pointer (some ⟨c,0,none⟩)):=hh.blk.cell 0
    clear hh
    obtain ⟨e0,e1,e2,e3,e4⟩:=(HT2.out.keptB HB2.out HG2.out).a5
    go_wp2_with fail
    refine (tell_any HI2.out (by omega) (Cn.sig 3 false p.data)).mono ?_
    rintro e w3 ⟨rfl,i3,t3⟩
    have HI3:=lh i3
    have HT3:Hid (Touch (OfAct K2) _ w3):=HT2.out.trans t3 (fun _ _ e=>e)
    clear i3 t3
    clear k0 e0 e1 e2 e3 e4
    go_wp2_with fail
    refine (stop_any HI3.out (by omega) 1).mono ?_
    rintro e w4 ⟨rfl,i4,t4⟩
    have HI4:=lh i4
    have HT4:Hid (Touch (OfAct K2) _ w4):=HT3.out.trans t4 (fun _ _ e=>e)
    clear i4 t4
    have HX:Hid (InAct K (n+1) w4 a c (Cn.answer x p)/\Touch (OfAct K) w w4):=by
     refine ⟨InAct.eq ((HI4.out.less HL.out).wide (by simp;try omega)) ?_,HP.out.trans (HT4.out.loose HL.out) (fun _ _ e=>e)⟩
     unfold Cn.answer;rw [if_neg HD2.out.1,if_neg HD2.out.2.1,if_neg HD2.out.2.2,if_pos HO.out,if_pos HS.out]
    clear HI4 HT4
    go_wp2
    first
     |(go_end0;exact ⟨rfl,HX.out⟩)
     |exact bodyPost_ret (results_none rfl _ _ _) rfl ⟨rfl,HX.out⟩
   have bs:(st==2)=false:=by simpa using es
   have ES:=lh es
   clear es
   go_upto_region 19 with (fail)
   have HF2:Hid (Fresh w1 (w1.alloc (.cells #[.int .i64 4,.string { data:=#[] },.bool false,.int .u8 0,.int .i64 0] 51))):=(Touch.refl _ _).alloc _
   have HB2:Hid (Blk (w1.alloc (.cells #[.int .i64 4,.string { data:=#[] },.bool false,.int .u8 0,.int .i64 0] 51)) w1.heap.size 51 (sigE.enc (Cn.sig 4 false Cn.no))):=Blk.new _ _ _
   have HI2:=lh (HI1.out.keep HF2.out)
   have HG2:Hid (Kept K1 w1 (w1.alloc (.cells #[.int .i64 4,.string { data:=#[] },.bool false,.int .u8 0,.int .i64 0] 51)) w1.heap.size):=.inr ⟨Nat.le_refl _,by simp⟩
   have HGP:Hid (Kept K1 w1 (w1.alloc (.cells #[.int .i64 4,.string { data:=#[] },.bool false,.int .u8 0,.int .i64 0] 51)) g):=.inl HG.out
   have HLL:Hid (∀ k,K k->Kept K1 w1 (w1.alloc (.cells #[.int .i64 4,.string { data:=#[] },.bool false,.int .u8 0,.int .i64 0] 51)) k):=fun k e=>.inl (HL.out k e)
   have HPP:Hid (Touch (OfAct K) w (w1.alloc (.cells #[.int .i64 4,.string { data:=#[] },.bool false,.int .u8 0,.int .i64 0] 51))):=(HP.out.trans (HT1.out.loose HL.out) (fun _ _ e=>e)).trans (HF2.out.mono (fun _ _ e=>e.elim)) (fun _ _ e=>e)
   have HBP:=lh (HF2.out.blk (HT1.out.keptB HB.out HG.out) (fun e=>e))
   clear HF2 HB HG HL HP HI1 HT1
   clear d0 d2 d7 k0 s2 s6 fs6 k0a s2a d7a
   generalize (w1.alloc (.cells #[.int .i64 4,.string { data:=#[] },.bool false,.int .u8 0,.int .i64 0] 51))=w2 at *
   generalize Kept K1 w1 w2=K2 at *
   generalize w1.heap.size=g2 at *
   have HT2:Hid (Touch (OfAct K2) w2 w2):=Touch.refl _ _
   have HB:=HBP
   have HG:=HGP
   have HL:=HLL
   have HP:=HPP
   clear HBP HGP HLL HPP
   have hh:=HI2.out
   obtain ⟨A1,c1,A2,c2,hh⟩:=hh
   have k0:w2.cell? ⟨a,0,none⟩=some (.pointer (some ⟨c,0,none⟩)):=hh.blk.cell 0
   clear hh
   obtain ⟨e0,e1,e2,e3,e4⟩:=(HT2.out.keptB HB2.out HG2.out).a5
   go_wp2_with fail
   refine (tell_any HI2.out (by omega) (Cn.sig 4 false Cn.no)).mono ?_
   rintro e w3 ⟨rfl,i3,t3⟩
   have HI3:=lh i3
   have HT3:Hid (Touch (OfAct K2) _ w3):=HT2.out.trans t3 (fun _ _ e=>e)
   clear i3 t3
   clear k0 e0 e1 e2 e3 e4
   go_wp2_with fail
   refine (stop_any HI3.out (by omega) 1).mono ?_
   rintro e w4 ⟨rfl,i4,t4⟩
   have HI4:=lh i4
   have HT4:Hid (Touch (OfAct K2) _ w4):=HT3.out.trans t4 (fun _ _ e=>e)
   clear i4 t4
   have HX:Hid (InAct K (n+1) w4 a c (Cn.answer x p)/\Touch (OfAct K) w w4):=by
    refine ⟨InAct.eq ((HI4.out.less HL.out).wide (by simp;try omega)) ?_,HP.out.trans (HT4.out.loose HL.out) (fun _ _ e=>e)⟩
    unfold Cn.answer;rw [if_neg HD2.out.1,if_neg HD2.out.2.1,if_neg HD2.out.2.2,if_pos HO.out,if_neg (by rw [HS.out];exact ES.out)]
   clear HI4 HT4
   go_wp2
   first
    |(go_end0;exact ⟨rfl,HX.out⟩)
    |exact bodyPost_ret (results_none rfl _ _ _) rfl ⟨rfl,HX.out⟩
 have e5:¬ k=7:=fun e=>e4 (.inl e)
 have e6:¬ k=4:=fun e=>e4 (.inr e)
 have b5:(k==7)=false:=by simpa using e5
 have b6:(k==4)=false:=by simpa using e6
 have HN:Hid (¬ p.kind=2/\¬ p.kind=6/\¬ p.kind=15/\¬ (p.kind=7\/p.kind=4)):=by unfold Hid;rw [HKD.out];exact ⟨e1,e2,e3,e4⟩
 clear e1 e2 e3 e4 e5 e6
 have HX:Hid (InAct K (n+1) w1 a c (Cn.answer x p)/\Touch (OfAct K) w w1):=by
  refine ⟨InAct.eq ((HI1.out.less HL.out).wide (by simp;try omega)) ?_,HP.out.trans (HT1.out.loose HL.out) (fun _ _ e=>e)⟩
  unfold Cn.answer;rw [if_neg HN.out.1,if_neg HN.out.2.1,if_neg HN.out.2.2.1,if_neg HN.out.2.2.2]
 clear HI1 HT1
 go_wp2
 first
  |(go_end0;exact ⟨rfl,HX.out⟩)
  |exact bodyPost_ret (results_none rfl _ _ _) rfl ⟨rfl,HX.out⟩
end Go.Proofs.YtlbopdfobgjjaaaGreatDoor

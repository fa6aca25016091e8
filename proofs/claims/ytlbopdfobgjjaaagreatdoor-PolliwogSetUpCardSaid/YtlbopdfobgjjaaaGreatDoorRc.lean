/-
  conn: what an act does with a unit, and with a request · conn: of a call its result · polliwogref14: connections and results by value.
-/
import Derived.Test.YtlbopdfobgjjaaaGreatDoorCnE
import Derived.Test.YtlbopdfobgjjaaaGreatDoorEvD
import Derived.Test.YtlbopdfobgjjaaaGreatDoorCloP
set_option maxHeartbeats 2000000
namespace Go.Proofs.YtlbopdfobgjjaaaGreatDoor
open Go.RowKit
theorem handle_any {K:Nat->Prop} {n:Nat} {w:World} {a c:Nat} {x:Cn.SR} (h:InAct K n w a c x) (hn:n<=80) (p:Cn.Pd) :
  Calls Tryz.prog 196 #[.pointer (some ⟨a,0,none⟩),pduV p] w fun e w'=>e=.returned (.tuple #[])/\InAct K (n+7) w' a c (Cn.handle x p)/\Touch (OfAct K) w w':=by
 unfold pduV
 obtain ⟨w1,qw,HF,HB,HI1,HG,HL,HP⟩:=box_pre h p
 obtain ⟨st,hst⟩:=qx x.1.state
 have HS:=lh hst
 obtain ⟨sq,hsq⟩:=qx x.1.sq
 have HSQ:=lh hsq
 obtain ⟨peer,hpe⟩:=qx x.1.peer
 have HPE:=lh hpe
 clear h hst hsq hpe
 go_enter Tryz.func196,Tryz.ntmps196
 go_upto_region 1 with (fail)
 rw [<- qw.out]
 clear qw
 generalize Kept K w w1=K1 at *
 generalize w.heap.size=g at *
 have HT1:Hid (Touch (OfAct K1) w1 w1):=Touch.refl _ _
 obtain ⟨old,hold⟩:∃ old:Bool,(p.sq==peer)=old:=⟨_,rfl⟩
 obtain ⟨fits,hfit⟩:∃ fits:Bool,(p.sq==sq)=fits:=⟨_,rfl⟩
 have HO:Hid (if old then p.sq=x.1.peer else ¬ p.sq=x.1.peer):=by unfold Hid;rw [HPE.out,<- hold];by_cases e:p.sq=peer <;> simp [e]
 have HFI:Hid (if fits then p.sq=x.1.sq else ¬ p.sq=x.1.sq):=by unfold Hid;rw [HSQ.out,<- hfit];by_cases e:p.sq=sq <;> simp [e]
 obtain ⟨d0,d1,d2,d3,d4,d5,d6,d7⟩:=(HT1.out.keptB HB.out HG.out).a8
 have hh:=HI1.out
 obtain ⟨A1,c1,A2,c2,hh⟩:=hh
 have k0:w1.cell? ⟨a,0,none⟩=some (.pointer (some ⟨c,0,none⟩)):=hh.blk.cell 0
 have s2:w1.cell? ⟨c,2,none⟩=some (.int .i64 st):=by rw [<- HS.out];exact hh.conn.cell 2
 have s3:w1.cell? ⟨c,3,none⟩=some (.int .i64 sq):=by rw [<- HSQ.out];exact hh.conn.cell 3
 have s4:w1.cell? ⟨c,4,none⟩=some (.int .i64 peer):=by rw [<- HPE.out];exact hh.conn.cell 4
 clear hh
 go_wp2
 go_region
 have HTD:Hid (Touch (OfAct K1) w1 w1.drew):=(Touch.refl _ _).drew
 have HID:Hid (InAct K1 n w1.drew a c x):=HI1.out.old (Touch.refl _ _).drew
 have HI2:=HID
 have HT2:=HTD
 clear d0 d1 d2 d3 d4 d5 d6 d7 k0 s2 s3 s4 HI1 HT1 HID HTD hold hfit
 generalize w1.drew=w2 at *
 obtain ⟨d0,d1,d2,d3,d4,d5,d6,d7⟩:=(HT2.out.keptB HB.out HG.out).a8
 have hh:=HI2.out
 obtain ⟨A1,c1,A2,c2,hh⟩:=hh
 have k0:w2.cell? ⟨a,0,none⟩=some (.pointer (some ⟨c,0,none⟩)):=hh.blk.cell 0
 clear hh
 by_cases e1:p.kind=1
 ·have b1:(p.kind==1)=true:=by simpa using e1
  have E1:=lh e1
  clear e1
  cases old
  ·have HO2:Hid (¬ p.sq=x.1.peer):=HO.out
   go_wp2_with fail
   refine (newBegin_any HI2.out (by omega) p).mono ?_
   rintro e w3 ⟨rfl,i3,t3⟩
   have HI3:=lh i3
   have HT3:Hid (Touch (OfAct K1) _ w3):=HT2.out.trans t3 (fun _ _ e=>e)
   clear i3 t3
   clear d0 d1 d2 d3 d4 d5 d6 d7 k0
   have HX:Hid (InAct K (n+7) w3 a c (Cn.handle x p)/\Touch (OfAct K) w w3):=by
    refine ⟨InAct.eq ((HI3.out.less HL.out).wide (by simp;try omega)) ?_,HP.out.trans (HT3.out.loose HL.out) (fun _ _ e=>e)⟩
    unfold Cn.handle;rw [if_pos E1.out,if_neg HO2.out]
   clear HI3 HT3
   go_wp2
   first
    |(go_end0;exact ⟨rfl,HX.out⟩)
    |exact bodyPost_ret (results_none rfl _ _ _) rfl ⟨rfl,HX.out⟩
  ·have HO2:Hid (p.sq=x.1.peer):=HO.out
   go_wp2_with fail
   refine (oldBegin_any HI2.out (by omega) p).mono ?_
   rintro e w3 ⟨rfl,i3,t3⟩
   have HI3:=lh i3
   have HT3:Hid (Touch (OfAct K1) _ w3):=HT2.out.trans t3 (fun _ _ e=>e)
   clear i3 t3
   clear d0 d1 d2 d3 d4 d5 d6 d7 k0
   have HX:Hid (InAct K (n+7) w3 a c (Cn.handle x p)/\Touch (OfAct K) w w3):=by
    refine ⟨InAct.eq ((HI3.out.less HL.out).wide (by simp;try omega)) ?_,HP.out.trans (HT3.out.loose HL.out) (fun _ _ e=>e)⟩
    unfold Cn.handle;rw [if_pos E1.out,if_pos HO2.out]
   clear HI3 HT3
   go_wp2
   first
    |(go_end0;exact ⟨rfl,HX.out⟩)
    |exact bodyPost_ret (results_none rfl _ _ _) rfl ⟨rfl,HX.out⟩
 have b1:(p.kind==1)=false:=by simpa using e1
 by_cases e2:p.kind=3
 ·have b2:(p.kind==3)=true:=by simpa using e2
  have E1:=lh e1
  have E2:=lh e2
  clear e1 e2
  go_wp2_with fail
  refine (end_any HI2.out (by omega) p).mono ?_
  rintro e w3 ⟨rfl,i3,t3⟩
  have HI3:=lh i3
  have HT3:Hid (Touch (OfAct K1) _ w3):=HT2.out.trans t3 (fun _ _ e=>e)
  clear i3 t3
  clear d0 d1 d2 d3 d4 d5 d6 d7 k0
  have HX:Hid (InAct K (n+7) w3 a c (Cn.handle x p)/\Touch (OfAct K) w w3):=by
   refine ⟨InAct.eq ((HI3.out.less HL.out).wide (by simp;try omega)) ?_,HP.out.trans (HT3.out.loose HL.out) (fun _ _ e=>e)⟩
   unfold Cn.handle;rw [if_neg E1.out,if_pos E2.out]
  clear HI3 HT3
  go_wp2
  first
   |(go_end0;exact ⟨rfl,HX.out⟩)
   |exact bodyPost_ret (results_none rfl _ _ _) rfl ⟨rfl,HX.out⟩
 have b2:(p.kind==3)=false:=by simpa using e2
 by_cases e3:p.kind=5
 ·have b3:(p.kind==5)=true:=by simpa using e3
  have E1:=lh e1
  have E2:=lh e2
  have E3:=lh e3
  clear e1 e2 e3
  cases old
  ·have HO2:Hid (¬ p.sq=x.1.peer):=HO.out
   go_wp2_with fail
   refine (resync_any HI2.out (by omega) p).mono ?_
   rintro e w3 ⟨rfl,i3,t3⟩
   have HI3:=lh i3
   have HT3:Hid (Touch (OfAct K1) _ w3):=HT2.out.trans t3 (fun _ _ e=>e)
   clear i3 t3
   clear d0 d1 d2 d3 d4 d5 d6 d7 k0
   have HX:Hid (InAct K (n+7) w3 a c (Cn.handle x p)/\Touch (OfAct K) w w3):=by
    refine ⟨InAct.eq ((HI3.out.less HL.out).wide (by simp;try omega)) ?_,HP.out.trans (HT3.out.loose HL.out) (fun _ _ e=>e)⟩
    unfold Cn.handle;rw [if_neg E1.out,if_neg E2.out,if_pos E3.out,if_neg HO2.out]
   clear HI3 HT3
   go_wp2
   first
    |(go_end0;exact ⟨rfl,HX.out⟩)
    |exact bodyPost_ret (results_none rfl _ _ _) rfl ⟨rfl,HX.out⟩
  ·have HO2:Hid (p.sq=x.1.peer):=HO.out
   go_wp2_with fail
   refine (back_lit HI2.out p 6 [7,8,9,10] (by simp;omega)).mono ?_
   rintro e w3 ⟨rfl,i3,t3⟩
   have HI3:=lh i3
   have HT3:Hid (Touch (OfAct K1) _ w3):=HT2.out.trans t3 (fun _ _ e=>e)
   clear i3 t3
   clear d0 d1 d2 d3 d4 d5 d6 d7 k0
   have HX:Hid (InAct K (n+7) w3 a c (Cn.handle x p)/\Touch (OfAct K) w w3):=by
    refine ⟨InAct.eq ((HI3.out.less HL.out).wide (by simp;try omega)) ?_,HP.out.trans (HT3.out.loose HL.out) (fun _ _ e=>e)⟩
    unfold Cn.handle;rw [if_neg E1.out,if_neg E2.out,if_pos E3.out,if_pos HO2.out]
   clear HI3 HT3
   go_wp2
   first
    |(go_end0;exact ⟨rfl,HX.out⟩)
    |exact bodyPost_ret (results_none rfl _ _ _) rfl ⟨rfl,HX.out⟩
 have b3:(p.kind==5)=false:=by simpa using e3
 by_cases e4:p.kind=9
 ·have b4:(p.kind==9)=true:=by simpa using e4
  have E1:=lh e1
  have E2:=lh e2
  have E3:=lh e3
  have E4:=lh e4
  clear e1 e2 e3 e4
  cases old
  ·have HO2:Hid (¬ p.sq=x.1.peer):=HO.out
   go_wp2_with fail
   refine (recover_any HI2.out (by omega) p).mono ?_
   rintro e w3 ⟨rfl,i3,t3⟩
   have HI3:=lh i3
   have HT3:Hid (Touch (OfAct K1) _ w3):=HT2.out.trans t3 (fun _ _ e=>e)
   clear i3 t3
   clear d0 d1 d2 d3 d4 d5 d6 d7 k0
   have HX:Hid (InAct K (n+7) w3 a c (Cn.handle x p)/\Touch (OfAct K) w w3):=by
    refine ⟨InAct.eq ((HI3.out.less HL.out).wide (by simp;try omega)) ?_,HP.out.trans (HT3.out.loose HL.out) (fun _ _ e=>e)⟩
    unfold Cn.handle;rw [if_neg E1.out,if_neg E2.out,if_neg E3.out,if_pos E4.out,if_neg HO2.out]
   clear HI3 HT3
   go_wp2
   first
    |(go_end0;exact ⟨rfl,HX.out⟩)
    |exact bodyPost_ret (results_none rfl _ _ _) rfl ⟨rfl,HX.out⟩
  ·have HO2:Hid (p.sq=x.1.peer):=HO.out
   go_wp2_with fail
   refine (back_lit HI2.out p 15 [8,10] (by simp;omega)).mono ?_
   rintro e w3 ⟨rfl,i3,t3⟩
   have HI3:=lh i3
   have HT3:Hid (Touch (OfAct K1) _ w3):=HT2.out.trans t3 (fun _ _ e=>e)
   clear i3 t3
   clear d0 d1 d2 d3 d4 d5 d6 d7 k0
   have HX:Hid (InAct K (n+7) w3 a c (Cn.handle x p)/\Touch (OfAct K) w w3):=by
    refine ⟨InAct.eq ((HI3.out.less HL.out).wide (by simp;try omega)) ?_,HP.out.trans (HT3.out.loose HL.out) (fun _ _ e=>e)⟩
    unfold Cn.handle;rw [if_neg E1.out,if_neg E2.out,if_neg E3.out,if_pos E4.out,if_pos HO2.out]
   clear HI3 HT3
   go_wp2
   first
    |(go_end0;exact ⟨rfl,HX.out⟩)
    |exact bodyPost_ret (results_none rfl _ _ _) rfl ⟨rfl,HX.out⟩
 have b4:(p.kind==9)=false:=by simpa using e4
 have HN:Hid (¬ p.kind=1/\¬ p.kind=3/\¬ p.kind=5/\¬ p.kind=9):=⟨e1,e2,e3,e4⟩
 clear e1 e2 e3 e4
 cases fits
 ·have HO2:Hid (¬ p.sq=x.1.sq):=HFI.out
  have HX:Hid (InAct K (n+7) w2 a c (Cn.handle x p)/\Touch (OfAct K) w w2):=by
   refine ⟨InAct.eq ((HI2.out.less HL.out).wide (by simp;try omega)) ?_,HP.out.trans (HT2.out.loose HL.out) (fun _ _ e=>e)⟩
   unfold Cn.handle;rw [if_neg HN.out.1,if_neg HN.out.2.1,if_neg HN.out.2.2.1,if_neg HN.out.2.2.2,if_neg HO2.out]
  clear HI2 HT2
  go_wp2
  first
   |(go_end0;exact ⟨rfl,HX.out⟩)
   |exact bodyPost_ret (results_none rfl _ _ _) rfl ⟨rfl,HX.out⟩
 ·have HO2:Hid (p.sq=x.1.sq):=HFI.out
  go_wp2_with fail
  refine (answer_any HI2.out (by omega) p).mono ?_
  rintro e w3 ⟨rfl,i3,t3⟩
  have HI3:=lh i3
  have HT3:Hid (Touch (OfAct K1) _ w3):=HT2.out.trans t3 (fun _ _ e=>e)
  clear i3 t3
  clear d0 d1 d2 d3 d4 d5 d6 d7 k0
  have HX:Hid (InAct K (n+7) w3 a c (Cn.handle x p)/\Touch (OfAct K) w w3):=by
   refine ⟨InAct.eq ((HI3.out.less HL.out).wide (by simp;try omega)) ?_,HP.out.trans (HT3.out.loose HL.out) (fun _ _ e=>e)⟩
   unfold Cn.handle;rw [if_neg HN.out.1,if_neg HN.out.2.1,if_neg HN.out.2.2.1,if_neg HN.out.2.2.2,if_pos HO2.out]
  clear HI3 HT3
  go_wp2
  first
   |(go_end0;exact ⟨rfl,HX.out⟩)
   |exact bodyPost_ret (results_none rfl _ _ _) rfl ⟨rfl,HX.out⟩
theorem ask_any {K:Nat->Prop} {n:Nat} {w:World} {a c:Nat} {x:Cn.SR} (h:InAct K n w a c x) (hn:n<=80) (kind:Int) (d:ByteArray) :
  Calls Tryz.prog 128 #[.pointer (some ⟨a,0,none⟩),.int .i64 kind,.string d] w fun e w'=>e=.returned (.tuple #[])/\InAct K (n+1) w' a c (Cn.ask x kind d)/\Touch (OfAct K) w w':=by
 obtain ⟨st,hst⟩:=qx x.1.state
 have HS:=lh hst
 obtain ⟨sq,hsq⟩:=qx x.1.sq
 have HSQ:=lh hsq
 obtain ⟨peer,hpe⟩:=qx x.1.peer
 have HPE:=lh hpe
 have HI1:=lh h
 have HT1:Hid (Touch (OfAct K) w w):=Touch.refl _ _
 clear h hst hsq hpe
 go_enter Tryz.func128,Tryz.ntmps128
 obtain ⟨w1,rfl⟩:=xq w
 have hh:=HI1.out
 obtain ⟨A1,c1,A2,c2,hh⟩:=hh
 have k0:w1.cell? ⟨a,0,none⟩=some (.pointer (some ⟨c,0,none⟩)):=hh.blk.cell 0
 have s2:w1.cell? ⟨c,2,none⟩=some (.int .i64 st):=by rw [<- HS.out];exact hh.conn.cell 2
 have s4:w1.cell? ⟨c,4,none⟩=some (.int .i64 peer):=by rw [<- HPE.out];exact hh.conn.cell 4
 clear hh
 by_cases e1:kind=1
 ·subst e1
  go_wp2_with fail
  refine (begin_any HI1.out (by omega) 2 d).mono ?_
  rintro e w2 ⟨rfl,i2,t2⟩
  have HI2:=lh i2
  have HT2:Hid (Touch (OfAct K) _ w2):=HT1.out.trans t2 (fun _ _ e=>e)
  clear i2 t2
  clear k0 s2 s4
  have HX:Hid (InAct K (n+1) w2 a c (Cn.ask x 1 d)/\Touch (OfAct K) w1 w2):=by
   refine ⟨InAct.eq (HI2.out.wide (by omega)) ?_,HT2.out⟩
   unfold Cn.ask;rw [if_pos rfl]
  clear HI2 HT2
  go_wp2
  first
   |(go_end0;exact ⟨rfl,HX.out⟩)
   |exact bodyPost_ret (results_none rfl _ _ _) rfl ⟨rfl,HX.out⟩
 have b1:(kind==1)=false:=by simpa using e1
 by_cases e2:kind=2
 ·subst e2
  go_wp2_with fail
  refine (out_any HI1.out (by omega) (Cn.unit_ 2 peer false Cn.no)).mono ?_
  rintro e w2 ⟨rfl,i2,t2⟩
  have HI2:=lh i2
  have HT2:Hid (Touch (OfAct K) _ w2):=HT1.out.trans t2 (fun _ _ e=>e)
  clear i2 t2
  clear k0 s2 s4
  go_wp2_with fail
  refine (ready_any HI2.out (by omega)).mono ?_
  rintro e w3 ⟨rfl,i3,t3⟩
  have HI3:=lh i3
  have HT3:Hid (Touch (OfAct K) _ w3):=HT2.out.trans t3 (fun _ _ e=>e)
  clear i3 t3
  have HX:Hid (InAct K (n+1) w3 a c (Cn.ask x 2 d)/\Touch (OfAct K) w1 w3):=by
   refine ⟨InAct.eq (HI3.out.wide (by omega)) ?_,HT3.out⟩
   unfold Cn.ask;rw [if_neg (by decide),if_pos rfl,HPE.out]
  clear HI3 HT3
  go_wp2
  first
   |(go_end0;exact ⟨rfl,HX.out⟩)
   |exact bodyPost_ret (results_none rfl _ _ _) rfl ⟨rfl,HX.out⟩
 have b2:(kind==2)=false:=by simpa using e2
 by_cases e3:kind=3
 ·subst e3
  by_cases es:st=3
  ·subst es
   go_wp2_with fail
   refine (out_any HI1.out (by omega) (Cn.unit_ 7 peer false d)).mono ?_
   rintro e w2 ⟨rfl,i2,t2⟩
   have HI2:=lh i2
   have HT2:Hid (Touch (OfAct K) _ w2):=HT1.out.trans t2 (fun _ _ e=>e)
   clear i2 t2
   clear k0 s2 s4
   go_wp2_with fail
   refine (to_any' HI2.out 1).mono ?_
   rintro e w3 ⟨rfl,i3,t3⟩
   have HI3:=lh i3
   have HT3:Hid (Touch (OfAct K) _ w3):=HT2.out.trans t3 (fun _ _ e=>e)
   clear i3 t3
   have HX:Hid (InAct K (n+1) w3 a c (Cn.ask x 3 d)/\Touch (OfAct K) w1 w3):=by
    refine ⟨InAct.eq (HI3.out.wide (by omega)) ?_,HT3.out⟩
    unfold Cn.ask;rw [if_neg (by decide),if_neg (by decide),if_pos rfl,if_pos HS.out,HPE.out]
   clear HI3 HT3
   go_wp2
   first
    |(go_end0;exact ⟨rfl,HX.out⟩)
    |exact bodyPost_ret (results_none rfl _ _ _) rfl ⟨rfl,HX.out⟩
  have bs:(st==3)=false:=by simpa using es
  have Es:=lh es
  clear es
  go_wp2_with fail
  refine (leave_any HI1.out (by omega) d).mono ?_
  rintro e w2 ⟨rfl,i2,t2⟩
  have HI2:=lh i2
  have HT2:Hid (Touch (OfAct K) _ w2):=HT1.out.trans t2 (fun _ _ e=>e)
  clear i2 t2
  clear k0 s2 s4
  have HX:Hid (InAct K (n+1) w2 a c (Cn.ask x 3 d)/\Touch (OfAct K) w1 w2):=by
   refine ⟨InAct.eq (HI2.out.wide (by omega)) ?_,HT2.out⟩
   unfold Cn.ask;rw [if_neg (by decide),if_neg (by decide),if_pos rfl,if_neg (by rw [HS.out];exact Es.out)]
  clear HI2 HT2
  go_wp2
  first
   |(go_end0;exact ⟨rfl,HX.out⟩)
   |exact bodyPost_ret (results_none rfl _ _ _) rfl ⟨rfl,HX.out⟩
 have b3:(kind==3)=false:=by simpa using e3
 by_cases e4:kind=4
 ·subst e4
  go_wp2_with fail
  refine (begin_any HI1.out (by omega) 5 d).mono ?_
  rintro e w2 ⟨rfl,i2,t2⟩
  have HI2:=lh i2
  have HT2:Hid (Touch (OfAct K) _ w2):=HT1.out.trans t2 (fun _ _ e=>e)
  clear i2 t2
  clear k0 s2 s4
  have HX:Hid (InAct K (n+1) w2 a c (Cn.ask x 4 d)/\Touch (OfAct K) w1 w2):=by
   refine ⟨InAct.eq (HI2.out.wide (by omega)) ?_,HT2.out⟩
   unfold Cn.ask;rw [if_neg (by decide),if_neg (by decide),if_neg (by decide),if_pos rfl]
  clear HI2 HT2
  go_wp2
  first
   |(go_end0;exact ⟨rfl,HX.out⟩)
   |exact bodyPost_ret (results_none rfl _ _ _) rfl ⟨rfl,HX.out⟩
 have b4:(kind==4)=false:=by simpa using e4
 by_cases e5:kind=5
 ·subst e5
  go_wp2_with fail
  refine (out_any HI1.out (by omega) (Cn.unit_ 6 peer false Cn.no)).mono ?_
  rintro e w2 ⟨rfl,i2,t2⟩
  have HI2:=lh i2
  have HT2:Hid (Touch (OfAct K) _ w2):=HT1.out.trans t2 (fun _ _ e=>e)
  clear i2 t2
  clear k0 s2 s4
  go_wp2_with fail
  refine (ready_any HI2.out (by omega)).mono ?_
  rintro e w3 ⟨rfl,i3,t3⟩
  have HI3:=lh i3
  have HT3:Hid (Touch (OfAct K) _ w3):=HT2.out.trans t3 (fun _ _ e=>e)
  clear i3 t3
  have HX:Hid (InAct K (n+1) w3 a c (Cn.ask x 5 d)/\Touch (OfAct K) w1 w3):=by
   refine ⟨InAct.eq (HI3.out.wide (by omega)) ?_,HT3.out⟩
   unfold Cn.ask;rw [if_neg (by decide),if_neg (by decide),if_neg (by decide),if_neg (by decide),if_pos rfl,HPE.out]
  clear HI3 HT3
  go_wp2
  first
   |(go_end0;exact ⟨rfl,HX.out⟩)
   |exact bodyPost_ret (results_none rfl _ _ _) rfl ⟨rfl,HX.out⟩
 have b5:(kind==5)=false:=by simpa using e5
 by_cases e6:kind=6
 ·subst e6
  by_cases es:st=9
  ·subst es
   go_wp2_with fail
   refine (out_any HI1.out (by omega) (Cn.unit_ 15 peer false Cn.no)).mono ?_
   rintro e w2 ⟨rfl,i2,t2⟩
   have HI2:=lh i2
   have HT2:Hid (Touch (OfAct K) _ w2):=HT1.out.trans t2 (fun _ _ e=>e)
   clear i2 t2
   clear k0 s2 s4
   go_wp2_with fail
   refine (ready_any HI2.out (by omega)).mono ?_
   rintro e w3 ⟨rfl,i3,t3⟩
   have HI3:=lh i3
   have HT3:Hid (Touch (OfAct K) _ w3):=HT2.out.trans t3 (fun _ _ e=>e)
   clear i3 t3
   have HX:Hid (InAct K (n+1) w3 a c (Cn.ask x 6 d)/\Touch (OfAct K) w1 w3):=by
    refine ⟨InAct.eq (HI3.out.wide (by omega)) ?_,HT3.out⟩
    unfold Cn.ask;rw [if_neg (by decide),if_neg (by decide),if_neg (by decide),if_neg (by decide),if_neg (by decide),if_pos rfl,if_pos HS.out,HPE.out]
   clear HI3 HT3
   go_wp2
   first
    |(go_end0;exact ⟨rfl,HX.out⟩)
    |exact bodyPost_ret (results_none rfl _ _ _) rfl ⟨rfl,HX.out⟩
  have bs:(st==9)=false:=by simpa using es
  have Es:=lh es
  clear es
  go_wp2_with fail
  refine (ready_any HI1.out (by omega)).mono ?_
  rintro e w2 ⟨rfl,i2,t2⟩
  have HI2:=lh i2
  have HT2:Hid (Touch (OfAct K) _ w2):=HT1.out.trans t2 (fun _ _ e=>e)
  clear i2 t2
  clear k0 s2 s4
  have HX:Hid (InAct K (n+1) w2 a c (Cn.ask x 6 d)/\Touch (OfAct K) w1 w2):=by
   refine ⟨InAct.eq (HI2.out.wide (by omega)) ?_,HT2.out⟩
   unfold Cn.ask;rw [if_neg (by decide),if_neg (by decide),if_neg (by decide),if_neg (by decide),if_neg (by decide),if_pos rfl,if_neg (by rw [HS.out];exact Es.out)]
  clear HI2 HT2
  go_wp2
  first
   |(go_end0;exact ⟨rfl,HX.out⟩)
   |exact bodyPost_ret (results_none rfl _ _ _) rfl ⟨rfl,HX.out⟩
 have b6:(kind==6)=false:=by simpa using e6
 have HN:Hid (¬ kind=1/\¬ kind=2/\¬ kind=3/\¬ kind=4/\¬ kind=5/\¬ kind=6):=⟨e1,e2,e3,e4,e5,e6⟩
 clear e1 e2 e3 e4 e5 e6
 have HX:Hid (InAct K (n+1) w1 a c (Cn.ask x kind d)/\Touch (OfAct K) w1 w1):=by
  refine ⟨InAct.eq (HI1.out.wide (by omega)) ?_,HT1.out⟩
  obtain ⟨n1,n2,n3,n4,n5,n6⟩:=HN.out;unfold Cn.ask;rw [if_neg n1,if_neg n2,if_neg n3,if_neg n4,if_neg n5,if_neg n6]
 clear HI1 HT1
 go_wp2
 first
  |(go_end0;exact ⟨rfl,HX.out⟩)
  |exact bodyPost_ret (results_none rfl _ _ _) rfl ⟨rfl,HX.out⟩
def ResIn (w w':World) (v:Value) (r:Cn.R):Prop:=∃ A1 c1 A2 c2,v=.agg #[.slice A1 r.sigs.length c1,.slice A2 r.units.length c2,.bool r.begins,.bool r.ends,.int .u32 r.ms,.int .i64 r.timer]/\Sl sigE w' A1 c1 r.sigs/\Sl pduE w' A2 c2 r.units/\(∀ ad,A1=some ad->w.heap.size<=ad.block)/\∀ ad,A2=some ad->w.heap.size<=ad.block
structure ConnPost (w:World) (c:Nat) (y:Cn.SR) (v:Value) (w':World):Prop where
 conn:ConnAt w' c y.1
 ok:Cn.Ok y.1
 few:Cn.Few 100 y
 res:ResIn w w' v y.2
 touch:Touch (· = c) w w'
def Others (w:World) (c k:Nat):Prop:=k<w.heap.size/\k ≠ c
theorem ConnPost.back {w0 w w':World} {c:Nat} {y:Cn.SR} {v:Value} (h:ConnPost w c y v w') (ht:Fresh w0 w) (_hc:c<w0.heap.size):ConnPost w0 c y v w':=by
 obtain ⟨A1,c1,A2,c2,e,s1,s2,b1,b2⟩:=h.res
 exact ⟨h.conn,h.ok,h.few,⟨A1,c1,A2,c2,e,s1,s2,fun ad e=>Nat.le_trans ht.size (b1 ad e),fun ad e=>Nat.le_trans ht.size (b2 ad e)⟩,(ht.mono fun _ _ e=>e.elim).trans h.touch (fun _ _ e=>e)⟩
theorem done_any {w:World} {c:Nat} {s:Cn.S} (h:ConnAt w c s) (ho:Cn.Ok s) (k:Nat) (cap:Array Value) {y:Cn.SR} {m:Nat} (hm:m<=100) (eg:∀ args w,(callFunc k args).run Tryz.prog w=.ok (.enter k args) w)
  (hk:∀ W a w1,Fresh w W->Fresh W w1->InAct (Others W c) 0 w1 a c (s,Cn.r0)->Calls Tryz.prog k (#[.pointer (some ⟨a,0,none⟩)]++cap) w1 fun e w'=>e=.returned (.tuple #[])/\InAct (Others W c) m w' a c y/\Touch (OfAct (Others W c)) w1 w') :
  Calls Tryz.prog 106 #[.pointer (some ⟨c,0,none⟩),.func (.func k) #[] cap] w fun e w'=>∃ v,e=.returned v/\ConnPost w c y v w':=by
 have HK:=lh hk
 have HC:=lh h
 have HO:=lh ho
 clear h hk ho
 go_enter Tryz.func106,Tryz.ntmps106
 go_wp2_with fail
 have HF1:Hid (Fresh w (w.alloc (.cells #[.slice none 0 0,.slice none 0 0,.bool false,.bool false,.int .u32 0,.int .i64 0] 170))):=(Touch.refl _ w).alloc _
 have HB1:Hid (Blk (w.alloc (.cells #[.slice none 0 0,.slice none 0 0,.bool false,.bool false,.int .u32 0,.int .i64 0] 170)) w.heap.size 170 [.slice none 0 0,.slice none 0 0,.bool false,.bool false,.int .u32 0,.int .i64 0]):=Blk.new _ _ _
 have hsz:(w.alloc (.cells #[.slice none 0 0,.slice none 0 0,.bool false,.bool false,.int .u32 0,.int .i64 0] 170)).heap.size=w.heap.size+1:=by simp
 have HLT:Hid (c<w.heap.size):=Blk.lt HC.out
 generalize (w.alloc (.cells #[.slice none 0 0,.slice none 0 0,.bool false,.bool false,.int .u32 0,.int .i64 0] 170))=W at *
 have HSZ:=lh hsz
 clear hsz
 have HB2:Hid (Blk (W.alloc (.cells #[.pointer (some ⟨c,0,none⟩),.slice none 0 0,.slice none 0 0,.bool false,.bool false,.int .u32 0,.int .i64 0] 228)) (w.heap.size+1) 228 [.pointer (some ⟨c,0,none⟩),.slice none 0 0,.slice none 0 0,.bool false,.bool false,.int .u32 0,.int .i64 0]):=by rw [<- HSZ.out];exact Blk.new _ _ _
 have HF2:Hid (Fresh W (W.alloc (.cells #[.pointer (some ⟨c,0,none⟩),.slice none 0 0,.slice none 0 0,.bool false,.bool false,.int .u32 0,.int .i64 0] 228))):=(Touch.refl _ W).alloc _
 generalize (W.alloc (.cells #[.pointer (some ⟨c,0,none⟩),.slice none 0 0,.slice none 0 0,.bool false,.bool false,.int .u32 0,.int .i64 0] 228))=w1 at *
 have HA:Hid (InAct (Others W c) 0 w1 (w.heap.size+1) c (s,Cn.r0)):=by
  refine ⟨none,0,none,0,fun k e=>Nat.lt_of_lt_of_le e.1 HF2.out.size,fun e=>e.2 rfl,fun e=>?_,HB2.out,HF2.out.blk (HF1.out.blk HC.out (fun e=>e)) (fun e=>e),Sl.nil _ _,Sl.nil _ _,(fun ad e=>nomatch e),(fun ad e=>nomatch e),⟨Nat.le_refl _,Nat.le_refl _⟩,HO.out⟩
  have:=e.1
  have:=HSZ.out
  omega
 refine (HK.out W _ w1 HF1.out HF2.out HA.out).mono ?_
 rintro e w2 ⟨rfl,⟨A1,c1,A2,c2,h2⟩,t2⟩
 have H2:=lh h2
 have T2:=lh t2
 have k1:w2.cell? ⟨w.heap.size+1,1,none⟩=some (.slice A1 y.2.sigs.length c1):=h2.blk.cell 1
 have k2:w2.cell? ⟨w.heap.size+1,2,none⟩=some (.slice A2 y.2.units.length c2):=h2.blk.cell 2
 have k3:w2.cell? ⟨w.heap.size+1,3,none⟩=some (.bool y.2.begins):=h2.blk.cell 3
 have k4:w2.cell? ⟨w.heap.size+1,4,none⟩=some (.bool y.2.ends):=h2.blk.cell 4
 have k5:w2.cell? ⟨w.heap.size+1,5,none⟩=some (.int .u32 y.2.ms):=h2.blk.cell 5
 have k6:w2.cell? ⟨w.heap.size+1,6,none⟩=some (.int .i64 y.2.timer):=h2.blk.cell 6
 have HR:Hid (Blk w2 w.heap.size 170 [.slice none 0 0,.slice none 0 0,.bool false,.bool false,.int .u32 0,.int .i64 0]):=(HF2.out.blk HB1.out (fun e=>e)) |> fun b=>t2.keptB b ⟨by have:=HSZ.out;omega,by have:=HLT.out;omega⟩
 have r0:=HR.out.cell 0
 have r1:=HR.out.cell 1
 have r2:=HR.out.cell 2
 have r3:=HR.out.cell 3
 have r4:=HR.out.cell 4
 have r5:=HR.out.cell 5
 have f0:=HR.out.frozen 0
 have f1:=HR.out.frozen 1
 have f2:=HR.out.frozen 2
 have f3:=HR.out.frozen 3
 have f4:=HR.out.frozen 4
 have f5:=HR.out.frozen 5
 simp only [List.getElem?_cons_zero,List.getElem?_cons_succ] at r0 r1 r2 r3 r4 r5
 clear h2 t2
 generalize hg:w.heap.size=g at *
 have HG:=lh hg
 clear hg
 go_wp2
 have HB6:Blk ((((((w2.setCell ⟨g,0,none⟩ (.slice A1 y.2.sigs.length c1)).setCell ⟨g,1,none⟩ (.slice A2 y.2.units.length c2)).setCell ⟨g,2,none⟩ (.bool y.2.begins)).setCell ⟨g,3,none⟩ (.bool y.2.ends)).setCell ⟨g,4,none⟩ (.int .u32 y.2.ms)).setCell ⟨g,5,none⟩ (.int .i64 y.2.timer)) g 170 [.slice A1 y.2.sigs.length c1,.slice A2 y.2.units.length c2,.bool y.2.begins,.bool y.2.ends,.int .u32 y.2.ms,.int .i64 y.2.timer]:=(((((HR.out.set 0 _).set 1 _).set 2 _).set 3 _).set 4 _).set 5 _
 have HT6:Hid (Touch (· = g) w2 ((((((w2.setCell ⟨g,0,none⟩ (.slice A1 y.2.sigs.length c1)).setCell ⟨g,1,none⟩ (.slice A2 y.2.units.length c2)).setCell ⟨g,2,none⟩ (.bool y.2.begins)).setCell ⟨g,3,none⟩ (.bool y.2.ends)).setCell ⟨g,4,none⟩ (.int .u32 y.2.ms)).setCell ⟨g,5,none⟩ (.int .i64 y.2.timer))):=((((((Touch.refl _ _).st (by exact rfl)).st (by exact rfl)).st (by exact rfl)).st (by exact rfl)).st (by exact rfl)).st (by exact rfl)
 generalize ((((((w2.setCell ⟨g,0,none⟩ (.slice A1 y.2.sigs.length c1)).setCell ⟨g,1,none⟩ (.slice A2 y.2.units.length c2)).setCell ⟨g,2,none⟩ (.bool y.2.begins)).setCell ⟨g,3,none⟩ (.bool y.2.ends)).setCell ⟨g,4,none⟩ (.int .u32 y.2.ms)).setCell ⟨g,5,none⟩ (.int .i64 y.2.timer))=w6 at *
 have z0:=HB6.cell 0
 have z1:=HB6.cell 1
 have z2:=HB6.cell 2
 have z3:=HB6.cell 3
 have z4:=HB6.cell 4
 have z5:=HB6.cell 5
 simp only [List.getElem?_cons_zero,List.getElem?_cons_succ] at z0 z1 z2 z3 z4 z5
 clear HB6
 have HKG:Others W c g:=⟨by have:=HSZ.out;omega,by have:=HLT.out;omega⟩
 have H6:=H2.out.touch HT6.out (by intro e;have e:g+1=g:=e;omega) (by intro e;have e:c=g:=e;have:=HLT.out;omega) (fun ad e e'=>H2.out.b1 ad e (by have e':ad.block=g:=e';rw [e'];exact HKG)) (fun ad e e'=>H2.out.b2 ad e (by have e':ad.block=g:=e';rw [e'];exact HKG))
 have hsz2:=HSZ.out
 have hg:=HG.out
 have hne:∀ ad:Addr,¬ Others W c ad.block->ad.block ≠ c->w.heap.size<=ad.block:=fun ad h1 h2=>by
  rcases Nat.lt_or_ge ad.block W.heap.size with hl | hl
  ·exact absurd ⟨hl,h2⟩ h1
  ·omega
 have HP:ConnPost w c y (.agg #[.slice A1 y.2.sigs.length c1,.slice A2 y.2.units.length c2,.bool y.2.begins,.bool y.2.ends,.int .u32 y.2.ms,.int .i64 y.2.timer]) w6:=by
  refine ⟨H6.conn,H6.ok,⟨Nat.le_trans H6.few.1 hm,Nat.le_trans H6.few.2 hm⟩,⟨A1,c1,A2,c2,rfl,H6.sigs,H6.units,fun ad e=>hne ad (H6.b1 ad e) (H6.n1 ad e).2,fun ad e=>hne ad (H6.b2 ad e) (H6.n2 ad e).2⟩,?_⟩
  have T26:Touch (fun k=>OfAct (Others W c) k\/k=g) w1 w6:=(T2.out.mono fun _ _ e=>Or.inl e).trans HT6.out (fun _ _ e=>Or.inr e)
  refine ((HF1.out.trans HF2.out (fun _ _ e=>e)).mono (fun _ _ e=>e.elim)).trans T26 (fun k hk e=>?_)
  rcases e with e | e
  ·by_cases hkc:k=c
   ·exact hkc
   ·exact absurd ⟨by omega,hkc⟩ e
  ·omega
 exact bodyPost_ret (v:=_) (by simp [results,Tryz.results106,go_sem,z0,z1,z2,z3,z4,z5]) rfl ⟨_,rfl,HP⟩
theorem vars_any {w:World} {c:Nat} {s:Cn.S} (h:ConnAt w c s) :
  Calls Tryz.prog 20 #[.pointer (some ⟨c,0,none⟩)] w fun e w'=>e=.returned (.agg #[.int .i64 s.state,.int .i64 s.sq,.int .i64 s.peer,.int .i64 s.cc,.int .u32 s.ms])/\Fresh w w':=by
 have s2:w.cell? ⟨c,2,none⟩=some (.int .i64 s.state):=Blk.cell h 2
 have s3:w.cell? ⟨c,3,none⟩=some (.int .i64 s.sq):=Blk.cell h 3
 have s4:w.cell? ⟨c,4,none⟩=some (.int .i64 s.peer):=Blk.cell h 4
 have s5:w.cell? ⟨c,5,none⟩=some (.int .i64 s.cc):=Blk.cell h 5
 have s6:w.cell? ⟨c,6,none⟩=some (.int .u32 s.ms):=Blk.cell h 6
 have hl:c<w.heap.size:=Blk.lt h
 have s2':∀ o,(w.alloc o).cell? ⟨c,2,none⟩=some (.int .i64 s.state):=fun o=>Blk.cell (Blk.alloc h o) 2
 have s3':∀ o,(w.alloc o).cell? ⟨c,3,none⟩=some (.int .i64 s.sq):=fun o=>Blk.cell (Blk.alloc h o) 3
 have s4':∀ o,(w.alloc o).cell? ⟨c,4,none⟩=some (.int .i64 s.peer):=fun o=>Blk.cell (Blk.alloc h o) 4
 have s5':∀ o,(w.alloc o).cell? ⟨c,5,none⟩=some (.int .i64 s.cc):=fun o=>Blk.cell (Blk.alloc h o) 5
 have s6':∀ o,(w.alloc o).cell? ⟨c,6,none⟩=some (.int .u32 s.ms):=fun o=>Blk.cell (Blk.alloc h o) 6
 clear h hl
 go_enter Tryz.func20,Tryz.ntmps20
 go_wp2
 exact bodyPost_ret (v:=_) (by simp [results,Tryz.results20,go_sem]) rfl ⟨rfl,(Touch.refl _ _).alloc _⟩
theorem cnew_any (most credit:Int) (w:World) :
  Calls Tryz.prog 61 #[.agg #[.int .i64 most,.int .u32 credit]] w fun e w'=>∃ c,e=.returned (.pointer (some ⟨c,0,none⟩))/\w.heap.size<=c/\ConnAt w' c (Cn.new most credit)/\Cn.Ok (Cn.new most credit)/\Fresh w w':=by
 obtain ⟨m,hm⟩:=qx ((if 16<most then (16:Int) else most))
 obtain ⟨M,hM⟩:=qx ((if 1<m then m else 1))
 have HL:=lh low_any
 have HM:Hid (max 1 (min most 16)=M):=by unfold Hid;rw [<- hM,<- hm];(split <;> (try split) <;> omega)
 have HB:Hid (1<=M/\M<=16):=by have:=HM.out;unfold Hid;omega
 go_enter Tryz.func61,Tryz.ntmps61
 go_wp2
 go_region_law (go_simp;go_at_call 116;refine (HL.out credit _).mono ?_;rintro e w1 ⟨rfl,rfl⟩)
 all_goals
  clear hm hM
  go_wp2
  go_ret
  have hN:Cn.new most credit=⟨M,credit%16777216,1,0,-1,0,credit%16777216,Cn.no⟩:=by unfold Cn.new;rw [HM.out]
  have hb:=Blk.new (w.alloc (.cells #[.int .i64 M,.int .u32 (credit%16777216)] 153)) 155 (connCells ⟨M,credit%16777216,1,0,-1,0,credit%16777216,Cn.no⟩)
  rw [show (w.alloc (.cells #[.int .i64 M,.int .u32 (credit%16777216)] 153)).heap.size=w.heap.size+1 by simp] at hb
  refine ⟨_,rfl,Nat.le_succ _,?_,?_,(((Touch.refl _ _).alloc _).alloc _).drew⟩
  ·rw [hN];exact hb
  ·rw [hN];exact ⟨Int.le_refl _,by show (0:Int)<=255;decide,Int.le_refl _,by show (0:Int)<=16;decide,HB.out.1,HB.out.2⟩
def rcV (s:Cn.S):Value:=.agg #[.int .i64 s.most,.int .i64 s.credit,.int .i64 s.state,.int .i64 s.sq,.int .i64 s.peer,.int .i64 s.cc,.int .i64 s.ms,.string s.data]
end Go.Proofs.YtlbopdfobgjjaaaGreatDoor

/-
  conn: the closures of its calls.
-/
import Derived.Test.YtlbopdfobgjjaaaGreatDoorRc
import Derived.Test.YtlbopdfobgjjaaaGreatDoorKey
import Derived.Deep.RegionHeld3
set_option maxHeartbeats 2000000
namespace Go.Proofs.YtlbopdfobgjjaaaGreatDoor
open Go.RowKit
theorem silentcl_any {K:Nat->Prop} {n:Nat} {w:World} {a c:Nat} {x:Cn.SR} (h:InAct K n w a c x) (hn:n<=80) :
  Calls Tryz.prog 113 #[.pointer (some ⟨a,0,none⟩)] w fun e w'=>e=.returned (.tuple #[])/\InAct K (n+3) w' a c (Cn.silent x)/\Touch (OfAct K) w w':=by
 obtain ⟨st,hst⟩:=qx x.1.state
 have HS:=lh hst
 obtain ⟨sq,hsq⟩:=qx x.1.sq
 have HSQ:=lh hsq
 obtain ⟨peer,hpe⟩:=qx x.1.peer
 have HPE:=lh hpe
 have HI1:=lh h
 have HT1:Hid (Touch (OfAct K) w w):=Touch.refl _ _
 clear h hst hsq hpe
 go_enter Tryz.func113,Tryz.ntmps113
 obtain ⟨w1,rfl⟩:=xq w
 go_wp2_with fail
 refine (report_any HI1.out (by omega) 80).mono ?_
 rintro e w2 ⟨rfl,i2,t2⟩
 have HI2:=lh i2
 have HT2:Hid (Touch (OfAct K) _ w2):=HT1.out.trans t2 (fun _ _ e=>e)
 clear i2 t2
 go_wp2_with fail
 refine (quit_any HI2.out (by omega)).mono ?_
 rintro e w3 ⟨rfl,i3,t3⟩
 have HI3:=lh i3
 have HT3:Hid (Touch (OfAct K) _ w3):=HT2.out.trans t3 (fun _ _ e=>e)
 clear i3 t3
 go_wp2_with fail
 refine (tell_any HI3.out (by omega) (Cn.sig 3 true Cn.no)).mono ?_
 rintro e w4 ⟨rfl,i4,t4⟩
 have HI4:=lh i4
 have HT4:Hid (Touch (OfAct K) _ w4):=HT3.out.trans t4 (fun _ _ e=>e)
 clear i4 t4
 go_wp2_with fail
 refine (to_any' HI4.out 1).mono ?_
 rintro e w5 ⟨rfl,i5,t5⟩
 have HI5:=lh i5
 have HT5:Hid (Touch (OfAct K) _ w5):=HT4.out.trans t5 (fun _ _ e=>e)
 clear i5 t5
 have HX:Hid (InAct K (n+3) w5 a c (Cn.silent x)/\Touch (OfAct K) w1 w5):=by
  refine ⟨InAct.eq (HI5.out.wide (by omega)) ?_,HT5.out⟩
  rfl
 clear HI5 HT5
 go_wp2
 first
  |(go_end0;exact ⟨rfl,HX.out⟩)
  |exact bodyPost_ret (results_none rfl _ _ _) rfl ⟨rfl,HX.out⟩
theorem failcl_any {K:Nat->Prop} {n:Nat} {w:World} {a c:Nat} {x:Cn.SR} (h:InAct K n w a c x) (hn:n<=80) {gk:Nat} {code:Int} (hb:Blk w gk 5 [.int .u8 code]) (_hk:K gk) :
  Calls Tryz.prog 237 #[.pointer (some ⟨a,0,none⟩),.pointer (some ⟨gk,0,none⟩)] w fun e w'=>e=.returned (.tuple #[])/\InAct K (n+2) w' a c (Cn.fail x code)/\Touch (OfAct K) w w':=by
 obtain ⟨st,hst⟩:=qx x.1.state
 have HS:=lh hst
 obtain ⟨sq,hsq⟩:=qx x.1.sq
 have HSQ:=lh hsq
 obtain ⟨peer,hpe⟩:=qx x.1.peer
 have HPE:=lh hpe
 have HI1:=lh h
 have HT1:Hid (Touch (OfAct K) w w):=Touch.refl _ _
 clear h hst hsq hpe
 go_enter Tryz.func237,Tryz.ntmps237
 obtain ⟨w1,rfl⟩:=xq w
 have d0:w1.cell? ⟨gk,0,none⟩=some (.int .u8 code):=hb.cell 0
 clear hb _hk
 go_wp2_with fail
 refine (report_any HI1.out (by omega) code).mono ?_
 rintro e w2 ⟨rfl,i2,t2⟩
 have HI2:=lh i2
 have HT2:Hid (Touch (OfAct K) _ w2):=HT1.out.trans t2 (fun _ _ e=>e)
 clear i2 t2
 go_wp2_with fail
 refine (begin_any HI2.out (by omega) 7 ByteArray.empty).mono ?_
 rintro e w3 ⟨rfl,i3,t3⟩
 have HI3:=lh i3
 have HT3:Hid (Touch (OfAct K) _ w3):=HT2.out.trans t3 (fun _ _ e=>e)
 clear i3 t3
 have HX:Hid (InAct K (n+2) w3 a c (Cn.fail x code)/\Touch (OfAct K) w1 w3):=by
  refine ⟨InAct.eq (HI3.out.wide (by omega)) ?_,HT3.out⟩
  rfl
 clear HI3 HT3
 go_wp2
 first
  |(go_end0;exact ⟨rfl,HX.out⟩)
  |exact bodyPost_ret (results_none rfl _ _ _) rfl ⟨rfl,HX.out⟩
theorem askcl_any {K:Nat->Prop} {n:Nat} {w:World} {a c:Nat} {x:Cn.SR} (h:InAct K n w a c x) (hn:n<=80) {gk gd:Nat} {kind:Int} {d:ByteArray} (hb:Blk w gk 3 [.int .i64 kind]) (hb2:Blk w gd 9 [.string d]) :
  Calls Tryz.prog 127 #[.pointer (some ⟨a,0,none⟩),.pointer (some ⟨gk,0,none⟩),.pointer (some ⟨gd,0,none⟩)] w fun e w'=>e=.returned (.tuple #[])/\InAct K (n+1) w' a c (Cn.ask x kind d)/\Touch (OfAct K) w w':=by
 obtain ⟨st,hst⟩:=qx x.1.state
 have HS:=lh hst
 obtain ⟨sq,hsq⟩:=qx x.1.sq
 have HSQ:=lh hsq
 obtain ⟨peer,hpe⟩:=qx x.1.peer
 have HPE:=lh hpe
 have HI1:=lh h
 have HT1:Hid (Touch (OfAct K) w w):=Touch.refl _ _
 clear h hst hsq hpe
 go_enter Tryz.func127,Tryz.ntmps127
 obtain ⟨w1,rfl⟩:=xq w
 have d0:w1.cell? ⟨gk,0,none⟩=some (.int .i64 kind):=hb.cell 0
 have d1:w1.cell? ⟨gd,0,none⟩=some (.string d):=hb2.cell 0
 clear hb hb2
 go_wp2_with fail
 refine (ask_any HI1.out (by omega) kind d).mono ?_
 rintro e w2 ⟨rfl,i2,t2⟩
 have HI2:=lh i2
 have HT2:Hid (Touch (OfAct K) _ w2):=HT1.out.trans t2 (fun _ _ e=>e)
 clear i2 t2
 have HX:Hid (InAct K (n+1) w2 a c (Cn.ask x kind d)/\Touch (OfAct K) w1 w2):=by
  refine ⟨InAct.eq (HI2.out.wide (by omega)) ?_,HT2.out⟩
  rfl
 clear HI2 HT2
 go_wp2
 first
  |(go_end0;exact ⟨rfl,HX.out⟩)
  |exact bodyPost_ret (results_none rfl _ _ _) rfl ⟨rfl,HX.out⟩
theorem expirecl_any {K:Nat->Prop} {n:Nat} {w:World} {a c:Nat} {x:Cn.SR} (h:InAct K n w a c x) (hn:n<=80) :
  Calls Tryz.prog 107 #[.pointer (some ⟨a,0,none⟩)] w fun e w'=>e=.returned (.tuple #[])/\InAct K (n+3) w' a c (Cn.expire x)/\Touch (OfAct K) w w':=by
 obtain ⟨st,hst⟩:=qx x.1.state
 have HS:=lh hst
 obtain ⟨sq,hsq⟩:=qx x.1.sq
 have HSQ:=lh hsq
 obtain ⟨peer,hpe⟩:=qx x.1.peer
 have HPE:=lh hpe
 have HI1:=lh h
 have HT1:Hid (Touch (OfAct K) w w):=Touch.refl _ _
 clear h hst hsq hpe
 go_enter Tryz.func107,Tryz.ntmps107
 obtain ⟨w1,rfl⟩:=xq w
 obtain ⟨cc,hcc⟩:=qx x.1.cc
 obtain ⟨mo,hmo⟩:=qx x.1.most
 have hck:0<=cc/\cc<=16/\1<=mo/\mo<=16:=by obtain ⟨A1,c1,A2,c2,hh⟩:=HI1.out;have:=hh.ok;rw [<- hcc,<- hmo];exact ⟨this.cc0,this.cc1,this.most0,this.most1⟩
 obtain ⟨q1,q2,q3,q4⟩:=hck
 have hh:=HI1.out
 obtain ⟨A1,c1,A2,c2,hh⟩:=hh
 have k0:w1.cell? ⟨a,0,none⟩=some (.pointer (some ⟨c,0,none⟩)):=hh.blk.cell 0
 have s2:w1.cell? ⟨c,2,none⟩=some (.int .i64 st):=by rw [<- HS.out];exact hh.conn.cell 2
 clear hh
 have s5:w1.cell? ⟨c,5,none⟩=some (.int .i64 cc):=by obtain ⟨A1,c1,A2,c2,hh⟩:=HI1.out;rw [<- hcc];exact hh.conn.cell 5
 have s0:w1.cell? ⟨c,0,none⟩=some (.int .i64 mo):=by obtain ⟨A1,c1,A2,c2,hh⟩:=HI1.out;rw [<- hmo];exact hh.conn.cell 0
 have HCC:=lh hcc
 have HMO:=lh hmo
 clear hcc hmo
 by_cases e1:st=2\/st=4\/st=5\/st=7
 ·have HE1:Hid (x.1.state=2\/x.1.state=4\/x.1.state=5\/x.1.state=7):=by unfold Hid;rw [HS.out];exact e1
  by_cases hlt:cc<mo
  ·have HLT:Hid (x.1.cc<x.1.most):=by unfold Hid;rw [HCC.out,HMO.out];exact hlt
   have hltb:decide (cc<mo)=true:=decide_eq_true hlt
   have hcb:cc+1<=16:=by omega
   have HSM:Hid (InAct K n (w1.setCell ⟨c,5,none⟩ (.int .i64 (cc+1))).drew a c ({ x.1 with cc:=x.1.cc+1 },x.2)/\Touch (OfAct K) w1 (w1.setCell ⟨c,5,none⟩ (.int .i64 (cc+1))).drew):=by
    obtain ⟨A1,c1,A2,c2,hh⟩:=HI1.out
    refine InAct.done ?_
    rw [<- HCC.out]
    exact ⟨⟨_,_,_,_,hh.conn1 (s:={ x.1 with cc:=x.1.cc+1 }) 5 (.int .i64 (x.1.cc+1)) rfl ⟨hh.ok.sq0,hh.ok.sq1,by have:=hh.ok.cc0;show 0<=x.1.cc+1;omega,by show x.1.cc+1<=16;rw [HCC.out];exact hcb,hh.ok.most0,hh.ok.most1⟩⟩,(Touch.refl _ _).st hh.nc⟩
   have hne:¬ a=c:=by obtain ⟨A1,c1,A2,c2,hh⟩:=HI1.out;exact fun e=>hh.ne e.symm
   have fs5:w1.frozen? ⟨c,5,none⟩=false:=by obtain ⟨A1,c1,A2,c2,hh⟩:=HI1.out;exact Blk.frozen hh.conn 5
   rcases e1 with e1 | e1 | e1 | e1
   ·subst e1
    go_wp2
    go_region
    go_upto_region 7 with (fail)
    generalize (w1.setCell ⟨c,5,none⟩ (.int .i64 (cc+1))).drew=w2 at *
    have HI2:=lh HSM.out.1
    have HT2:=lh HSM.out.2
    clear k0 s2 s5 s0 fs5 HI1 HT1 HSM
    go_wp2_with fail
    refine (again_any HI2.out (by omega)).mono ?_
    rintro e w3 ⟨rfl,i3,t3⟩
    have HI3:=lh i3
    have HT3:Hid (Touch (OfAct K) _ w3):=HT2.out.trans t3 (fun _ _ e=>e)
    clear i3 t3
    have HX:Hid (InAct K (n+3) w3 a c (Cn.expire x)/\Touch (OfAct K) w1 w3):=by
     refine ⟨InAct.eq (HI3.out.wide (by omega)) ?_,HT3.out⟩
     unfold Cn.expire;rw [if_pos HE1.out,if_pos HLT.out]
    clear HI3 HT3
    go_wp2
    first
     |(go_end0;exact ⟨rfl,HX.out⟩)
     |exact bodyPost_ret (results_none rfl _ _ _) rfl ⟨rfl,HX.out⟩
   ·subst e1
    go_wp2
    go_region
    go_upto_region 7 with (fail)
    generalize (w1.setCell ⟨c,5,none⟩ (.int .i64 (cc+1))).drew=w2 at *
    have HI2:=lh HSM.out.1
    have HT2:=lh HSM.out.2
    clear k0 s2 s5 s0 fs5 HI1 HT1 HSM
    go_wp2_with fail
    refine (again_any HI2.out (by omega)).mono ?_
    rintro e w3 ⟨rfl,i3,t3⟩
    have HI3:=lh i3
    have HT3:Hid (Touch (OfAct K) _ w3):=HT2.out.trans t3 (fun _ _ e=>e)
    clear i3 t3
    have HX:Hid (InAct K (n+3) w3 a c (Cn.expire x)/\Touch (OfAct K) w1 w3):=by
     refine ⟨InAct.eq (HI3.out.wide (by omega)) ?_,HT3.out⟩
     unfold Cn.expire;rw [if_pos HE1.out,if_pos HLT.out]
    clear HI3 HT3
    go_wp2
    first
     |(go_end0;exact ⟨rfl,HX.out⟩)
     |exact bodyPost_ret (results_none rfl _ _ _) rfl ⟨rfl,HX.out⟩
   ·subst e1
    go_wp2
    go_region
    go_upto_region 7 with (fail)
    generalize (w1.setCell ⟨c,5,none⟩ (.int .i64 (cc+1))).drew=w2 at *
    have HI2:=lh HSM.out.1
    have HT2:=lh HSM.out.2
    clear k0 s2 s5 s0 fs5 HI1 HT1 HSM
    go_wp2_with fail
    refine (again_any HI2.out (by omega)).mono ?_
    rintro e w3 ⟨rfl,i3,t3⟩
    have HI3:=lh i3
    have HT3:Hid (Touch (OfAct K) _ w3):=HT2.out.trans t3 (fun _ _ e=>e)
    clear i3 t3
    have HX:Hid (InAct K (n+3) w3 a c (Cn.expire x)/\Touch (OfAct K) w1 w3):=by
     refine ⟨InAct.eq (HI3.out.wide (by omega)) ?_,HT3.out⟩
     unfold Cn.expire;rw [if_pos HE1.out,if_pos HLT.out]
    clear HI3 HT3
    go_wp2
    first
     |(go_end0;exact ⟨rfl,HX.out⟩)
     |exact bodyPost_ret (results_none rfl _ _ _) rfl ⟨rfl,HX.out⟩
   ·subst e1
    go_wp2
    go_region
    go_upto_region 7 with (fail)
    generalize (w1.setCell ⟨c,5,none⟩ (.int .i64 (cc+1))).drew=w2 at *
    have HI2:=lh HSM.out.1
    have HT2:=lh HSM.out.2
    clear k0 s2 s5 s0 fs5 HI1 HT1 HSM
    go_wp2_with fail
    refine (again_any HI2.out (by omega)).mono ?_
    rintro e w3 ⟨rfl,i3,t3⟩
    have HI3:=lh i3
    have HT3:Hid (Touch (OfAct K) _ w3):=HT2.out.trans t3 (fun _ _ e=>e)
    clear i3 t3
    have HX:Hid (InAct K (n+3) w3 a c (Cn.expire x)/\Touch (OfAct K) w1 w3):=by
     refine ⟨InAct.eq (HI3.out.wide (by omega)) ?_,HT3.out⟩
     unfold Cn.expire;rw [if_pos HE1.out,if_pos HLT.out]
    clear HI3 HT3
    go_wp2
    first
     |(go_end0;exact ⟨rfl,HX.out⟩)
     |exact bodyPost_ret (results_none rfl _ _ _) rfl ⟨rfl,HX.out⟩
  have HLT:Hid (¬ x.1.cc<x.1.most):=by unfold Hid;rw [HCC.out,HMO.out];exact hlt
  have hltb:decide (cc<mo)=false:=decide_eq_false hlt
  rcases e1 with e1 | e1 | e1 | e1
  ·subst e1
   have HI2:=lh (HI1.out.old (Touch.refl _ w1).drew)
   have HT2:=lh (HT1.out.drew)
   go_wp2
   go_region
   generalize w1.drew=w2 at *
   clear k0 s2 s5 s0 HI1 HT1
   go_wp2_with fail
   refine (report_any HI2.out (by omega) 79).mono ?_
   rintro e w3 ⟨rfl,i3,t3⟩
   have HI3:=lh i3
   have HT3:Hid (Touch (OfAct K) _ w3):=HT2.out.trans t3 (fun _ _ e=>e)
   clear i3 t3
   have hh:=HI3.out
   obtain ⟨A1,c1,A2,c2,hh⟩:=hh
   have k0:w3.cell? ⟨a,0,none⟩=some (.pointer (some ⟨c,0,none⟩)):=hh.blk.cell 0
   clear hh
   have s2:w3.cell? ⟨c,2,none⟩=some (.int .i64 2):=by obtain ⟨A1,c1,A2,c2,hh⟩:=HI3.out;rw [<- HS.out];exact hh.conn.cell 2
   go_wp2_with fail
   refine (quit_any HI3.out (by omega)).mono ?_
   rintro e w4 ⟨rfl,i4,t4⟩
   have HI4:=lh i4
   have HT4:Hid (Touch (OfAct K) _ w4):=HT3.out.trans t4 (fun _ _ e=>e)
   clear i4 t4
   clear k0 s2
   go_wp2_with fail
   refine (tell_any HI4.out (by omega) (Cn.sig 3 true Cn.no)).mono ?_
   rintro e w5 ⟨rfl,i5,t5⟩
   have HI5:=lh i5
   have HT5:Hid (Touch (OfAct K) _ w5):=HT4.out.trans t5 (fun _ _ e=>e)
   clear i5 t5
   go_wp2_with fail
   refine (stop_any HI5.out (by omega) 1).mono ?_
   rintro e w6 ⟨rfl,i6,t6⟩
   have HI6:=lh i6
   have HT6:Hid (Touch (OfAct K) _ w6):=HT5.out.trans t6 (fun _ _ e=>e)
   clear i6 t6
   have HX:Hid (InAct K (n+3) w6 a c (Cn.expire x)/\Touch (OfAct K) w1 w6):=by
    refine ⟨InAct.eq (HI6.out.wide (by omega)) ?_,HT6.out⟩
    unfold Cn.expire;rw [if_pos HE1.out,if_neg (Int.not_lt.2 HLT.out),if_neg (by rw [HS.out];decide)]
   clear HI6 HT6
   go_wp2
   first
    |(go_end0;exact ⟨rfl,HX.out⟩)
    |exact bodyPost_ret (results_none rfl _ _ _) rfl ⟨rfl,HX.out⟩
  ·subst e1
   have HI2:=lh (HI1.out.old (Touch.refl _ w1).drew)
   have HT2:=lh (HT1.out.drew)
   go_wp2
   go_region
   generalize w1.drew=w2 at *
   clear k0 s2 s5 s0 HI1 HT1
   go_wp2_with fail
   refine (report_any HI2.out (by omega) 79).mono ?_
   rintro e w3 ⟨rfl,i3,t3⟩
   have HI3:=lh i3
   have HT3:Hid (Touch (OfAct K) _ w3):=HT2.out.trans t3 (fun _ _ e=>e)
   clear i3 t3
   have hh:=HI3.out
   obtain ⟨A1,c1,A2,c2,hh⟩:=hh
   have k0:w3.cell? ⟨a,0,none⟩=some (.pointer (some ⟨c,0,none⟩)):=hh.blk.cell 0
   clear hh
   have s2:w3.cell? ⟨c,2,none⟩=some (.int .i64 4):=by obtain ⟨A1,c1,A2,c2,hh⟩:=HI3.out;rw [<- HS.out];exact hh.conn.cell 2
   go_wp2_with fail
   refine (tell_any HI3.out (by omega) (Cn.sig 4 false Cn.no)).mono ?_
   rintro e w4 ⟨rfl,i4,t4⟩
   have HI4:=lh i4
   have HT4:Hid (Touch (OfAct K) _ w4):=HT3.out.trans t4 (fun _ _ e=>e)
   clear i4 t4
   clear k0 s2
   go_wp2_with fail
   refine (stop_any HI4.out (by omega) 1).mono ?_
   rintro e w5 ⟨rfl,i5,t5⟩
   have HI5:=lh i5
   have HT5:Hid (Touch (OfAct K) _ w5):=HT4.out.trans t5 (fun _ _ e=>e)
   clear i5 t5
   have HX:Hid (InAct K (n+3) w5 a c (Cn.expire x)/\Touch (OfAct K) w1 w5):=by
    refine ⟨InAct.eq (HI5.out.wide (by omega)) ?_,HT5.out⟩
    unfold Cn.expire;rw [if_pos HE1.out,if_neg (Int.not_lt.2 HLT.out),if_pos HS.out]
   clear HI5 HT5
   go_wp2
   first
    |(go_end0;exact ⟨rfl,HX.out⟩)
    |exact bodyPost_ret (results_none rfl _ _ _) rfl ⟨rfl,HX.out⟩
  ·subst e1
   have HI2:=lh (HI1.out.old (Touch.refl _ w1).drew)
   have HT2:=lh (HT1.out.drew)
   go_wp2
   go_region
   generalize w1.drew=w2 at *
   clear k0 s2 s5 s0 HI1 HT1
   go_wp2_with fail
   refine (report_any HI2.out (by omega) 79).mono ?_
   rintro e w3 ⟨rfl,i3,t3⟩
   have HI3:=lh i3
   have HT3:Hid (Touch (OfAct K) _ w3):=HT2.out.trans t3 (fun _ _ e=>e)
   clear i3 t3
   have hh:=HI3.out
   obtain ⟨A1,c1,A2,c2,hh⟩:=hh
   have k0:w3.cell? ⟨a,0,none⟩=some (.pointer (some ⟨c,0,none⟩)):=hh.blk.cell 0
   clear hh
   have s2:w3.cell? ⟨c,2,none⟩=some (.int .i64 5):=by obtain ⟨A1,c1,A2,c2,hh⟩:=HI3.out;rw [<- HS.out];exact hh.conn.cell 2
   go_wp2_with fail
   refine (quit_any HI3.out (by omega)).mono ?_
   rintro e w4 ⟨rfl,i4,t4⟩
   have HI4:=lh i4
   have HT4:Hid (Touch (OfAct K) _ w4):=HT3.out.trans t4 (fun _ _ e=>e)
   clear i4 t4
   clear k0 s2
   go_wp2_with fail
   refine (tell_any HI4.out (by omega) (Cn.sig 3 true Cn.no)).mono ?_
   rintro e w5 ⟨rfl,i5,t5⟩
   have HI5:=lh i5
   have HT5:Hid (Touch (OfAct K) _ w5):=HT4.out.trans t5 (fun _ _ e=>e)
   clear i5 t5
   go_wp2_with fail
   refine (stop_any HI5.out (by omega) 1).mono ?_
   rintro e w6 ⟨rfl,i6,t6⟩
   have HI6:=lh i6
   have HT6:Hid (Touch (OfAct K) _ w6):=HT5.out.trans t6 (fun _ _ e=>e)
   clear i6 t6
   have HX:Hid (InAct K (n+3) w6 a c (Cn.expire x)/\Touch (OfAct K) w1 w6):=by
    refine ⟨InAct.eq (HI6.out.wide (by omega)) ?_,HT6.out⟩
    unfold Cn.expire;rw [if_pos HE1.out,if_neg (Int.not_lt.2 HLT.out),if_neg (by rw [HS.out];decide)]
   clear HI6 HT6
   go_wp2
   first
    |(go_end0;exact ⟨rfl,HX.out⟩)
    |exact bodyPost_ret (results_none rfl _ _ _) rfl ⟨rfl,HX.out⟩
  ·subst e1
   have HI2:=lh (HI1.out.old (Touch.refl _ w1).drew)
   have HT2:=lh (HT1.out.drew)
   go_wp2
   go_region
   generalize w1.drew=w2 at *
   clear k0 s2 s5 s0 HI1 HT1
   go_wp2_with fail
   refine (report_any HI2.out (by omega) 79).mono ?_
   rintro e w3 ⟨rfl,i3,t3⟩
   have HI3:=lh i3
   have HT3:Hid (Touch (OfAct K) _ w3):=HT2.out.trans t3 (fun _ _ e=>e)
   clear i3 t3
   have hh:=HI3.out
   obtain ⟨A1,c1,A2,c2,hh⟩:=hh
   have k0:w3.cell? ⟨a,0,none⟩=some (.pointer (some ⟨c,0,none⟩)):=hh.blk.cell 0
   clear hh
   have s2:w3.cell? ⟨c,2,none⟩=some (.int .i64 7):=by obtain ⟨A1,c1,A2,c2,hh⟩:=HI3.out;rw [<- HS.out];exact hh.conn.cell 2
   go_wp2_with fail
   refine (quit_any HI3.out (by omega)).mono ?_
   rintro e w4 ⟨rfl,i4,t4⟩
   have HI4:=lh i4
   have HT4:Hid (Touch (OfAct K) _ w4):=HT3.out.trans t4 (fun _ _ e=>e)
   clear i4 t4
   clear k0 s2
   go_wp2_with fail
   refine (tell_any HI4.out (by omega) (Cn.sig 3 true Cn.no)).mono ?_
   rintro e w5 ⟨rfl,i5,t5⟩
   have HI5:=lh i5
   have HT5:Hid (Touch (OfAct K) _ w5):=HT4.out.trans t5 (fun _ _ e=>e)
   clear i5 t5
   go_wp2_with fail
   refine (stop_any HI5.out (by omega) 1).mono ?_
   rintro e w6 ⟨rfl,i6,t6⟩
   have HI6:=lh i6
   have HT6:Hid (Touch (OfAct K) _ w6):=HT5.out.trans t6 (fun _ _ e=>e)
   clear i6 t6
   have HX:Hid (InAct K (n+3) w6 a c (Cn.expire x)/\Touch (OfAct K) w1 w6):=by
    refine ⟨InAct.eq (HI6.out.wide (by omega)) ?_,HT6.out⟩
    unfold Cn.expire;rw [if_pos HE1.out,if_neg (Int.not_lt.2 HLT.out),if_neg (by rw [HS.out];decide)]
   clear HI6 HT6
   go_wp2
   first
    |(go_end0;exact ⟨rfl,HX.out⟩)
    |exact bodyPost_ret (results_none rfl _ _ _) rfl ⟨rfl,HX.out⟩
 have HE1:Hid (¬ (x.1.state=2\/x.1.state=4\/x.1.state=5\/x.1.state=7)):=by unfold Hid;rw [HS.out];exact e1
 have b2:(st==2)=false:=by simp;intro e;exact e1 (by omega)
 have b4:(st==4)=false:=by simp;intro e;exact e1 (by omega)
 have b5:(st==5)=false:=by simp;intro e;exact e1 (by omega)
 have b7:(st==7)=false:=by simp;intro e;exact e1 (by omega)
 clear e1
 have HX:Hid (InAct K (n+3) w1 a c (Cn.expire x)/\Touch (OfAct K) w1 w1):=by
  refine ⟨InAct.eq (HI1.out.wide (by omega)) ?_,HT1.out⟩
  unfold Cn.expire;rw [if_neg HE1.out]
 clear HI1 HT1
 go_wp2
 first
  |(go_end0;exact ⟨rfl,HX.out⟩)
  |exact bodyPost_ret (results_none rfl _ _ _) rfl ⟨rfl,HX.out⟩
theorem hearcl_any {K:Nat->Prop} {n:Nat} {w:World} {a c:Nat} {x:Cn.SR} (h:InAct K n w a c x) (hn:n<=80) {gc gp:Nat} {p:Cn.Pd} (hb:Blk w gc 96 [.pointer (some ⟨c,0,none⟩)]) (hb2:Blk w gp 49 (pduE.enc p)) (hk:K gc/\K gp) :
  Calls Tryz.prog 194 #[.pointer (some ⟨a,0,none⟩),.pointer (some ⟨gc,0,none⟩),.pointer (some ⟨gp,0,none⟩)] w fun e w'=>e=.returned (.tuple #[])/\InAct K (n+7) w' a c (Cn.hear (Ru.of_ x.1.state p.kind) (Ru.letter p.kind) x p)/\Touch (OfAct K) w w':=by
 obtain ⟨st,hst⟩:=qx x.1.state
 have HS:=lh hst
 obtain ⟨sq,hsq⟩:=qx x.1.sq
 have HSQ:=lh hsq
 obtain ⟨peer,hpe⟩:=qx x.1.peer
 have HPE:=lh hpe
 have HI1:=lh h
 have HT1:Hid (Touch (OfAct K) w w):=Touch.refl _ _
 clear h hst hsq hpe
 go_enter Tryz.func194,Tryz.ntmps194
 obtain ⟨w1,rfl⟩:=xq w
 have HB1:=lh hb
 have HB2:=lh hb2
 have HK:=lh hk
 clear hb hb2 hk
 have HOF:=lh (fun W=>ruleof_any st p.kind W)
 obtain ⟨q,hq⟩:=qx (Ru.of_ x.1.state p.kind)
 rw [HS.out] at hq
 rw [HS.out,hq]
 rw [hq] at HOF
 clear hq
 have HLE:=lh (letter_any p.kind)
 generalize Ru.letter p.kind=lt at *
 have HKE:Hid (∀ W,Fresh w1 W->W.cell? ⟨gc,0,none⟩=some (.pointer (some ⟨c,0,none⟩))/\W.cell? ⟨c,2,none⟩=some (.int .i64 st)/\W.cell? ⟨gp,0,none⟩=some (.int .i64 p.kind)):=fun W hf=>by
  obtain ⟨A1,c1,A2,c2,hh⟩:=HI1.out
  exact ⟨(hf.blk HB1.out (fun e=>e)).cell 0,by rw [<- HS.out];exact Blk.cell (hf.blk hh.conn (fun e=>e)) 2,(hf.blk HB2.out (fun e=>e)).cell 0⟩
 have hf1:Fresh w1 w1.drew:=(Touch.refl _ _).drew
 go_wp2_with fail
 go_region_held3 (fun wx=>wx.cell? ⟨gc,0,none⟩=some (.pointer (some ⟨c,0,none⟩))/\wx.cell? ⟨c,2,none⟩=some (.int .i64 st)/\wx.cell? ⟨gp,0,none⟩=some (.int .i64 p.kind))
  (first
   |with_reducible exact HKE.out _ (by with_reducible assumption)
   |with_reducible assumption)
  (first
   |(go_simp;go_at_call 195;with_reducible refine (HOF.out _).mono ?_;rintro e' w' ⟨rfl,hO⟩;have hf2:Fresh w1 w':=hf1.trans hO (fun _ _ h=>h);clear hO))
 have HI2:=lh (HI1.out.old hf2)
 have HT2:Hid (Touch (OfAct K) w1 w'):=hf2.mono (fun _ _ e=>e.elim)
 have HBQ:Hid (Blk w' gp 49 (pduE.enc p)):=hf2.blk HB2.out (fun e=>e)
 have HTQ:Hid (Touch (OfAct K) w' w'):=Touch.refl _ _
 clear HI1 HT1 HB1 HB2 HKE HOF hf1 hf2
 generalize w'=w2 at *
 obtain ⟨d0,d1,d2,d3,d4,d5,d6,d7⟩:=(HTQ.out.keptB HBQ.out HK.out.2).a8
 by_cases e1:q=1
 ·subst e1
  go_wp2_with fail
  refine (handle_any HI2.out (by omega) p).mono ?_
  rintro e w3 ⟨rfl,i3,t3⟩
  have HI3:=lh i3
  have HT3:Hid (Touch (OfAct K) _ w3):=HT2.out.trans t3 (fun _ _ e=>e)
  clear i3 t3
  clear d0 d1 d2 d3 d4 d5 d6 d7
  have HX:Hid (InAct K (n+7) w3 a c (Cn.hear 1 lt x p)/\Touch (OfAct K) w1 w3):=by
   refine ⟨InAct.eq (HI3.out.wide (by omega)) ?_,HT3.out⟩
   unfold Cn.hear;rw [if_pos rfl]
  clear HI3 HT3
  go_wp2
  first
   |(go_end0;exact ⟨rfl,HX.out⟩)
   |exact bodyPost_ret (results_none rfl _ _ _) rfl ⟨rfl,HX.out⟩
 have b1:(q==1)=false:=by simpa using e1
 by_cases e2:q=2
 ·subst e2
  go_wp2_with fail
  refine (HLE.out _).mono ?_
  rintro e w3 ⟨rfl,rfl⟩
  simp only
  go_wp2_with fail
  refine (report_any HI2.out (by omega) lt).mono ?_
  rintro e w3 ⟨rfl,i3,t3⟩
  have HI3:=lh i3
  have HT3:Hid (Touch (OfAct K) _ w3):=HT2.out.trans t3 (fun _ _ e=>e)
  clear i3 t3
  clear d0 d1 d2 d3 d4 d5 d6 d7
  have HX:Hid (InAct K (n+7) w3 a c (Cn.hear 2 lt x p)/\Touch (OfAct K) w1 w3):=by
   refine ⟨InAct.eq (HI3.out.wide (by omega)) ?_,HT3.out⟩
   unfold Cn.hear;rw [if_neg (by decide),if_pos rfl]
  clear HI3 HT3
  go_wp2
  first
   |(go_end0;exact ⟨rfl,HX.out⟩)
   |exact bodyPost_ret (results_none rfl _ _ _) rfl ⟨rfl,HX.out⟩
 have b2:(q==2)=false:=by simpa using e2
 by_cases e3:q=3
 ·subst e3
  go_wp2_with fail
  refine (HLE.out _).mono ?_
  rintro e w3 ⟨rfl,rfl⟩
  simp only
  go_wp2_with fail
  refine (report_any HI2.out (by omega) lt).mono ?_
  rintro e w3 ⟨rfl,i3,t3⟩
  have HI3:=lh i3
  have HT3:Hid (Touch (OfAct K) _ w3):=HT2.out.trans t3 (fun _ _ e=>e)
  clear i3 t3
  clear d0 d1 d2 d3 d4 d5 d6 d7
  go_wp2_with fail
  refine (quit_any HI3.out (by omega)).mono ?_
  rintro e w4 ⟨rfl,i4,t4⟩
  have HI4:=lh i4
  have HT4:Hid (Touch (OfAct K) _ w4):=HT3.out.trans t4 (fun _ _ e=>e)
  clear i4 t4
  have HX:Hid (InAct K (n+7) w4 a c (Cn.hear 3 lt x p)/\Touch (OfAct K) w1 w4):=by
   refine ⟨InAct.eq (HI4.out.wide (by omega)) ?_,HT4.out⟩
   unfold Cn.hear;rw [if_neg (by decide),if_neg (by decide),if_pos rfl]
  clear HI4 HT4
  go_wp2
  first
   |(go_end0;exact ⟨rfl,HX.out⟩)
   |exact bodyPost_ret (results_none rfl _ _ _) rfl ⟨rfl,HX.out⟩
 have b3:(q==3)=false:=by simpa using e3
 by_cases e4:q=4
 ·subst e4
  go_wp2_with fail
  refine (HLE.out _).mono ?_
  rintro e w3 ⟨rfl,rfl⟩
  simp only
  go_wp2_with fail
  refine (report_any HI2.out (by omega) lt).mono ?_
  rintro e w3 ⟨rfl,i3,t3⟩
  have HI3:=lh i3
  have HT3:Hid (Touch (OfAct K) _ w3):=HT2.out.trans t3 (fun _ _ e=>e)
  clear i3 t3
  clear d0 d1 d2 d3 d4 d5 d6 d7
  go_wp2_with fail
  refine (tell_any HI3.out (by omega) (Cn.sig 3 true Cn.no)).mono ?_
  rintro e w4 ⟨rfl,i4,t4⟩
  have HI4:=lh i4
  have HT4:Hid (Touch (OfAct K) _ w4):=HT3.out.trans t4 (fun _ _ e=>e)
  clear i4 t4
  go_wp2_with fail
  refine (stop_any HI4.out (by omega) 1).mono ?_
  rintro e w5 ⟨rfl,i5,t5⟩
  have HI5:=lh i5
  have HT5:Hid (Touch (OfAct K) _ w5):=HT4.out.trans t5 (fun _ _ e=>e)
  clear i5 t5
  have HX:Hid (InAct K (n+7) w5 a c (Cn.hear 4 lt x p)/\Touch (OfAct K) w1 w5):=by
   refine ⟨InAct.eq (HI5.out.wide (by omega)) ?_,HT5.out⟩
   unfold Cn.hear;rw [if_neg (by decide),if_neg (by decide),if_neg (by decide),if_pos rfl]
  clear HI5 HT5
  go_wp2
  first
   |(go_end0;exact ⟨rfl,HX.out⟩)
   |exact bodyPost_ret (results_none rfl _ _ _) rfl ⟨rfl,HX.out⟩
 have b4:(q==4)=false:=by simpa using e4
 have HN:Hid (¬ q=1/\¬ q=2/\¬ q=3/\¬ q=4):=⟨e1,e2,e3,e4⟩
 clear e1 e2 e3 e4
 have HX:Hid (InAct K (n+7) w2 a c (Cn.hear q lt x p)/\Touch (OfAct K) w1 w2):=by
  refine ⟨InAct.eq (HI2.out.wide (by omega)) ?_,HT2.out⟩
  obtain ⟨n1,n2,n3,n4⟩:=HN.out;unfold Cn.hear;rw [if_neg n1,if_neg n2,if_neg n3,if_neg n4]
 clear HI2 HT2
 go_wp2
 first
  |(go_end0;exact ⟨rfl,HX.out⟩)
  |exact bodyPost_ret (results_none rfl _ _ _) rfl ⟨rfl,HX.out⟩
end Go.Proofs.YtlbopdfobgjjaaaGreatDoor

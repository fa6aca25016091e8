/-
  link.is, Node, Request. Conditions: the ends are in a phase; the request may be made · link.Bring: a unit's frame comes to an end. Conditions: the ends are in a phase behind it · link.Carry: none, one that is lost, one that comes. Conditions: the ends are in a phase behind it · link.Tick: both ends' timers. Conditions: the ends are in a phase behind it.
-/
import Derived.Test.YtlbopdfobgjjaaaGreatDoorLkU
import Derived.Test.YtlbopdfobgjjaaaGreatDoorEnRq
import Derived.Test.YtlbopdfobgjjaaaGreatDoorPrN
set_option maxHeartbeats 8000000
namespace Go.Proofs.YtlbopdfobgjjaaaGreatDoor
open Go.RowKit
set_option maxRecDepth 20000
section
variable {K:Lk} {E:Su.Env} {Z Kb inc:Bool} {e n:Int} {v:Nat} {D0 D D2:Nat->Nat} {w0 w w2:World} {s0 s:Su.Sy} {N i:Nat} {L0 L:List Rec} {A:Option Addr} {c:Nat}
theorem LkAt.at2 (h:LkAt K D w s N) (hi:i<2):w.cell? ⟨K.l,1+i*2,none⟩=some (.pointer (some ⟨K.n i,0,none⟩))/\w.cell? ⟨K.l,1+i*2+1,none⟩=some (.pointer (some ⟨K.p i,0,none⟩)):=by
 have hx:i=0\/i=1:=by omega
 obtain ⟨-,h1,h2,h3,h4⟩:=h.cells
 rcases hx with rfl | rfl
 ·exact ⟨h1,h2⟩
 ·exact ⟨h3,h4⟩
theorem lis_any (hi:i<2) (w:World):Calls Tryz.prog 14 #[.int .i64 i] w fun e w'=>e=.returned (.bool true)/\w'=w:=by
 have h0:(0:Int)<=(i:Int):=by omega
 have h1:(i:Int)<2:=by omega
 clear hi
 go_enter Tryz.func14,Tryz.ntmps14
 go_wp2_with fail
 go_ret
 exact ⟨rfl,rfl⟩
theorem lnode_any (h:LkAt K D w s N) (hi:i<2):Calls Tryz.prog 7 #[.pointer (some ⟨K.l,0,none⟩),.int .i64 i] w fun e w'=>e=.returned (.pointer (some ⟨K.n i,0,none⟩))/\w'=w:=by
 have h0:(0:Int)<=(i:Int):=by omega
 have h1:(i:Int)<2:=by omega
 have c1:=(h.at2 hi).1
 have HI:=lh (lis_any hi)
 clear hi h
 go_enter Tryz.func7,Tryz.ntmps7
 go_wp2_with (go_at_call 14;(with_reducible refine (HI.out _).mono ?_);rintro e w2 ⟨rfl,rfl⟩)
 go_ret
 exact ⟨rfl,rfl⟩
structure Said (K:Lk) (E:Su.Env) (Z Kb:Bool) (e n:Int) (inc:Bool) (v:Nat) (D:Nat->Nat) (w:World) (s0:Su.Sy) (N:Nat) (D':Nat->Nat) (w':World) (s:Su.Sy):Prop where
 lk:LkTo K D w s N D' w'
 ph:Su.PhS E Z Kb e n inc v s
 mu:∀ k,k<2->Su.mu k s=Su.mu k s0
 en:∀ k,k<2->En.next (s.x k)=(s.x k,none)\/K.room<=(s.q (1-k)).length
theorem Pmp.said (h:Pmp K E Z Kb e n inc v D0 w0 s0 N L0 2 D w s A c L):Said K E Z Kb e n inc v D0 w0 s0 N D w s:=⟨h.run.lk,h.ph,h.mu,h.en⟩
theorem En.asked {x y:En.X} {kd m:Int} {d:ByteArray} {l:List Cn.Sig} (h:En.request x kd d m=(y,l,0)) (hk:kd<7):Cn.askErr x.conn kd d=0:=by
 have e:En.ask x kd d m=En.askC x kd d:=by
  unfold En.ask
  rw [if_neg (by omega),if_neg (by omega),if_neg (by omega),if_neg (by omega),if_neg (by omega)]
 by_cases h0:Cn.askErr x.conn kd d=0
 ·exact h0
 ·exfalso
  unfold En.request at h
  rw [e] at h
  unfold En.askC at h
  rw [if_neg h0] at h
  dsimp only at h
  rw [if_neg h0] at h
  split at h
  ·split at h
   ·injection h with h1 h2
    injection h2 with h2 h3
    exact h0 h3
   ·injection h with h1 h2
    injection h2 with h2 h3
    cases h3
  ·rename_i hne
   injection h with h1 h2
   injection h2 with h2 h3
   exact hne h3
theorem lk_lit (h:LkTo K D w s N D2 w2) (r:Rec) (cs:Array Value) (hc:cs.toList=recE.all [r]):Run K D w (lab D2 w2.heap.size 45) (w2.alloc (.cells cs recE.e)) s N (some ⟨w2.heap.size,0,none⟩) 1 [r]:=
 ⟨h.old ((Touch.refl _ _).alloc _) (fun b hb=>lab_old hb),⟨Sl.lit recE w2 _ rfl cs [r] hc 1 rfl (by decide),fun ad e=>by injection e with e;subst e;exact ⟨lab_new (Nat.le_refl _),h.touch.size⟩⟩⟩
def ReqPost (K:Lk) (E:Su.Env) (Z Kb:Bool) (e n:Int) (inc:Bool) (v:Nat) (D:Nat->Nat) (w:World) (s0:Su.Sy) (N:Nat) (x:Ending) (w':World):Prop:=∃ (D':Nat->Nat) (s:Su.Sy) (A:Option Addr) (c l:Nat),x=.returned (.tuple #[.slice A l c,.int .i64 0])/\Said K E Z Kb e n inc v D w s0 N D' w' s
theorem lreq_any (hE:E.Ok) (h:LkAt K D w s N) (hi:i<2) (hf:Su.Fits (s.x i)) {kd:Int} {d:ByteArray} (hk:kd<7) (hd:d.size<=maxLen) {y:En.X} (hq:En.request (s.x i) kd d 0=(y,[],0)) (hp:Su.PhS E Z Kb e n inc v (s.setX i y)) (hr:K.room<=256) (hN:N<=900000) :
  Calls Tryz.prog 5 #[.pointer (some ⟨K.l,0,none⟩),.int .i64 i,.agg #[.int .i64 kd,.string d,.int .i64 0]] w (ReqPost K E Z Kb e n inc v D w (s.setX i y) N):=by
 have h0:(0:Int)<=(i:Int):=by omega
 have h1:(i:Int)<2:=by omega
 have HI:=lh (lis_any hi)
 obtain ⟨w1,hw1⟩:=xq (w.alloc (.cells #[.int .i64 kd,.string d,.int .i64 0] 40))
 obtain ⟨b0,hb0⟩:=xq w.heap.size
 obtain ⟨D1,hD1⟩:=xq (lab D w.heap.size 46)
 have hf1:Fresh w w1:=by rw [hw1];exact (Touch.refl _ _).alloc _
 have HL1:Hid (LkTo K D w s N D1 w1):=by rw [hD1];exact (LkTo.refl h).old hf1 (fun b hb=>lab_old hb)
 have HBX:Hid (Blk w1 b0 40 [.int .i64 kd,.string d,.int .i64 0]/\D1 b0=46):=by rw [hw1,hb0,hD1];exact ⟨Blk.new w _ _,lab_new (Nat.le_refl _)⟩
 have KF:Hid (∀ wx,Fresh w1 wx->wx.cell? ⟨K.l,1+i*2,none⟩=some (.pointer (some ⟨K.n i,0,none⟩))/\wx.cell? ⟨b0,0,none⟩=some (.int .i64 kd)/\wx.cell? ⟨b0,1,none⟩=some (.string d)/\wx.cell? ⟨b0,2,none⟩=some (.int .i64 0)):=fun wx hw=>by
  have h2:=hw.blk HBX.out.1 (fun e=>e)
  exact ⟨((HL1.out.old hw (fun _ _=>rfl)).at_.at2 hi).1,h2.cell 0,h2.cell 1,h2.cell 2⟩
 have HRQ:Hid (∀ W,Fresh w1 W->Calls Tryz.prog 15 #[.pointer (some ⟨K.n i,0,none⟩),.agg #[.int .i64 kd,.string d,.int .i64 0]] W fun x w3=>∃ A1 c1,x=.returned (.tuple #[.slice A1 0 c1,.int .i64 0])/\∃ D3,LkTo K D w (s.setX i y) N D3 w3/\Sl sigE w3 A1 c1 []/\(∀ ad,A1=some ad->D3 ad.block ≠ 45)/\Blk w3 b0 40 [.int .i64 kd,.string d,.int .i64 0]/\D3 b0=46):=fun W hw=>by
  have h2:=HL1.out.old hw (D2:=D1) (fun _ _=>rfl)
  obtain ⟨cn,pc,un,sp,rp,A1,ca,B1,cb,hin⟩:=h2.at_.nd i hi
  refine (nrequest_conn hin hf.fit (by rw [hf.lf];exact Nat.zero_le _) kd d 0 hd hk (En.asked hq hk)).mono ?_
  rw [hq]
  rintro x w3 ⟨D3,A1,c1,rfl,h3,s3,l3⟩
  have h4:=h2.at_.ended hi h3
  refine ⟨A1,c1,rfl,D3,h2.trans h4,s3,fun ad e=>by have:=(l3 ad e).2;omega,h3.touch.blk (hw.blk HBX.out.1 (fun e=>e)) (fun e=>by unfold All at e;have:=HBX.out.2;omega),?_⟩
  rw [h3.lab.1 _ (Nat.lt_of_lt_of_le HBX.out.1.lt hw.size)]
  exact HBX.out.2
 have HTL:Hid (∀ A1 c1 D3 w3,LkTo K D w (s.setX i y) N D3 w3->Sl sigE w3 A1 c1 []->(∀ ad,A1=some ad->D3 ad.block ≠ 45)->∀ cs:Array Value,cs.toList=recE.all [⟨i,6,noU,noS,kd,d,0⟩]->Calls Tryz.prog 17 #[.slice (some ⟨w3.heap.size,0,none⟩) 1 1,.int .i64 i,.slice A1 0 c1] (w3.alloc (.cells cs recE.e)) (RunPost K D w (s.setX i y) N [⟨i,6,noU,noS,kd,d,0⟩])):=fun A1 c1 D3 w3 h3 s3 l3 cs hcs =>
  told_any (lk_lit h3 _ cs hcs) i (s3.alloc _) (fun ad e=>by rw [lab_old (s3.lt ad e)];exact l3 ad e) (by show 1+0<=100000;omega)
 have HPM:Hid (∀ D5 A5 c5 w5,Run K D w D5 w5 (s.setX i y) N A5 c5 [⟨i,6,noU,noS,kd,d,0⟩]->Calls Tryz.prog 16 #[.pointer (some ⟨K.l,0,none⟩),.slice A5 1 c5] w5 (PumpPost K E Z Kb e n inc v D w (s.setX i y) N [⟨i,6,noU,noS,kd,d,0⟩])):=fun D5 A5 c5 w5 h5=>pump_any hE h5 hp hr hN (by show 1<=100000;omega)
 have HK3:Hid (∀ D3 w3,LkTo K D w (s.setX i y) N D3 w3->Blk w3 b0 40 [.int .i64 kd,.string d,.int .i64 0]->w3.cell? ⟨K.l,1+i*2,none⟩=some (.pointer (some ⟨K.n i,0,none⟩))/\w3.cell? ⟨b0,0,none⟩=some (.int .i64 kd)/\w3.cell? ⟨b0,1,none⟩=some (.string d)/\w3.cell? ⟨b0,2,none⟩=some (.int .i64 0)):=fun D3 w3 h3 x3=>⟨(h3.at_.at2 hi).1,x3.cell 0,x3.cell 1,x3.cell 2⟩
 clear h hi hf hk hd hq hp hE hD1 hf1 HL1 HBX
 go_enter Tryz.func5,Tryz.ntmps5
 go_upto_region 1 with (fail)
 rw [<- hw1,<- hb0]
 clear hw1 hb0
 go_upto_region 3 with (go_at_call 14;(with_reducible refine (HI.out _).mono ?_);rintro e w1 ⟨rfl,rfl⟩)
 have FD:Fresh w1 w1.drew:=(Touch.refl _ _).drew
 go_region_held3 (fun wx=>wx.cell? ⟨K.l,1+i*2,none⟩=some (.pointer (some ⟨K.n i,0,none⟩))/\wx.cell? ⟨b0,0,none⟩=some (.int .i64 kd)/\wx.cell? ⟨b0,1,none⟩=some (.string d)/\wx.cell? ⟨b0,2,none⟩=some (.int .i64 0))
  (first
   |exact HK3.out _ _ h3 x3
   |(with_reducible refine KF.out _ ?_;with_reducible assumption))
  (first
   |(go_simp;go_at_call 15;(with_reducible refine (HRQ.out _ FD).mono ?_);rintro e w3 ⟨A1,c1,rfl,D3,h3,s3,l3,x3,d3⟩))
 have HT:=lh (HTL.out A1 c1 D3 w3 h3 s3 l3)
 have y0:=x3.cell 0
 have y1:=x3.cell 1
 have y2:=x3.cell 2
 clear h3 s3 l3 x3 d3 FD KF HRQ HK3 HTL
 go_wp2_with (first
  |(go_at_call 17;refine (HT.out _ rfl).mono ?_;rintro e w5 ⟨D5,A5,c5,rfl,h5⟩;have HP:=lh (HPM.out D5 A5 c5 w5 h5);clear h5)
  |(go_at_call 16;(with_reducible refine HP.out.mono ?_);rintro e w6 ⟨D6,s6,A6,c6,L6,rfl,h6⟩;have H6:=lh h6.said;clear h6))
 go_ret2
 exact ⟨D6,s6,A6,c6,L6.length,rfl,H6.out⟩
end
set_option maxRecDepth 20000
section
variable {K:Lk} {E:Su.Env} {Z Kb inc:Bool} {e n:Int} {v:Nat} {D0 D D2:Nat->Nat} {w0 w w2:World} {s0 s:Su.Sy} {N i:Nat} {L0 L:List Rec} {A:Option Addr} {c:Nat}
theorem recv_list (x:En.X) (u:Cn.Pd) (l:List Int) (A:Option Addr) (m c:Nat):En.receive x { u with lA:=A,ln:=m,lc:=c } l=En.receive x u l:=by
 cases u
 rfl
structure Tells (K:Lk) (E:Su.Env) (Z Kb:Bool) (e n:Int) (inc:Bool) (v:Nat) (D:Nat->Nat) (w:World) (s0:Su.Sy) (N:Nat) (i:Nat) (sg:List Cn.Sig) (D':Nat->Nat) (w':World) (s:Su.Sy) (A:Option Addr) (c:Nat) (L:List Rec):Prop where
 said:Said K E Z Kb e n inc v D w s0 N D' w' s
 out:Out w.heap.size D' w' A c L
 tell:∃ r L2,L=r::(sg.map (tellR i)++L2)/\r.k ≠ 5/\∀ q ∈ L2,q.k=1
 len:L.length<=2000
def TellPost (K:Lk) (E:Su.Env) (Z Kb:Bool) (e n:Int) (inc:Bool) (v:Nat) (D:Nat->Nat) (w:World) (s0:Su.Sy) (N:Nat) (i:Nat) (sg:List Cn.Sig) (x:Ending) (w':World):Prop:=∃ D' s A c L,x=.returned (.slice A L.length c)/\Tells K E Z Kb e n inc v D w s0 N i sg D' w' s A c L
theorem Pmp.tells {sg:List Cn.Sig} {r:Rec} {D1:Nat->Nat} {w1:World} (h:Pmp K E Z Kb e n inc v D1 w1 s0 N (r::sg.map (tellR i)) 2 D2 w2 s A c L) {s9:Su.Sy} {N9:Nat} (h1:LkTo K D w s9 N9 D1 w1) (hr:r.k ≠ 5) (hl:sg.length<=1500):Tells K E Z Kb e n inc v D w s0 N i sg D2 w2 s A c L:=by
 refine ⟨⟨h1.trans h.run.lk,h.ph,h.mu,h.en⟩,⟨h.run.out.sl,fun ad e=>⟨(h.run.out.lb ad e).1,Nat.le_trans h1.touch.size (h.run.out.lb ad e).2⟩⟩,?_,?_⟩
 ·obtain ⟨L2,e1,e2⟩:=h.tell
  exact ⟨r,L2,by rw [e1];rfl,hr,e2⟩
 ·have:=h.len
  rw [List.length_cons,List.length_map] at this
  omega
theorem lbring_any (hE:E.Ok) (h:LkAt K D w s N) (hi:i<2) (hf:Su.Fits (s.x i)) {u:Cn.Pd} (hu:Su.WG u) {y:En.X} {sg:List Cn.Sig} (hy:En.receive (s.x i) u []=(y,sg)) (hsg:sg.length<=1500) (hp:Su.PhS E Z Kb e n inc v (s.setX i y)) (hr:K.room<=256) (hN:N<=900000) :
  Calls Tryz.prog 19 #[.pointer (some ⟨K.l,0,none⟩),.int .i64 i,.string (Su.fr u)] w (TellPost K E Z Kb e n inc v D w (s.setX i y) N i sg):=by
 have h0:(0:Int)<=(i:Int):=by omega
 have h1:(i:Int)<2:=by omega
 have HI:=lh (lis_any hi)
 have c1:=(h.at2 hi).1
 have c0:=h.cells.1
 have HOP:Hid (Calls Tryz.prog 44 #[.pointer (some ⟨K.wr,0,none⟩),.string (Su.fr u)] w fun x w'=>∃ A' c',x=.returned (.tuple #[pduV { u with lA:=A',ln:=0,lc:=c' },.int .i64 0])/\Fresh w w'/\Mine numE w w' A' c' []):=open6_ok K.wr (Su.toP u) w h.tab.1 hu.ck
 have HRC:Hid (∀ A' c' D4 w4 W D5 A5 c5 L5,Rd numE w4 A' c' []->(∀ ad,A'=some ad->ad.block<w4.heap.size/\D4 ad.block=46)->Run K D4 w4 D5 W s N A5 c5 L5->Calls Tryz.prog 46 #[.pointer (some ⟨K.n i,0,none⟩),pduV { u with lA:=A',ln:=0,lc:=c' }] W fun x w'=>∃ B cb,x=.returned (.slice B sg.length cb)/\∃ D6,Run K D4 w4 D6 w' (s.setX i y) N A5 c5 L5/\Sl sigE w' B cb sg/\∀ ad,B=some ad->D6 ad.block ≠ 45):=fun A' c' D4 w4 W D5 A5 c5 L5 h5 l5 h6=>by
  obtain ⟨-,-,-,u1,u2⟩:=hu.form
  obtain ⟨cn,pc,un,sp,rp,A1,ca,B1,cb,hin⟩:=h6.lk.at_.nd i hi
  have hb:=hf.fit.b2
  refine (nreceive_few hin hf.fit (by omega) { u with lA:=A',ln:=0,lc:=c' } [] ⟨u1,u2,rd_any h5 W,rfl,Nat.zero_le _,fun ad e=>?_⟩ hu.few).mono ?_
  ·have e:=l5 ad e
   refine ⟨Nat.lt_of_lt_of_le e.1 h6.lk.touch.size,?_⟩
   rw [h6.lk.lab _ e.1]
   omega
  ·rw [recv_list,hy]
   rintro x w' ⟨D6,B,cb,rfl,h7,s7,l7⟩
   exact ⟨B,cb,rfl,D6,h6.ended hi h7,s7,fun ad e=>by have:=(l7 ad e).2;omega⟩
 have HTL:Hid (∀ D4 w4 D6 W B cb A6 c6 r,Run K D4 w4 D6 W (s.setX i y) N A6 c6 [r]->Sl sigE W B cb sg->(∀ ad,B=some ad->D6 ad.block ≠ 45)->Calls Tryz.prog 17 #[.slice A6 1 c6,.int .i64 i,.slice B sg.length cb] W (RunPost K D4 w4 (s.setX i y) N (r::sg.map (tellR i)))):=fun D4 w4 D6 W B cb A6 c6 r h6 s6 l6=>told_any h6 i s6 l6 (by rw [List.length_singleton];omega)
 have HPM:Hid (∀ D4 w4 D5 A5 c5 w5 r,Run K D4 w4 D5 w5 (s.setX i y) N A5 c5 (r::sg.map (tellR i))->Calls Tryz.prog 16 #[.pointer (some ⟨K.l,0,none⟩),.slice A5 (sg.length+1) c5] w5 (PumpPost K E Z Kb e n inc v D4 w4 (s.setX i y) N (r::sg.map (tellR i)))):=fun D4 w4 D5 A5 c5 w5 r h5=>by
  have h6:=pump_any hE h5 hp hr hN (by rw [List.length_cons,List.length_map];omega)
  rw [List.length_cons,List.length_map] at h6
  exact h6
 have HH:=lh h
 have HSG:Hid (sg.length<=1500):=hsg
 clear hi hf hsg hy hp hE h
 obtain ⟨fu,hfu⟩:=xq (Su.fr u)
 rw [<- hfu] at HOP ⊢
 clear hfu hu
 obtain ⟨kd,sq,nn,ps,mr,lA,ln,lc,self,dt⟩:=u
 unfold pduV at HOP HRC
 simp only at HOP HRC
 go_enter Tryz.func19,Tryz.ntmps19
 go_upto_region 5 with (first
  |(go_at_call 14;(with_reducible refine (HI.out _).mono ?_);rintro e w ⟨rfl,rfl⟩)
  |(go_at_call 44;(with_reducible refine HOP.out.mono ?_);rintro e w3 ⟨A3,c3,rfl,f3,m3⟩))
 obtain ⟨w4,hw4⟩:=xq (w3.alloc (.cells #[.int .i64 kd,.int .i64 sq,.int .u32 nn,.int .u32 ps,.int .u32 mr,.slice A3 0 c3,.bool self,.string dt] 49))
 obtain ⟨px,hpx⟩:=xq w3.heap.size
 obtain ⟨D4,hD4⟩:=xq (lab D w.heap.size 46)
 have f4:Fresh w w4:=by rw [hw4];exact f3.alloc _
 have hL4:LkTo K D w s N D4 w4:=by rw [hD4];exact (LkTo.refl HH.out).old f4 (fun b hb=>lab_old hb)
 have hB4:Blk w4 px 49 [.int .i64 kd,.int .i64 sq,.int .u32 nn,.int .u32 ps,.int .u32 mr,.slice A3 0 c3,.bool self,.string dt]:=by rw [hw4,hpx];exact Blk.new _ _ _
 have hP4:D4 px=46:=by rw [hD4,hpx];exact lab_new f3.size
 have hA4:∀ ad,A3=some ad->ad.block<w4.heap.size/\D4 ad.block=46:=fun ad e=>⟨by have:=m3.sl.lt ad e;rw [hw4];simp;omega,by rw [hD4];exact lab_new (m3.base ad e)⟩
 have hR4:Rd numE w4 A3 c3 []:=rd_any m3.sl.rd w4
 have H4:Hid (LkTo K D w s N D4 w4):=hL4
 have HRC1:Hid (∀ W,Fresh w4 W->Calls Tryz.prog 46 #[.pointer (some ⟨K.n i,0,none⟩),.agg #[.int .i64 kd,.int .i64 sq,.int .u32 nn,.int .u32 ps,.int .u32 mr,.slice A3 0 c3,.bool self,.string dt]] W fun x w'=>∃ B cb,x=.returned (.slice B sg.length cb)/\∃ D6,LkTo K D4 w4 (s.setX i y) N D6 w'/\Sl sigE w' B cb sg/\∀ ad,B=some ad->D6 ad.block ≠ 45):=fun W hw=>(HRC.out A3 c3 D4 w4 W D4 none 0 [] hR4 hA4 ⟨(LkTo.refl hL4.at_).old hw (fun _ _=>rfl),Out.nil _ _ _⟩).mono fun x w' ⟨B,cb,e1,D6,h6,h7⟩=>⟨B,cb,e1,D6,h6.lk,h7⟩
 have HRC2:Hid (∀ cs:Array Value,cs.toList=recE.all [⟨i,2,⟨kd,sq,nn,ps,mr,A3,0,c3,self,dt⟩,noS,0,ByteArray.empty,0⟩]->Calls Tryz.prog 46 #[.pointer (some ⟨K.n i,0,none⟩),.agg #[.int .i64 kd,.int .i64 sq,.int .u32 nn,.int .u32 ps,.int .u32 mr,.slice A3 0 c3,.bool self,.string dt]] (w4.alloc (.cells cs recE.e)).drew fun x w'=>∃ B cb,x=.returned (.slice B sg.length cb)/\∃ D6,Run K D4 w4 D6 w' (s.setX i y) N (some ⟨w4.heap.size,0,none⟩) 1 [⟨i,2,⟨kd,sq,nn,ps,mr,A3,0,c3,self,dt⟩,noS,0,ByteArray.empty,0⟩]/\Sl sigE w' B cb sg/\∀ ad,B=some ad->D6 ad.block ≠ 45):=fun cs hcs=>HRC.out A3 c3 D4 w4 _ _ _ _ _ hR4 hA4 ((lk_lit (LkTo.refl hL4.at_) _ cs hcs).old ((Touch.refl _ _).drew) (fun _ _=>rfl))
 have HTL1:Hid (∀ D6 w' B cb,LkTo K D4 w4 (s.setX i y) N D6 w'->Sl sigE w' B cb sg->(∀ ad,B=some ad->D6 ad.block ≠ 45)->∀ cs:Array Value,cs.toList=recE.all [⟨i,2,⟨kd,sq,nn,ps,mr,A3,0,c3,self,dt⟩,noS,0,ByteArray.empty,0⟩]->Calls Tryz.prog 17 #[.slice (some ⟨w'.heap.size,0,none⟩) 1 1,.int .i64 i,.slice B sg.length cb] (w'.alloc (.cells cs recE.e)) (RunPost K D4 w4 (s.setX i y) N (⟨i,2,⟨kd,sq,nn,ps,mr,A3,0,c3,self,dt⟩,noS,0,ByteArray.empty,0⟩::sg.map (tellR i)))):=fun D6 w' B cb h6 s6 l6 cs hcs=>HTL.out D4 w4 _ _ B cb _ _ _ (lk_lit h6 _ cs hcs) (s6.alloc _) (fun ad e=>by rw [lab_old (s6.lt ad e)];exact l6 ad e)
 have HTL2:Hid (∀ D6 w' B cb A6 c6,Run K D4 w4 D6 w' (s.setX i y) N A6 c6 [⟨i,2,⟨kd,sq,nn,ps,mr,A3,0,c3,self,dt⟩,noS,0,ByteArray.empty,0⟩]->Sl sigE w' B cb sg->(∀ ad,B=some ad->D6 ad.block ≠ 45)->Calls Tryz.prog 17 #[.slice A6 1 c6,.int .i64 i,.slice B sg.length cb] w' (RunPost K D4 w4 (s.setX i y) N (⟨i,2,⟨kd,sq,nn,ps,mr,A3,0,c3,self,dt⟩,noS,0,ByteArray.empty,0⟩::sg.map (tellR i)))):=fun D6 w' B cb A6 c6 h6 s6 l6=>HTL.out D4 w4 D6 w' B cb A6 c6 _ h6 s6 l6
 have K1:Hid (∀ wx,Fresh w4 wx->wx.cell? ⟨px,0,none⟩=some (.int .i64 kd)/\wx.cell? ⟨px,1,none⟩=some (.int .i64 sq)/\wx.cell? ⟨px,2,none⟩=some (.int .u32 nn)/\wx.cell? ⟨px,3,none⟩=some (.int .u32 ps)/\wx.cell? ⟨px,4,none⟩=some (.int .u32 mr)/\wx.cell? ⟨px,5,none⟩=some (.slice A3 0 c3)/\wx.cell? ⟨px,6,none⟩=some (.bool self)/\wx.cell? ⟨px,7,none⟩=some (.string dt)):=fun wx hw=>by
  have h1:=hw.blk hB4 (fun e=>e)
  exact ⟨h1.cell 0,h1.cell 1,h1.cell 2,h1.cell 3,h1.cell 4,h1.cell 5,h1.cell 6,h1.cell 7⟩
 have K2:Hid (∀ D6 s' wx,LkTo K D4 w4 s' N D6 wx->wx.cell? ⟨px,0,none⟩=some (.int .i64 kd)/\wx.cell? ⟨px,1,none⟩=some (.int .i64 sq)/\wx.cell? ⟨px,2,none⟩=some (.int .u32 nn)/\wx.cell? ⟨px,3,none⟩=some (.int .u32 ps)/\wx.cell? ⟨px,4,none⟩=some (.int .u32 mr)/\wx.cell? ⟨px,5,none⟩=some (.slice A3 0 c3)/\wx.cell? ⟨px,6,none⟩=some (.bool self)/\wx.cell? ⟨px,7,none⟩=some (.string dt)):=fun D6 s' wx hw=>by
  have h1:=hw.touch.blk hB4 (fun e=>by omega)
  exact ⟨h1.cell 0,h1.cell 1,h1.cell 2,h1.cell 3,h1.cell 4,h1.cell 5,h1.cell 6,h1.cell 7⟩
 have K3:Hid (∀ D6 s' W o,LkTo K D4 w4 s' N D6 W->(W.alloc o).cell? ⟨px,0,none⟩=some (.int .i64 kd)/\(W.alloc o).cell? ⟨px,1,none⟩=some (.int .i64 sq)/\(W.alloc o).cell? ⟨px,2,none⟩=some (.int .u32 nn)/\(W.alloc o).cell? ⟨px,3,none⟩=some (.int .u32 ps)/\(W.alloc o).cell? ⟨px,4,none⟩=some (.int .u32 mr)/\(W.alloc o).cell? ⟨px,5,none⟩=some (.slice A3 0 c3)/\(W.alloc o).cell? ⟨px,6,none⟩=some (.bool self)/\(W.alloc o).cell? ⟨px,7,none⟩=some (.string dt)):=fun D6 s' W o hw=>K2.out D6 s' _ (hw.old ((Touch.refl _ _).alloc _) (fun _ _=>rfl))
 rw [<- hw4,<- hpx]
 clear hw4 hpx hD4 f4 hL4 hB4 hP4 hA4 hR4 HRC HTL f3 m3 c0 c1 HH HOP HI
 go_upto_region 7 with (fail)
 have FD:Fresh w4 w4.drew:=(Touch.refl _ _).drew
 go_region_held3 (fun wx=>wx.cell? ⟨px,0,none⟩=some (.int .i64 kd)/\wx.cell? ⟨px,1,none⟩=some (.int .i64 sq)/\wx.cell? ⟨px,2,none⟩=some (.int .u32 nn)/\wx.cell? ⟨px,3,none⟩=some (.int .u32 ps)/\wx.cell? ⟨px,4,none⟩=some (.int .u32 mr)/\wx.cell? ⟨px,5,none⟩=some (.slice A3 0 c3)/\wx.cell? ⟨px,6,none⟩=some (.bool self)/\wx.cell? ⟨px,7,none⟩=some (.string dt))
  (first
   |(with_reducible refine K1.out _ ?_;with_reducible assumption)
   |(with_reducible refine K1.out _ ?_;exact ((Touch.refl _ w4).alloc _).drew)
   |with_reducible exact K2.out _ _ _ h5
   |with_reducible exact K2.out _ _ _ h5.lk
   |with_reducible exact K3.out _ _ _ _ h5
   |with_reducible exact K2.out _ _ _ h6.lk
   |with_reducible exact K2.out _ _ _ h7.run.lk)
  (first
   |(go_simp;go_at_call 46;(with_reducible refine (HRC1.out _ FD).mono ?_);rintro e w5 ⟨B,cb,rfl,D5,h5,s5,l5⟩)
   |(go_simp;go_at_call 46;(refine (HRC2.out _ rfl).mono ?_);rintro e w5 ⟨B,cb,rfl,D5,h5,s5,l5⟩)
   |(go_simp;go_at_call 17;(with_reducible refine (HTL2.out _ _ _ _ _ _ h5 s5 l5).mono ?_);rintro e w6 ⟨D6,A6,c6,rfl,h6⟩)
   |(go_simp;go_at_call 17;(refine (HTL1.out _ _ _ _ h5 s5 l5 _ rfl).mono ?_);rintro e w6 ⟨D6,A6,c6,rfl,h6⟩)
   |(go_simp;go_at_call 16;(with_reducible refine (HPM.out _ _ _ _ _ _ _ h6).mono ?_);rintro e w7 ⟨D7,s7,A7,c7,L7,rfl,h7⟩))
 all_goals
  have HT:=lh (h7.tells H4.out (by show (2:Int) ≠ 5;decide) HSG.out)
  clear h7 h6 h5 s5 l5 FD K1 K2 K3 HRC1 HRC2 HTL1 HTL2 HPM H4 HSG
  go_wp2
  go_ret
  exact ⟨D7,s7,A7,c7,L7,rfl,HT.out⟩
end
set_option maxRecDepth 20000
section
variable {K:Lk} {E:Su.Env} {Z Kb inc:Bool} {e n:Int} {v:Nat} {D0 D D2:Nat->Nat} {w0 w w2:World} {s0 s:Su.Sy} {N i:Nat} {L0 L:List Rec} {A:Option Addr} {c:Nat}
theorem Tells.back {sg:List Cn.Sig} {D1:Nat->Nat} {w1:World} (h:Tells K E Z Kb e n inc v D1 w1 s0 N i sg D2 w2 s A c L) {s9:Su.Sy} {N9:Nat} (h1:LkTo K D w s9 N9 D1 w1):Tells K E Z Kb e n inc v D w s0 N i sg D2 w2 s A c L:=
 ⟨⟨h1.trans h.said.lk,h.said.ph,h.said.mu,h.said.en⟩,⟨h.out.sl,fun ad e=>⟨(h.out.lb ad e).1,Nat.le_trans h1.touch.size (h.out.lb ad e).2⟩⟩,h.tell,h.len⟩
theorem Su.setQ_self (s:Su.Sy) (i:Nat):s.setQ i (s.q i)=s:=by
 obtain ⟨x,q⟩:=s
 show Su.Sy.mk x (Su.upd q i (q i))=_
 congr 1
 funext k
 unfold Su.upd
 split
 ·rename_i e;rw [e]
 ·rfl
structure CarryAt (K:Lk) (D:Nat->Nat) (w:World) (s:Su.Sy) (N i:Nat) (k:Int) (D1:Nat->Nat) (w1:World) (b0:Nat):Prop where
 lk:LkTo K D w s N D1 w1
 bx:Blk w1 b0 45 [.int .i64 k,.int .i64 0,.int .u32 0]
 lb:D1 b0=46
 i2:i<2
theorem CarryAt.keep {k:Int} {D1:Nat->Nat} {w1 wx:World} {b0:Nat} (h:CarryAt K D w s N i k D1 w1 b0) (hw:Fresh w1 wx):wx.cell? ⟨K.l,1+i*2+1,none⟩=some (.pointer (some ⟨K.p i,0,none⟩))/\wx.cell? ⟨b0,0,none⟩=some (.int .i64 k)/\wx.cell? ⟨b0,1,none⟩=some (.int .i64 0)/\wx.cell? ⟨b0,2,none⟩=some (.int .u32 0):=by
 have h1:=hw.blk h.bx (fun e=>e)
 exact ⟨((h.lk.old hw (fun _ _=>rfl)).at_.at2 h.i2).2,h1.cell 0,h1.cell 1,h1.cell 2⟩
theorem CarryAt.keep2 {k:Int} {D1 D3:Nat->Nat} {w1 wx:World} {b0:Nat} (h:CarryAt K D w s N i k D1 w1 b0) {s3:Su.Sy} {N3:Nat} (hw:LkTo K D1 w1 s3 N3 D3 wx):wx.cell? ⟨K.l,1+i*2+1,none⟩=some (.pointer (some ⟨K.p i,0,none⟩))/\wx.cell? ⟨b0,0,none⟩=some (.int .i64 k)/\wx.cell? ⟨b0,1,none⟩=some (.int .i64 0)/\wx.cell? ⟨b0,2,none⟩=some (.int .u32 0):=by
 have h1:=hw.touch.blk h.bx (fun e=>by have:=h.lb;omega)
 exact ⟨(hw.at_.at2 h.i2).2,h1.cell 0,h1.cell 1,h1.cell 2⟩
theorem CarryAt.new (h:LkAt K D w s N) (hi:i<2) (k:Int):CarryAt K D w s N i k (lab D w.heap.size 46) (w.alloc (.cells #[.int .i64 k,.int .i64 0,.int .u32 0] 45)) w.heap.size:=
 ⟨(LkTo.refl h).old ((Touch.refl _ _).alloc _) (fun _b hb=>lab_old hb),Blk.new _ _ _,lab_new (Nat.le_refl _),hi⟩
theorem CarryAt.took {k:Int} {D1 D3:Nat->Nat} {w1 W w3:World} {b0 N3:Nat} {l:List Cn.Pd} (h:CarryAt K D w s N i k D1 w1 b0) (hw:Fresh w1 W) (hN:N<=N3) (hp:PipeTo (16*i+10) D1 W (K.p i) K.room l N3 D3 w3):LkTo K D1 w1 (s.setQ i l) N3 D3 w3:=
 ((LkTo.refl h.lk.at_).old hw (fun _ _=>rfl)).trans (((LkTo.refl h.lk.at_).old hw (D2:=D1) (fun _ _=>rfl)).at_.piped h.i2 hN hp)
def NonePost (K:Lk) (D:Nat->Nat) (w:World) (s:Su.Sy) (N:Nat) (x:Ending) (w':World):Prop:=x=.returned (.tuple #[.slice none 0 0,.bool false])/\∃ D',LkTo K D w s N D' w'
theorem lcarry_none (h:LkAt K D w s N) (hi:i<2) (hq:s.q i=[]) (k:Int) :
  Calls Tryz.prog 6 #[.pointer (some ⟨K.l,0,none⟩),.int .i64 i,.agg #[.int .i64 k,.int .i64 0,.int .u32 0]] w (NonePost K D w s N):=by
 have h0:(0:Int)<=(i:Int):=by omega
 have h1:(i:Int)<2:=by omega
 have HI:=lh (lis_any hi)
 have HC:=lh (CarryAt.new h hi k)
 obtain ⟨w1,hw1⟩:=xq (w.alloc (.cells #[.int .i64 k,.int .i64 0,.int .u32 0] 45))
 obtain ⟨b0,hb0⟩:=xq w.heap.size
 generalize lab D w.heap.size 46=D1 at HC
 rw [<- hw1,<- hb0] at HC
 have HTK:Hid (∀ W,Fresh w1 W->Calls Tryz.prog 18 #[.pointer (some ⟨K.p i,0,none⟩),.agg #[.int .i64 k,.int .i64 0,.int .u32 0]] W fun x w3=>x=.returned (.tuple #[.string ByteArray.empty,.bool false,.bool false])/\∃ D3,LkTo K D1 w1 s N D3 w3):=fun W hw=>by
  have hpp:=((LkTo.refl HC.out.lk.at_).old hw (D2:=D1) (fun _ _=>rfl)).at_.pp i hi
  rw [hq] at hpp
  refine (lp_take_none hpp k 0 0).mono ?_
  rintro x w3 ⟨rfl,D3,h3⟩
  have h4:=HC.out.took hw (Nat.le_refl _) h3
  rw [<- hq,Su.setQ_self] at h4
  exact ⟨rfl,D3,h4⟩
 clear h hi hq
 go_enter Tryz.func6,Tryz.ntmps6
 go_upto_region 1 with (fail)
 rw [<- hw1,<- hb0]
 clear hw1 hb0
 go_upto_region 3 with (go_at_call 14;(with_reducible refine (HI.out _).mono ?_);rintro e w1 ⟨rfl,rfl⟩)
 have FD:Fresh w1 w1.drew:=(Touch.refl _ _).drew
 go_region_held3 (fun wx=>wx.cell? ⟨K.l,1+i*2+1,none⟩=some (.pointer (some ⟨K.p i,0,none⟩))/\wx.cell? ⟨b0,0,none⟩=some (.int .i64 k)/\wx.cell? ⟨b0,1,none⟩=some (.int .i64 0)/\wx.cell? ⟨b0,2,none⟩=some (.int .u32 0))
  (first
   |(with_reducible refine HC.out.keep ?_;with_reducible assumption)
   |with_reducible exact HC.out.keep2 h3)
  (first
   |(go_simp;go_at_call 18;(with_reducible refine (HTK.out _ FD).mono ?_);rintro e w3 ⟨rfl,D3,h3⟩))
 have H3:=lh (HC.out.lk.trans h3)
 clear h3 FD HTK HC
 go_wp2
 go_ret2
 exact ⟨rfl,D3,H3.out⟩
def CarryPost (K:Lk) (E:Su.Env) (Z Kb:Bool) (e n:Int) (inc:Bool) (v:Nat) (D:Nat->Nat) (w:World) (s0:Su.Sy) (N:Nat) (i:Nat) (sg:List Cn.Sig) (x:Ending) (w':World):Prop:=∃ D' s A c L,x=.returned (.tuple #[.slice A L.length c,.bool true])/\Tells K E Z Kb e n inc v D w s0 N i sg D' w' s A c L
theorem lcarry_lose (hE:E.Ok) (h:LkAt K D w s N) (hi:i<2) {u:Cn.Pd} {r:List Cn.Pd} (hq:s.q i=u::r) (hp:Su.PhS E Z Kb e n inc v (s.setQ i r)) (hr:K.room<=256) (hN:N<=800000) :
  Calls Tryz.prog 6 #[.pointer (some ⟨K.l,0,none⟩),.int .i64 i,.agg #[.int .i64 1,.int .i64 0,.int .u32 0]] w (CarryPost K E Z Kb e n inc v D w (s.setQ i r) (N+1) i []):=by
 have h0:(0:Int)<=(i:Int):=by omega
 have h1:(i:Int)<2:=by omega
 have HI:=lh (lis_any hi)
 have HC:=lh (CarryAt.new h hi 1)
 obtain ⟨w1,hw1⟩:=xq (w.alloc (.cells #[.int .i64 1,.int .i64 0,.int .u32 0] 45))
 obtain ⟨b0,hb0⟩:=xq w.heap.size
 generalize lab D w.heap.size 46=D1 at HC
 rw [<- hw1,<- hb0] at HC
 have HTK:Hid (∀ W,Fresh w1 W->Calls Tryz.prog 18 #[.pointer (some ⟨K.p i,0,none⟩),.agg #[.int .i64 1,.int .i64 0,.int .u32 0]] W fun x w3=>x=.returned (.tuple #[.string ByteArray.empty,.bool true,.bool false])/\∃ D3,LkTo K D1 w1 (s.setQ i r) (N+1) D3 w3):=fun W hw=>by
  have hpp:=((LkTo.refl HC.out.lk.at_).old hw (D2:=D1) (fun _ _=>rfl)).at_.pp i hi
  rw [hq] at hpp
  refine (lp_take_lose hpp 0 0 (by omega)).mono ?_
  rintro x w3 ⟨rfl,D3,h3⟩
  exact ⟨rfl,D3,HC.out.took hw (Nat.le_succ N) h3⟩
 have HLK:=lh (LkTo.refl h)
 have HPM:Hid (∀ D3 w3,LkTo K D w (s.setQ i r) (N+1) D3 w3->∀ cs:Array Value,cs.toList=recE.all [⟨i,4,noU,noS,0,ByteArray.empty,0⟩]->Calls Tryz.prog 16 #[.pointer (some ⟨K.l,0,none⟩),.slice (some ⟨w3.heap.size,0,none⟩) 1 1] (w3.alloc (.cells cs recE.e)) (PumpPost K E Z Kb e n inc v D w (s.setQ i r) (N+1) [⟨i,4,noU,noS,0,ByteArray.empty,0⟩])):=fun D3 w3 h3 cs hcs=>pump_any hE (lk_lit h3 _ cs hcs) hp hr (by omega) (by show 1<=100000;omega)
 clear h hi hq hp hE
 go_enter Tryz.func6,Tryz.ntmps6
 go_upto_region 1 with (fail)
 rw [<- hw1,<- hb0]
 clear hw1 hb0
 go_upto_region 3 with (go_at_call 14;(with_reducible refine (HI.out _).mono ?_);rintro e w1 ⟨rfl,rfl⟩)
 have FD:Fresh w1 w1.drew:=(Touch.refl _ _).drew
 go_region_held3 (fun wx=>wx.cell? ⟨K.l,1+i*2+1,none⟩=some (.pointer (some ⟨K.p i,0,none⟩))/\wx.cell? ⟨b0,0,none⟩=some (.int .i64 1)/\wx.cell? ⟨b0,1,none⟩=some (.int .i64 0)/\wx.cell? ⟨b0,2,none⟩=some (.int .u32 0))
  (first
   |(with_reducible refine HC.out.keep ?_;with_reducible assumption)
   |with_reducible exact HC.out.keep2 h3)
  (first
   |(go_simp;go_at_call 18;(with_reducible refine (HTK.out _ FD).mono ?_);rintro e w3 ⟨rfl,D3,h3⟩))
 have HP:=lh (HPM.out D3 w3 (HC.out.lk.trans h3))
 clear h3 FD HTK HC HPM
 go_wp2_with (go_at_call 16;refine (HP.out _ rfl).mono ?_;rintro e w6 ⟨D6,s6,A6,c6,L6,rfl,h6⟩;have H6:=lh (Pmp.tells (i:=i) (sg:=[]) h6 HLK.out (by show (4:Int) ≠ 5;decide) (Nat.zero_le _));clear h6)
 go_ret2
 exact ⟨D6,s6,A6,c6,L6,rfl,H6.out⟩
theorem lcarry_come (hE:E.Ok) (h:LkAt K D w s N) (hi:i<2) {u:Cn.Pd} {r:List Cn.Pd} (hq:s.q i=u::r) (hf:Su.Fits (s.x i)) (hu:Su.WG u) {y:En.X} {sg:List Cn.Sig} (hy:En.receive (s.x i) u []=(y,sg)) (hsg:sg.length<=1500) (hp:Su.PhS E Z Kb e n inc v ((s.setQ i r).setX i y)) (hr:K.room<=256) (hN:N<=800000) :
  Calls Tryz.prog 6 #[.pointer (some ⟨K.l,0,none⟩),.int .i64 i,.agg #[.int .i64 0,.int .i64 0,.int .u32 0]] w (CarryPost K E Z Kb e n inc v D w ((s.setQ i r).setX i y) (N+1) i sg):=by
 have h0:(0:Int)<=(i:Int):=by omega
 have h1:(i:Int)<2:=by omega
 have HI:=lh (lis_any hi)
 have HC:=lh (CarryAt.new h hi 0)
 obtain ⟨w1,hw1⟩:=xq (w.alloc (.cells #[.int .i64 0,.int .i64 0,.int .u32 0] 45))
 obtain ⟨b0,hb0⟩:=xq w.heap.size
 generalize lab D w.heap.size 46=D1 at HC
 rw [<- hw1,<- hb0] at HC
 have HTK:Hid (∀ W,Fresh w1 W->Calls Tryz.prog 18 #[.pointer (some ⟨K.p i,0,none⟩),.agg #[.int .i64 0,.int .i64 0,.int .u32 0]] W fun x w3=>x=.returned (.tuple #[.string (Su.fr u),.bool true,.bool true])/\∃ D3,LkTo K D1 w1 (s.setQ i r) (N+1) D3 w3):=fun W hw=>by
  have hpp:=((LkTo.refl HC.out.lk.at_).old hw (D2:=D1) (fun _ _=>rfl)).at_.pp i hi
  rw [hq] at hpp
  refine (lp_take_carry hpp 0 0 (by omega)).mono ?_
  rintro x w3 ⟨rfl,D3,h3⟩
  exact ⟨rfl,D3,HC.out.took hw (Nat.le_succ N) h3⟩
 have HBR:Hid (∀ D3 w3,LkTo K D w (s.setQ i r) (N+1) D3 w3->Calls Tryz.prog 19 #[.pointer (some ⟨K.l,0,none⟩),.int .i64 i,.string (Su.fr u)] w3 fun x w'=>∃ D' s9 A c L,x=.returned (.slice A L.length c)/\Tells K E Z Kb e n inc v D w ((s.setQ i r).setX i y) (N+1) i sg D' w' s9 A c L):=fun D3 w3 h3=>(lbring_any hE h3.at_ hi hf hu hy hsg hp hr (by omega)).mono fun x w' ⟨D',s9,A,c,L,h5,h6⟩=>⟨D',s9,A,c,L,h5,h6.back h3⟩
 clear h hi hq hp hE hf hu hy hsg
 generalize Su.fr u=fu at *
 go_enter Tryz.func6,Tryz.ntmps6
 go_upto_region 1 with (fail)
 rw [<- hw1,<- hb0]
 clear hw1 hb0
 go_upto_region 3 with (go_at_call 14;(with_reducible refine (HI.out _).mono ?_);rintro e w1 ⟨rfl,rfl⟩)
 have FD:Fresh w1 w1.drew:=(Touch.refl _ _).drew
 go_region_held3 (fun wx=>wx.cell? ⟨K.l,1+i*2+1,none⟩=some (.pointer (some ⟨K.p i,0,none⟩))/\wx.cell? ⟨b0,0,none⟩=some (.int .i64 0)/\wx.cell? ⟨b0,1,none⟩=some (.int .i64 0)/\wx.cell? ⟨b0,2,none⟩=some (.int .u32 0))
  (first
   |(with_reducible refine HC.out.keep ?_;with_reducible assumption)
   |with_reducible exact HC.out.keep2 h3)
  (first
   |(go_simp;go_at_call 18;(with_reducible refine (HTK.out _ FD).mono ?_);rintro e w3 ⟨rfl,D3,h3⟩))
 have HB:=lh (HBR.out D3 w3 (HC.out.lk.trans h3))
 clear h3 FD HTK HC HBR
 go_wp2_with (go_at_call 19;(with_reducible refine HB.out.mono ?_);rintro e w6 ⟨D6,s6,A6,c6,L6,rfl,h6⟩;have H6:=lh h6;clear h6)
 go_ret2
 exact ⟨D6,s6,A6,c6,L6,rfl,H6.out⟩
end
set_option maxRecDepth 20000
def Su.Sy.tk (s:Su.Sy):Nat->Su.Sy
 |0=>s
 |1=>s.setX 0 (En.tick (s.x 0)).1
 |_=>(s.setX 0 (En.tick (s.x 0)).1).setX 1 (En.tick (s.x 1)).1
section
variable {K:Lk} {E:Su.Env} {Z Kb inc:Bool} {e n:Int} {v:Nat} {D0 D D2:Nat->Nat} {w0 w w2:World} {s0 s:Su.Sy} {N i:Nat} {L0 L:List Rec} {A:Option Addr} {c:Nat}
theorem Su.tk_x (hi:i<2):(s.tk i).x i=s.x i:=by
 have hx:i=0\/i=1:=by omega
 rcases hx with rfl | rfl
 ·rfl
 ·rfl
theorem Su.tk_next (hi:i<2):(s.tk i).setX i (En.tick (s.x i)).1=s.tk (i+1):=by
 have hx:i=0\/i=1:=by omega
 rcases hx with rfl | rfl
 ·rfl
 ·rfl
theorem En.dues_len {hi hi2:Int}:∀ (T:List Int) (y:En.X × List Cn.Sig),En.Fit y.1 hi hi2->(En.dues T y).2.length<=y.2.length+1000*T.length:=by
 intro T
 induction T with
 |nil=>exact fun y _=>Nat.le_refl _
 |cons t T ih =>
  intro y hf
  obtain ⟨h1,h2⟩:=En.due_ok hf t
  have h3:=ih ((En.due y.1 t).1,y.2++(En.due y.1 t).2) h1
  have e:En.dues (t::T) y=En.dues T ((En.due y.1 t).1,y.2++(En.due y.1 t).2):=rfl
  rw [e,List.length_cons]
  rw [List.length_append] at h3
  omega
theorem En.tick_len {x:En.X} {hi hi2:Int} (hf:En.Fit x hi hi2):(En.tick x).2.length<=6000:=by
 have h1:=En.dues_len (Tm.over x.tm) ({ x with tm:=Tm.tick x.tm },[]) (hi:=hi) (hi2:=hi2) ⟨hf.nd,hf.ks,hf.b1,hf.b2,hf.ep,hf.st⟩
 have h2:(Tm.over x.tm).length<=5:=Tm.overTo_len _ _
 have h3:∀ (y:En.X) (l:List Cn.Sig),(En.credit y l).2.length<=l.length+1:=fun y l=>by
  unfold En.credit
  dsimp only
  split
  ·rw [List.length_append];exact Nat.le_refl _
  ·split
   ·rw [List.length_append];exact Nat.le_refl _
   ·omega
 have h4:=h3 (En.dues (Tm.over x.tm) ({ x with tm:=Tm.tick x.tm },[])).1 (En.dues (Tm.over x.tm) ({ x with tm:=Tm.tick x.tm },[])).2
 have e:(En.tick x).2=(En.credit (En.dues (Tm.over x.tm) ({ x with tm:=Tm.tick x.tm },[])).1 (En.dues (Tm.over x.tm) ({ x with tm:=Tm.tick x.tm },[])).2).2:=rfl
 rw [e]
 simp only [List.length_nil] at h1
 omega
def TickPost (K:Lk) (E:Su.Env) (Z Kb:Bool) (e n:Int) (inc:Bool) (v:Nat) (D:Nat->Nat) (w:World) (s0:Su.Sy) (N:Nat) (x:Ending) (w':World):Prop:=∃ (D':Nat->Nat) (s:Su.Sy) (A:Option Addr) (c l:Nat),x=.returned (.slice A l c)/\Said K E Z Kb e n inc v D w s0 N D' w' s
theorem ltick_any (hE:E.Ok) (h:LkAt K D w s N) (hf:∀ i,i<2->Su.Fits (s.x i)) (hp:Su.PhS E Z Kb e n inc v (s.tk 2)) (hr:K.room<=256) (hN:N<=900000) :
  Calls Tryz.prog 9 #[.pointer (some ⟨K.l,0,none⟩)] w (TickPost K E Z Kb e n inc v D w (s.tk 2) N):=by
 obtain ⟨b0,b1,b2,b3,b4⟩:=h.cells
 have HR0:Hid (Run K D w D w (s.tk 0) N none 0 []):=⟨LkTo.refl h,Out.nil _ _ _⟩
 have HTK:Hid (∀ i,i<2->∀ D5 W A c L,Run K D w D5 W (s.tk i) N A c L->Calls Tryz.prog 26 #[.pointer (some ⟨K.n i,0,none⟩)] W fun x w3=>∃ B cb,x=.returned (.slice B (En.tick (s.x i)).2.length cb)/\∃ D3,Run K D w D3 w3 (s.tk (i+1)) N A c L/\Sl sigE w3 B cb (En.tick (s.x i)).2/\∀ ad,B=some ad->D3 ad.block ≠ 45):=fun i hi D5 W A c L h5=>by
  obtain ⟨cn,pc,un,sp,rp,A1,ca,B1,cb,hin⟩:=h5.lk.at_.nd i hi
  rw [Su.tk_x hi] at hin
  refine (ntick_any hin (hf i hi).fit).mono ?_
  rintro x w3 ⟨D3,B,cb,rfl,h3,s3,l3⟩
  have h4:=h5.ended hi h3
  rw [Su.tk_next hi] at h4
  exact ⟨B,cb,rfl,D3,h4,s3,fun ad e=>by have:=(l3 ad e).2;omega⟩
 have HTL:Hid (∀ i,i<2->∀ D5 W A c L B cb,Run K D w D5 W (s.tk (i+1)) N A c L->L.length<=10000->Sl sigE W B cb (En.tick (s.x i)).2->(∀ ad,B=some ad->D5 ad.block ≠ 45)->Calls Tryz.prog 17 #[.slice A L.length c,.int .i64 i,.slice B (En.tick (s.x i)).2.length cb] W fun x w'=>∃ L',L'.length<=L.length+6000/\RunPost K D w (s.tk (i+1)) N L' x w'):=fun i hi D5 W A c L B cb h5 hL s5 l5=>(told_any h5 i s5 l5 (by have:=En.tick_len (hf i hi).fit;omega)).mono fun x w' hx=>⟨_,by rw [List.length_append,List.length_map];have:=En.tick_len (hf i hi).fit;omega,hx⟩
 have HPM:Hid (∀ D5 A5 c5 w5 L5,Run K D w D5 w5 (s.tk 2) N A5 c5 L5->L5.length<=100000->Calls Tryz.prog 16 #[.pointer (some ⟨K.l,0,none⟩),.slice A5 L5.length c5] w5 (PumpPost K E Z Kb e n inc v D w (s.tk 2) N L5)):=fun D5 A5 c5 w5 L5 h5 hL=>pump_any hE h5 hp hr hN hL
 clear h hf hp hE
 go_enter Tryz.func9,Tryz.ntmps9
 go_wp2_with fail
 clear b0 b1 b2 b3 b4
 go_loopg [10,3] 2 (fun g v10 v3 wr=>∃ (i:Nat) (D5:Nat->Nat) (A:Option Addr) (c:Nat) (L:List Rec),i+g=2/\v10=.int .i64 i/\v3=.slice A L.length c/\Hid (Run K D w D5 wr (s.tk i) N A c L)/\Hid (L.length<=6000*i))
 case atStart=>exact ⟨0,D,none,0,[],by omega,rfl,rfl,HR0,Nat.le_refl _⟩
 case round =>
  clear HR0
  obtain ⟨i,D5,A,c,L,hi,rfl,rfl,H,HL⟩:=hrel
  cases gk with
  |succ g =>
   have hi2:i<2:=by omega
   have hk2:(i:Int)<2:=by omega
   have hk0:(0:Int)<=(i:Int):=by omega
   have hi3:i=0\/i=1:=by omega
   go_upto_region 4 with (fail)
   go_cut [4,5] (fun v5 v6 wx=>v5=.int .i64 i/\∃ (b:Nat) (D5:Nat->Nat),v6=.pointer (some ⟨b,0,none⟩)/\Hid (wx.cell? ⟨b,0,none⟩=some (.pointer (some ⟨K.n i,0,none⟩)))/\Hid (Run K D w D5 wx (s.tk i) N A c L))
   case first =>
    have HX:Hid (∀ o,Run K D w (lab D5 wr.heap.size 46) (wr.alloc o) (s.tk i) N A c L):=fun o=>H.out.box ((Touch.refl _ _).alloc _)
    have HZ:Hid (∀ x y:Nat,Blk (wr.alloc (.cells #[.pointer (some ⟨x,0,none⟩),.pointer (some ⟨y,0,none⟩)] 85)) wr.heap.size 85 [.pointer (some ⟨x,0,none⟩),.pointer (some ⟨y,0,none⟩)]):=fun x y=>Blk.new _ _ _
    clear H HL HTK HTL HPM hi2 hi
    rcases hi3 with rfl | rfl
    ·refine wp_region_lit ?_
     refine wpList_move rfl (.tmp 10) rfl ?_
     refine wpList_val (w':=wr) (v:=.agg #[.pointer (some ⟨K.n 0,0,none⟩),.pointer (some ⟨K.p 0,0,none⟩)]) rfl (side0 rfl rfl rfl) ?_
     go_wp2_with fail
     go_meet
     case rel=>exact ⟨rfl,_,_,rfl,(HZ.out _ _).cell 0,HX.out _⟩
    ·refine wp_region_lit ?_
     refine wpList_move rfl (.tmp 10) rfl ?_
     refine wpList_val (w':=wr) (v:=.agg #[.pointer (some ⟨K.n 1,0,none⟩),.pointer (some ⟨K.p 1,0,none⟩)]) rfl (side1 rfl rfl rfl) ?_
     go_wp2_with fail
     go_meet
     case rel=>exact ⟨rfl,_,_,rfl,(HZ.out _ _).cell 0,HX.out _⟩
   case rest =>
    clear H
    obtain ⟨rfl,b,D5,rfl,HB,H⟩:=hcut
    generalize wc=w1 at *
    have d0:=HB.out
    have HT:=lh (HTK.out i hi2 D5 w1 A c L H.out)
    have HTL2:=lh (HTL.out i hi2)
    clear HTK HTL H hi3
    generalize (En.tick (s.x i)).2=sg at *
    go_wp2_with (first
     |(go_at_call 26;(with_reducible refine HT.out.mono ?_);rintro e w3 ⟨B,cb,rfl,D3,h3,s3,l3⟩;have HS:=lh (HTL2.out D3 w3 A c L B cb h3 (by have:=HL.out;omega) s3 l3);clear h3 s3 l3)
     |(go_at_call 17;(with_reducible refine HS.out.mono ?_);rintro e w5 ⟨L5,hL5,D6,A6,c6,rfl,h6⟩;have H6:=lh h6;have HL6:Hid (L5.length<=L.length+6000):=hL5;clear h6 hL5))
    go_roundg g
    case measure=>omega
    case rel=>exact ⟨i+1,D6,A6,c6,L5,by omega,by go_num,rfl,H6,by have:=HL.out;have:=HL6.out;show _<=_;omega⟩
  |zero =>
   obtain rfl:i=2:=by omega
   have HP:=lh (HPM.out D5 A c wr L H.out (by have:=HL.out;omega))
   clear H HTK HTL HPM
   go_wp2_with (go_at_call 16;(with_reducible refine HP.out.mono ?_);rintro e w6 ⟨D6,s6,A6,c6,L6,rfl,h6⟩;have H6:=lh h6.said;clear h6)
   go_ret
   exact ⟨D6,s6,A6,c6,L6.length,rfl,H6.out⟩
end
end Go.Proofs.YtlbopdfobgjjaaaGreatDoor

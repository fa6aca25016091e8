/-
  node.Node: an end in memory, without an epoch · node.New: an end of any config, or none. No conditions.
-/
import Derived.Test.YtlbopdfobgjjaaaGreatDoorOpen2
import Derived.Test.YtlbopdfobgjjaaaGreatDoorCloP
import Derived.Test.YtlbopdfobgjjaaaGreatDoorCnW
import Derived.Deep.RegionHeld3
set_option maxHeartbeats 4000000
namespace Go.Proofs.YtlbopdfobgjjaaaGreatDoor
open Go.RowKit
set_option maxRecDepth 20000
namespace Nd
structure S where
 c:C
 conn:Cn.S
 tm:List Int
 ctl:List Cn.Pd
 units:List Cn.Pd
 left:List ByteArray
 poll:Bool
 stat:Bool
 asked:Int
 lacks:Bool
def S.cells (st:S) (cn pc un:Nat) (A:Option Addr) (ca:Nat) (B:Option Addr) (cl:Nat):List Value:=
 st.c.cells++[.pointer (some ⟨cn,0,none⟩),.pointer (some ⟨pc,0,none⟩),.pointer none,.pointer none,.slice A st.ctl.length ca,.pointer (some ⟨un,0,none⟩),.bool st.poll,.bool st.stat,.int .u32 st.asked,.bool st.lacks,.slice B st.left.length cl]
end Nd
structure NodeIn (w:World) (n cn pc un:Nat) (bu:Option Nat) (A:Option Addr) (ca:Nat) (B:Option Addr) (cl:Nat) (st:Nd.S):Prop where
 blk:Blk w n 104 (st.cells cn pc un A ca B cl)
 conn:ConnAt w cn st.conn
 cok:Cn.Ok st.conn
 pace:Pk w pc st.tm st.c.cc st.c.poll st.c.keep st.c.silent st.c.idle
 units:RingPdu w un bu st.c.units.toNat st.units
 ctl:Sl pduE w A ca st.ctl
 left:Sl strE w B cl st.left
 ap:∀ ad k,A=some ad->bu=some k->ad.block ≠ k
set_option maxRecDepth 20000
namespace Nd
def S.new (c:C):S:=⟨c,Cn.new c.most ((c.start+c.window)%16777216),[0,0,0,0,0],[],[],[],false,false,0,false⟩
end Nd
structure NodeNw (W0 w:World) (n:Nat) (st:Nd.S):Prop where
 fresh:Fresh W0 w
 at_:∃ cn pc un,NodeIn w n cn pc un none none 0 none 0 st/\W0.heap.size<=n/\W0.heap.size<=cn/\W0.heap.size<=pc/\W0.heap.size<=un
theorem nnew_ok (c:Nd.C) (w:World) (h:c.ok=true) :
  Calls Tryz.prog 30 #[c.val] w fun e w'=>∃ n,e=.returned (.tuple #[.pointer (some ⟨n,0,none⟩),.int .i64 0])/\NodeNw w w' n (Nd.S.new c):=by
 have HC:=lh (fun W=>ncheck_any c W)
 rw [h] at HC
 obtain ⟨x0,x1,x2,x3,x4,x5,y0,y1,y2,y3,y4⟩:=c
 have HC2:Hid (∀ W,Calls Tryz.prog 58 #[.agg #[.int .i64 x0,.int .i64 x1,.int .i64 x2,.int .i64 x3,.int .i64 x4,.int .u32 x5,.int .i64 y0,.int .i64 y1,.int .i64 y2,.int .i64 y3,.int .i64 y4]] W fun e w'=>e=.returned (.int .i64 0)/\Fresh W w'):=HC.out
 show Calls Tryz.prog 30 #[.agg #[.int .i64 x0,.int .i64 x1,.int .i64 x2,.int .i64 x3,.int .i64 x4,.int .u32 x5,.int .i64 y0,.int .i64 y1,.int .i64 y2,.int .i64 y3,.int .i64 y4]] w _
 have HV:Hid ((Nd.inb x0 16 && Nd.inb x1 64 && Nd.inb x2 256 && Nd.inb x3 64 && Nd.inb x4 256 && (x5==x5%16777216) && Nd.okP y0 y1 y2 y3 y4)=true):=h
 have HPN:Hid (∀ W,Calls Tryz.prog 60 #[.agg #[.int .i64 y0,.int .i64 y1,.int .i64 y2,.int .i64 y3,.int .i64 y4]] W fun e w'=>∃ g,e=.returned (.tuple #[.pointer (some ⟨g,0,none⟩),.int .i64 0])/\Pk w' g [0,0,0,0,0] y0 y1 y2 y3 y4/\Fresh W w'/\W.heap.size<=g):=fun W=>pnew_ok y0 y1 y2 y3 y4 W (Bool.and_eq_true_iff.1 HV.out).2
 have HX3:Hid ((max 0 (min x3 4096)).toNat=x3.toNat):=by
  have:=HV.out
  simp only [Bool.and_eq_true,Nd.inb,decide_eq_true_eq] at this
  unfold Hid
  omega
 obtain ⟨m,hm⟩:=qx ((x5+x1)%16777216)
 have HA:Hid (∀ W,Calls Tryz.prog 62 #[.int .u32 x5,.int .i64 x1] W fun e w'=>e=.returned (.int .u32 m)/\w'=W):=by rw [<- hm];exact fun W=>sadd_any x5 x1 W
 have HSN:Hid (∀ n w',NodeNw w w' n ⟨⟨x0,x1,x2,x3,x4,x5,y0,y1,y2,y3,y4⟩,Cn.new x0 m,[0,0,0,0,0],[],[],[],false,false,0,false⟩->NodeNw w w' n (Nd.S.new ⟨x0,x1,x2,x3,x4,x5,y0,y1,y2,y3,y4⟩)):=by
  rw [<- hm]
  exact fun n w' h=>h
 clear HC h hm HV
 obtain ⟨w0,hw0⟩:=xq (w.alloc (.cells #[.int .i64 x0,.int .i64 x1,.int .i64 x2,.int .i64 x3,.int .i64 x4,.int .u32 x5,.int .i64 y0,.int .i64 y1,.int .i64 y2,.int .i64 y3,.int .i64 y4] 74))
 obtain ⟨b,hb⟩:=xq w.heap.size
 have HB:Hid (Blk w0 b 74 [.int .i64 x0,.int .i64 x1,.int .i64 x2,.int .i64 x3,.int .i64 x4,.int .u32 x5,.int .i64 y0,.int .i64 y1,.int .i64 y2,.int .i64 y3,.int .i64 y4]):=by rw [hw0,hb];exact Blk.new w _ _
 have HF:Hid (Fresh w w0):=by rw [hw0];exact (Touch.refl _ _).alloc _
 have HKB:Hid (∀ wx,Fresh w0 wx->wx.cell? ⟨b,0,none⟩=some (.int .i64 x0)/\wx.cell? ⟨b,1,none⟩=some (.int .i64 x1)/\wx.cell? ⟨b,2,none⟩=some (.int .i64 x2)/\wx.cell? ⟨b,3,none⟩=some (.int .i64 x3)/\wx.cell? ⟨b,4,none⟩=some (.int .i64 x4)/\wx.cell? ⟨b,5,none⟩=some (.int .u32 x5)/\wx.cell? ⟨b,6,none⟩=some (.int .i64 y0)/\wx.cell? ⟨b,7,none⟩=some (.int .i64 y1)/\wx.cell? ⟨b,8,none⟩=some (.int .i64 y2)/\wx.cell? ⟨b,9,none⟩=some (.int .i64 y3)/\wx.cell? ⟨b,10,none⟩=some (.int .i64 y4)):=fun wx ht=>by
  have hb:=ht.blk HB.out (fun e=>e)
  exact ⟨hb.cell 0,hb.cell 1,hb.cell 2,hb.cell 3,hb.cell 4,hb.cell 5,hb.cell 6,hb.cell 7,hb.cell 8,hb.cell 9,hb.cell 10⟩
 clear HB
 go_enter Tryz.func30,Tryz.ntmps30
 go_upto_region 1 with (fail)
 rw [<- hw0,<- hb]
 clear hw0 hb
 obtain ⟨b0,b1,b2,b3,b4,b5,b6,b7,b8,b9,b10⟩:=HKB.out w0 (Touch.refl _ _)
 go_wp2_with fail
 refine (HC2.out _).mono ?_
 rintro e w1 ⟨rfl,t1⟩
 have HT1:Hid (Fresh w0 w1):=t1
 clear t1 HC2 b0 b1 b2 b3 b4 b5 b6 b7 b8 b9 b10
 simp only
 obtain ⟨b0,b1,b2,b3,b4,b5,b6,b7,b8,b9,b10⟩:=HKB.out w1 HT1.out
 go_wp2_with fail
 refine (HPN.out _).mono ?_
 rintro e w2 ⟨pc,rfl,hpc,t2,hpl⟩
 have HPC:=lh hpc
 have HPL:Hid (w.heap.size<=pc):=by have:=HF.out.size;have:=HT1.out.size;unfold Hid;omega
 have HT2:Hid (Fresh w0 w2):=HT1.out.trans t2 (fun _ _ e=>e)
 clear hpc hpl t2 HPN b0 b1 b2 b3 b4 b5 b6 b7 b8 b9 b10
 simp only
 go_upto_region 7 with (fail)
 have HCN:=lh (fun W=>cnew_any x0 m W)
 have HRN:=lh (fun W=>ringPdu_new x3 W)
 go_region_held3 (fun wx=>wx.cell? ⟨b,0,none⟩=some (.int .i64 x0)/\wx.cell? ⟨b,1,none⟩=some (.int .i64 x1)/\wx.cell? ⟨b,2,none⟩=some (.int .i64 x2)/\wx.cell? ⟨b,3,none⟩=some (.int .i64 x3)/\wx.cell? ⟨b,4,none⟩=some (.int .i64 x4)/\wx.cell? ⟨b,5,none⟩=some (.int .u32 x5)/\wx.cell? ⟨b,6,none⟩=some (.int .i64 y0)/\wx.cell? ⟨b,7,none⟩=some (.int .i64 y1)/\wx.cell? ⟨b,8,none⟩=some (.int .i64 y2)/\wx.cell? ⟨b,9,none⟩=some (.int .i64 y3)/\wx.cell? ⟨b,10,none⟩=some (.int .i64 y4))
  (with_reducible refine HKB.out _ ?_;repeat (first | with_reducible exact HT2.out | with_reducible exact HT4.out | with_reducible exact HT3.out | with_reducible refine Touch.drew ?_ | with_reducible refine Touch.alloc ?_ _))
  (first
   |(go_simp;go_at_call 62;with_reducible refine (HA.out _).mono ?_;rintro e w9 ⟨rfl,rfl⟩)
   |(go_simp;go_at_call 61;with_reducible refine (HCN.out _).mono ?_;rintro e w3 ⟨cn,rfl,hl3,ha3,ho3,t3⟩
     have HT3:Hid (Fresh w0 w3):=HT2.out.drew.trans t3 (fun _ _ e=>e)
     have HF3:Hid (Fresh w2.drew w3):=t3
     have HL3:=lh hl3
     have HA3:=lh ha3
     have HO3:=lh ho3
     clear hl3 ha3 ho3 t3)
   |(go_simp;go_at_call 63;with_reducible refine (HRN.out _).mono ?_;rintro e w4 ⟨rfl,hr4,t4⟩
     have HT4:Hid (Fresh w0 w4):=HT3.out.trans t4 (fun _ _ e=>e)
     have HF4:Hid (Fresh w3 w4):=t4
     have HR4:=lh hr4
     clear hr4 t4))
 all_goals
  have HND:Hid (NodeNw w (w4.alloc (.cells #[.int .i64 x0,.int .i64 x1,.int .i64 x2,.int .i64 x3,.int .i64 x4,.int .u32 x5,.int .i64 y0,.int .i64 y1,.int .i64 y2,.int .i64 y3,.int .i64 y4,.pointer (some ⟨cn,0,none⟩),.pointer (some ⟨pc,0,none⟩),.pointer none,.pointer none,.slice none 0 0,.pointer (some ⟨w3.heap.size,0,none⟩),.bool false,.bool false,.int .u32 0,.bool false,.slice none 0 0] 104)) w4.heap.size (Nd.S.new ⟨x0,x1,x2,x3,x4,x5,y0,y1,y2,y3,y4⟩)):=by
   have f4:Fresh w3 (w4.alloc (.cells #[.int .i64 x0,.int .i64 x1,.int .i64 x2,.int .i64 x3,.int .i64 x4,.int .u32 x5,.int .i64 y0,.int .i64 y1,.int .i64 y2,.int .i64 y3,.int .i64 y4,.pointer (some ⟨cn,0,none⟩),.pointer (some ⟨pc,0,none⟩),.pointer none,.pointer none,.slice none 0 0,.pointer (some ⟨w3.heap.size,0,none⟩),.bool false,.bool false,.int .u32 0,.bool false,.slice none 0 0] 104)):=HF4.out.alloc _
   have f2:Fresh w2.drew _:=HF3.out.trans f4 (fun _ _ e=>e)
   have s2:w.heap.size<=w2.heap.size:=Nat.le_trans HF.out.size HT2.out.size
   have s3:w.heap.size<=w3.heap.size:=Nat.le_trans HF.out.size HT3.out.size
   have s4:w.heap.size<=w4.heap.size:=Nat.le_trans HF.out.size HT4.out.size
   have hru:RingPdu w4 w3.heap.size none x3.toNat []:=by have:=HR4.out;rw [HX3.out] at this;exact this
   refine HSN.out _ _ ?_
   generalize hW:w4.alloc (.cells #[.int .i64 x0,.int .i64 x1,.int .i64 x2,.int .i64 x3,.int .i64 x4,.int .u32 x5,.int .i64 y0,.int .i64 y1,.int .i64 y2,.int .i64 y3,.int .i64 y4,.pointer (some ⟨cn,0,none⟩),.pointer (some ⟨pc,0,none⟩),.pointer none,.pointer none,.slice none 0 0,.pointer (some ⟨w3.heap.size,0,none⟩),.bool false,.bool false,.int .u32 0,.bool false,.slice none 0 0] 104)=W at *
   have g4:Fresh w4 W:=by rw [<- hW];exact (Touch.refl _ _).alloc _
   have gw:Fresh w W:=(HF.out.trans HT4.out (fun _ _ e=>e)).trans g4 (fun _ _ e=>e)
   have k1:Blk W w4.heap.size 104 [.int .i64 x0,.int .i64 x1,.int .i64 x2,.int .i64 x3,.int .i64 x4,.int .u32 x5,.int .i64 y0,.int .i64 y1,.int .i64 y2,.int .i64 y3,.int .i64 y4,.pointer (some ⟨cn,0,none⟩),.pointer (some ⟨pc,0,none⟩),.pointer none,.pointer none,.slice none 0 0,.pointer (some ⟨w3.heap.size,0,none⟩),.bool false,.bool false,.int .u32 0,.bool false,.slice none 0 0]:=by rw [<- hW];exact Blk.new w4 _ _
   have k2:ConnAt W cn (Cn.new x0 m):=f4.blk HA3.out (fun e=>e)
   have k3:Pk W pc [0,0,0,0,0] y0 y1 y2 y3 y4:=Bk.touch (S:=fun _=>False) HPC.out (((Touch.refl _ w2).drew).trans f2 (fun _ _ e=>e)) (fun e=>e)
   have k4:RingPdu W w3.heap.size none x3.toNat []:=hru.touch g4 (fun e=>e) (fun _ e=>nomatch e)
   exact ⟨gw,cn,pc,w3.heap.size,⟨k1,k2,HO3.out,k3,k4,Sl.nil _ _,Sl.nil _ _,fun _ _ e=>nomatch e⟩,s4,Nat.le_trans s2 HL3.out,HPL.out,s3⟩
  clear HSN HA3 HO3 HR4 HPC
  go_wp2
  exact bodyPost_ret (v:=_) (by simp [results,Tryz.results30,go_sem]) rfl ⟨_,rfl,HND.out⟩
end Go.Proofs.YtlbopdfobgjjaaaGreatDoor

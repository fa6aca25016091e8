/-
  node.Node: Vars. Conditions: what goes again is not too much.
-/
import Derived.Test.YtlbopdfobgjjaaaGreatDoorEnNc
import Derived.Test.YtlbopdfobgjjaaaGreatDoorEnZk
import Derived.Test.YtlbopdfobgjjaaaGreatDoorDetP
import Derived.Test.YtlbopdfobgjjaaaGreatDoorRow2
set_option maxHeartbeats 4000000
namespace Go.Proofs.YtlbopdfobgjjaaaGreatDoor
open Go.RowKit
set_option maxRecDepth 20000
namespace En
def connV (s:Cn.S):List Value:=[.int .i64 s.state,.int .i64 s.sq,.int .i64 s.peer,.int .i64 s.cc,.int .u32 s.ms]
def sendV (s:Sd.S) (A:Option Addr) (c:Nat):List Value:=[.int .u32 s.s,.int .u32 s.a,.int .u32 s.ms,.int .u32 s.ps,.int .u32 s.pa,.int .i64 s.units,.int .i64 (s.q.length:Int),.int .i64 (s.m.length:Int),.slice A s.again.length c]
def recvV (s:Rv.S):List Value:=[.int .u32 s.r,.int .u32 s.h,.int .u32 s.mr,.int .i64 (s.m.length:Int),.int .i64 (s.inbox.length:Int),.int .i64 (s.gaps.length:Int)]
def noS:List Value:=[.int .u32 0,.int .u32 0,.int .u32 0,.int .u32 0,.int .u32 0,.int .i64 0,.int .i64 0,.int .i64 0,.slice none 0 0]
def noR:List Value:=[.int .u32 0,.int .u32 0,.int .u32 0,.int .i64 0,.int .i64 0,.int .i64 0]
def sV (x:X) (A:Option Addr) (c:Nat):List Value:=match x.ep with
 |none=>noS
 |some e=>sendV (Sf.prog e.1) A c
def rV (x:X):List Value:=match x.ep with
 |none=>noR
 |some e=>recvV (Rf.prog e.2)
def tmK (l:List Int) (j:Nat):List Value:=(List.range 5).map fun t=>.int .i64 (if t<j then Tm.left l t else 0)
def vcells (x:X) (S R T:List Value):List Value:=connV x.conn++(S++(R++([.int .i64 (x.ctl.length:Int),.int .i64 (x.units.length:Int),.int .i64 (x.left.length:Int),.bool x.poll,.bool x.stat,.bool x.lacks]++T)))
def vzero:List Value:=[.int .i64 0,.int .i64 0,.int .i64 0,.int .i64 0,.int .u32 0]++(noS++(noR++([.int .i64 0,.int .i64 0,.int .i64 0,.bool false,.bool false,.bool false]++[.int .i64 0,.int .i64 0,.int .i64 0,.int .i64 0,.int .i64 0])))
def varsC (x:X) (A:Option Addr) (c:Nat):List Value:=vcells x (sV x A c) (rV x) (tmK x.tm 5)
def vslot (i:Nat):Nat:=[5,6,7,8,9,10,11,12,13,14,15,16,17,18,19,20,21,22,23,24,25,26,27,28,29,30,31,32,33,34,35,36,37,3,1034].getD i 2000
def vidx (k:Nat):Nat:=[0,0,0,33,0,0,1,2,3,4,5,6,7,8,9,10,11,12,13,14,15,16,17,18,19,20,21,22,23,24,25,26,27,28,29,30,31,32].getD k 0
def vD:List Nat:=[3,5,6,7,8,9,10,11,12,13,14,15,16,17,18,19,20,21,22,23,24,25,26,27,28,29,30,31,32,33,34,35,36,37]
def vval (n cn un:Nat) (A:Option Addr) (ca:Nat) (B:Option Addr) (cb:Nat) (x:En.X) (b i:Nat):Value:=if i=33 then .pointer (some ⟨b,0,none⟩) else [.pointer (some ⟨n,0,none⟩),.pointer (some ⟨n,0,none⟩),.pointer (some ⟨n,11,none⟩),.pointer (some ⟨cn,0,none⟩),.agg (En.connV x.conn).toArray,.pointer (some ⟨n,0,none⟩),.pointer (some ⟨n,0,none⟩),.pointer (some ⟨n,15,none⟩),.slice A x.ctl.length ca,.int .i64 (x.ctl.length:Int),.pointer (some ⟨n,0,none⟩),.pointer (some ⟨n,0,none⟩),.pointer (some ⟨n,16,none⟩),.pointer (some ⟨un,0,none⟩),.int .i64 (x.units.length:Int),.pointer (some ⟨n,0,none⟩),.pointer (some ⟨n,0,none⟩),.pointer (some ⟨n,21,none⟩),.slice B x.left.length cb,.int .i64 (x.left.length:Int),.pointer (some ⟨n,0,none⟩),.pointer (some ⟨n,0,none⟩),.pointer (some ⟨n,17,none⟩),.bool x.poll,.pointer (some ⟨n,0,none⟩),.pointer (some ⟨n,0,none⟩),.pointer (some ⟨n,18,none⟩),.bool x.stat,.pointer (some ⟨n,0,none⟩),.pointer (some ⟨n,0,none⟩),.pointer (some ⟨n,20,none⟩),.bool x.lacks,.agg (En.vcells x En.noS En.noR (En.tmK [] 0)).toArray,undef,undef].getD i undef
def vWD (w0:World) (x:En.X) (b:Nat) (d:Nat->Bool) (w:World):Prop:=Fresh w0 w/\(d 33=true->w0.heap.size<=b/\Blk w b 62 (if d 34=true then vcells x noS noR (tmK [] 0) else vzero))
theorem vWD.upd {w0 w:World} {x:En.X} {b:Nat} {d:Nat->Bool} (h:vWD w0 x b d w) {i:Nat} (h1:i ≠ 33) (h2:i ≠ 34) {w':World} (ht:Fresh w w'):vWD w0 x b (Dag.upd d i true) w':=by
 refine ⟨h.1.trans ht (fun _ _ e=>e),fun e=>?_⟩
 rw [Dag.upd_far _ _ (Ne.symm h1)] at e
 rw [Dag.upd_far _ _ (Ne.symm h2)]
 exact ⟨(h.2 e).1,ht.blk (h.2 e).2 (fun e=>e)⟩
end En
namespace En
def uslot (i:Nat):Nat:=[40,41,42,43,44,45,46,47,48,49,50,1011,51,1013].getD i 2000
def uidx (k:Nat):Nat:=[0,0,0,0,0,0,0,0,0,0,0,0,0,0,0,0,0,0,0,0,0,0,0,0,0,0,0,0,0,0,0,0,0,0,0,0,0,0,0,0,0,1,2,3,4,5,6,7,8,9,10,12].getD k 0
def uD:List Nat:=[40,41,42,43,44,45,46,47,48,49,50,51]
def uval (n bb p q:Nat) (s:Sf.S) (r:Rf.S) (b:Option Addr × Nat) (i:Nat):Value:=[.pointer (some ⟨n,0,none⟩),.pointer (some ⟨n,0,none⟩),.pointer (some ⟨n,13,none⟩),.pointer (some ⟨p,0,none⟩),.agg (sendV (Sf.prog s) b.1 b.2).toArray,.pointer (some ⟨n,0,none⟩),.pointer (some ⟨n,0,none⟩),.pointer (some ⟨n,14,none⟩),.pointer (some ⟨q,0,none⟩),.agg (recvV (Rf.prog r)).toArray,.pointer (some ⟨bb,5,none⟩),undef,.pointer (some ⟨bb,14,none⟩),undef].getD i undef
def uWD (w:World) (x:En.X) (s:Sf.S) (r:Rf.S) (bb r2:Nat) (b:Option Addr × Nat) (d:Nat->Bool) (W:World):Prop:=
 Fresh w W/\Blk W r2 62 vzero/\Blk W bb 62 (vcells x (if d 11=true then sendV (Sf.prog s) b.1 b.2 else noS) (if d 13=true then recvV (Rf.prog r) else noR) (tmK [] 0)) /\
 (d 4=true->Sl numE W b.1 b.2 (Sf.pa s.again)/\∀ ad,b.1=some ad->w.heap.size<=ad.block/\ad.block ≠ bb/\ad.block ≠ r2)
theorem uWD.upd {w:World} {x:En.X} {s:Sf.S} {r:Rf.S} {bb r2:Nat} {b:Option Addr × Nat} {d:Nat->Bool} {W:World} (h:uWD w x s r bb r2 b d W) {i:Nat} (h1:i ≠ 11) (h2:i ≠ 13) (h3:i ≠ 4) {W':World} (ht:Fresh W W'):uWD w x s r bb r2 b (Dag.upd d i true) W':=by
 refine ⟨h.1.trans ht (fun _ _ e=>e),ht.blk h.2.1 (fun e=>e),?_,fun e=>?_⟩
 ·rw [Dag.upd_far _ _ (Ne.symm h1),Dag.upd_far _ _ (Ne.symm h2)]
  exact ht.blk h.2.2.1 (fun e=>e)
 ·rw [Dag.upd_far _ _ (Ne.symm h3)] at e
  exact ⟨(h.2.2.2 e).1.touch ht (fun _ _ e=>e),(h.2.2.2 e).2⟩
end En
theorem bd72 (c0 c1 c2 c3 c4 c5 c6 c7:Int) (b1 b2 b3:Bool) (w:World):(Instr.build 62 #[(0,.agg #[.int .i64 c0,.int .i64 c1,.int .i64 c2,.int .i64 c3,.int .u32 c4]),(3,.int .i64 c5),(4,.int .i64 c6),(5,.int .i64 c7),(6,.bool b1),(7,.bool b2),(8,.bool b3)]).run Tryz.prog w=.ok (.agg #[.int .i64 c0,.int .i64 c1,.int .i64 c2,.int .i64 c3,.int .u32 c4,.int .u32 0,.int .u32 0,.int .u32 0,.int .u32 0,.int .u32 0,.int .i64 0,.int .i64 0,.int .i64 0,.slice none 0 0,.int .u32 0,.int .u32 0,.int .u32 0,.int .i64 0,.int .i64 0,.int .i64 0,.int .i64 c5,.int .i64 c6,.int .i64 c7,.bool b1,.bool b2,.bool b3,.int .i64 0,.int .i64 0,.int .i64 0,.int .i64 0,.int .i64 0]) w:=run_build w 62 _ _ (by kernel_rfl)
section
variable {k:Nat} {D:Nat->Nat} {w:World} {n cn pc un:Nat} {sp rp:Option Nat} {A B:Option Addr} {ca cb:Nat} {x:En.X}
theorem nvars_any (h:EndIn k D w n cn pc un sp rp A ca B cb x) (hag:∀ e,x.ep=some e->e.1.again.length<=16777216) :
  Calls Tryz.prog 8 #[.pointer (some ⟨n,0,none⟩)] w fun e w'=>∃ A' c',e=.returned (.agg (En.varsC x A' c').toArray)/\Fresh w w'/\∀ e,x.ep=some e->Mine numE w w' A' c' (Sf.pa e.1.again):=by
 have H:=lh h
 obtain ⟨w0,hw0⟩:=xq (w.alloc (.cells En.vzero.toArray 62))
 obtain ⟨r2,hr2⟩:=xq w.heap.size
 have HF0:Hid (Fresh w w0):=by rw [hw0];exact (Touch.refl _ _).alloc _
 have HR2:Hid (w.heap.size<=r2):=Nat.le_of_eq hr2.symm
 have HB2:Hid (Blk w0 r2 62 En.vzero):=by rw [hw0,hr2];exact Blk.new w _ _
 have KF:Hid (∀ wx,Fresh w0 wx->wx.cell? ⟨n,11,none⟩=some (.pointer (some ⟨cn,0,none⟩))/\wx.cell? ⟨n,15,none⟩=some (.slice A x.ctl.length ca)/\wx.cell? ⟨n,16,none⟩=some (.pointer (some ⟨un,0,none⟩))/\wx.cell? ⟨n,21,none⟩=some (.slice B x.left.length cb)/\wx.cell? ⟨n,17,none⟩=some (.bool x.poll)/\wx.cell? ⟨n,18,none⟩=some (.bool x.stat)/\wx.cell? ⟨n,20,none⟩=some (.bool x.lacks)):=fun wx hw =>
  have h1:=hw.blk (HF0.out.blk H.out.b.1 (fun e=>e)) (fun e=>e)
  ⟨h1.cell 11,h1.cell 15,h1.cell 16,h1.cell 21,h1.cell 17,h1.cell 18,h1.cell 20⟩
 have HVC:Hid (∀ W,Fresh w0 W->Calls Tryz.prog 20 #[.pointer (some ⟨cn,0,none⟩)] W fun e w'=>e=.returned (.agg (En.connV x.conn).toArray)/\Fresh W w'):=fun W hW=>vars_any ((HF0.out.trans hW (fun _ _ e=>e)).blk H.out.c.1 (fun e=>e))
 have HLU:Hid (∀ W,Fresh w0 W->Calls Tryz.prog 21 #[.pointer (some ⟨un,0,none⟩)] W fun e w'=>e=.returned (.int .i64 (x.units.length:Int))/\Fresh W w'):=fun W hW=>by
  obtain ⟨rb,hr,-,-⟩:=H.out.u
  refine (ringPdu_len un rb _ x.units W (hr.touch (HF0.out.trans hW (fun _ _ e=>e)) (fun e=>e) (fun _ _ e=>e))).mono ?_
  rintro e w' ⟨h1,h2⟩
  exact ⟨h1,by rw [h2];exact Touch.refl _ _⟩
 have HAG:=lh hag
 clear h hag
 go_enter Tryz.func8,Tryz.ntmps8
 go_upto_region 1 with (fail)
 have hz:w.alloc (.cells En.vzero.toArray 62)=w0:=hw0.symm
 unfold En.vzero En.noS En.noR at hz
 simp only [List.cons_append,List.nil_append] at hz
 rw [hz,<- hr2]
 clear hw0 hr2 hz
 have HINJ:Hid (∀ i,i<35->∀ j,j<35->En.vslot i=En.vslot j->i=j):=by
  show ∀ i,i<35->∀ j,j<35->En.vslot i=En.vslot j->i=j
  decide +kernel
 have HFD:Hid (∀ k,k ∈ En.vD->En.vidx k<35/\En.vslot (En.vidx k)=k):=by
  show ∀ k,k ∈ En.vD->En.vidx k<35/\En.vslot (En.vidx k)=k
  decide +kernel
 go_cut [3] (fun v wx=>∃ b,v=.pointer (some ⟨b,0,none⟩)/\Hid (Fresh w0 wx)/\Hid (w0.heap.size<=b)/\Hid (Blk wx b 62 (En.vcells x En.noS En.noR (En.tmK [] 0))))
 case first =>
  as_aux_lemma =>
  refine Dag.detP (by kernel_rfl) 35 En.vD En.vslot (En.vval n cn un A ca B cb x) (En.vWD w0 x) 0 (fun b k=>En.vval n cn un A ca B cb x b (En.vidx k)) (by rfl) (fun i j hi hj=>HINJ.out i hi j hj) (by decide +kernel) ⟨(Touch.refl _ _).drew,fun h=>by cases h⟩ (by decide +kernel)
   ⟨?_,?_,?_,?_,?_,?_,?_,?_,?_,?_,?_,?_,?_,?_,?_,?_,?_,?_,?_,?_,?_,?_,?_,?_,?_,?_,?_,?_,?_,?_,?_,?_,?_,?_,?_,trivial⟩ (fun b k hk=>⟨En.vidx k,(HFD.out k hk).1,(HFD.out k hk).2,rfl⟩) ?_
  ·refine Dag.PStep.pure 5 rfl rfl rfl (by decide) (fun b d w h=>h.upd (by decide) (by decide) (Touch.refl _ _)) (fun b d R w hp hm hW=>?_)
   have qo0:R.eval (.tmp 0)=.pointer (some ⟨n,0,none⟩):=hm.old 0 (by decide)
   clear hp hm hW
   show (execOp R.eval _).run Tryz.prog w=.ok (.value (.pointer (some ⟨n,0,none⟩))) w
   unfold execOp
   generalize R.eval=ρ at *
   go_simp
  ·refine Dag.PStep.pure 6 rfl rfl rfl (by decide) (fun b d w h=>h.upd (by decide) (by decide) (Touch.refl _ _)) (fun b d R w hp hm hW=>?_)
   have q5:R.eval (.tmp 5)=.pointer (some ⟨n,0,none⟩):=hm.got 0 (by decide) (hp 0 (by decide +kernel)) (by decide) (by show (5:Nat)<68;decide)
   clear hp hm hW
   show (execOp R.eval _).run Tryz.prog w=.ok (.value (.pointer (some ⟨n,0,none⟩))) w
   unfold execOp
   generalize R.eval=ρ at *
   go_simp
  ·refine Dag.PStep.pure 7 rfl rfl rfl (by decide) (fun b d w h=>h.upd (by decide) (by decide) (Touch.refl _ _)) (fun b d R w hp hm hW=>?_)
   have q6:R.eval (.tmp 6)=.pointer (some ⟨n,0,none⟩):=hm.got 1 (by decide) (hp 1 (by decide +kernel)) (by decide) (by show (6:Nat)<68;decide)
   clear hp hm hW
   show (execOp R.eval _).run Tryz.prog w=.ok (.value (.pointer (some ⟨n,11,none⟩))) w
   unfold execOp
   generalize R.eval=ρ at *
   go_simp
  ·refine Dag.PStep.pure 8 rfl rfl rfl (by decide) (fun b d w h=>h.upd (by decide) (by decide) (Touch.refl _ _)) (fun b d R w hp hm hW=>?_)
   have q7:R.eval (.tmp 7)=.pointer (some ⟨n,11,none⟩):=hm.got 2 (by decide) (hp 2 (by decide +kernel)) (by decide) (by show (7:Nat)<68;decide)
   obtain ⟨a11,a15,a16,a21,a17,a18,a20⟩:=KF.out w hW.1
   clear hp hm hW
   show (execOp R.eval _).run Tryz.prog w=.ok (.value (.pointer (some ⟨cn,0,none⟩))) w
   unfold execOp
   generalize R.eval=ρ at *
   go_simp
  ·refine ⟨rfl,fun s hs=>(by cases hs;exact ⟨rfl,by decide⟩),fun b d R w hi hp hcl hm hW=>?_⟩
   have q8:R.eval (.tmp 8)=.pointer (some ⟨cn,0,none⟩):=hm.got 3 (by decide) (hp 3 (by decide +kernel)) (by decide) (by show (8:Nat)<68;decide)
   refine .call 9 rfl 20 #[.pointer (some ⟨cn,0,none⟩)] ?_ (((HVC.out w hW.1)).mono ?_)
   ·have qf:R.eval (.func 20)=.func (.func 20) #[] #[]:=hm.cst _ (fun k e=>by cases e)
    clear hi hp hcl hm hW
    unfold execOp
    generalize R.eval=ρ at *
    go_simp
   ·rintro e w' ⟨rfl,f⟩
    exact ⟨_,rfl,b,rfl,fun _ _ _=>rfl,hW.upd (by decide) (by decide) f⟩
  ·refine Dag.PStep.pure 10 rfl rfl rfl (by decide) (fun b d w h=>h.upd (by decide) (by decide) (Touch.refl _ _)) (fun b d R w hp hm hW=>?_)
   have qo0:R.eval (.tmp 0)=.pointer (some ⟨n,0,none⟩):=hm.old 0 (by decide)
   clear hp hm hW
   show (execOp R.eval _).run Tryz.prog w=.ok (.value (.pointer (some ⟨n,0,none⟩))) w
   unfold execOp
   generalize R.eval=ρ at *
   go_simp
  ·refine Dag.PStep.pure 11 rfl rfl rfl (by decide) (fun b d w h=>h.upd (by decide) (by decide) (Touch.refl _ _)) (fun b d R w hp hm hW=>?_)
   have q10:R.eval (.tmp 10)=.pointer (some ⟨n,0,none⟩):=hm.got 5 (by decide) (hp 5 (by decide +kernel)) (by decide) (by show (10:Nat)<68;decide)
   clear hp hm hW
   show (execOp R.eval _).run Tryz.prog w=.ok (.value (.pointer (some ⟨n,0,none⟩))) w
   unfold execOp
   generalize R.eval=ρ at *
   go_simp
  ·refine Dag.PStep.pure 12 rfl rfl rfl (by decide) (fun b d w h=>h.upd (by decide) (by decide) (Touch.refl _ _)) (fun b d R w hp hm hW=>?_)
   have q11:R.eval (.tmp 11)=.pointer (some ⟨n,0,none⟩):=hm.got 6 (by decide) (hp 6 (by decide +kernel)) (by decide) (by show (11:Nat)<68;decide)
   clear hp hm hW
   show (execOp R.eval _).run Tryz.prog w=.ok (.value (.pointer (some ⟨n,15,none⟩))) w
   unfold execOp
   generalize R.eval=ρ at *
   go_simp
  ·refine Dag.PStep.pure 13 rfl rfl rfl (by decide) (fun b d w h=>h.upd (by decide) (by decide) (Touch.refl _ _)) (fun b d R w hp hm hW=>?_)
   have q12:R.eval (.tmp 12)=.pointer (some ⟨n,15,none⟩):=hm.got 7 (by decide) (hp 7 (by decide +kernel)) (by decide) (by show (12:Nat)<68;decide)
   obtain ⟨a11,a15,a16,a21,a17,a18,a20⟩:=KF.out w hW.1
   clear hp hm hW
   show (execOp R.eval _).run Tryz.prog w=.ok (.value (.slice A x.ctl.length ca)) w
   unfold execOp
   generalize R.eval=ρ at *
   go_simp
  ·refine Dag.PStep.pure 14 rfl rfl rfl (by decide) (fun b d w h=>h.upd (by decide) (by decide) (Touch.refl _ _)) (fun b d R w hp hm hW=>?_)
   have q13:R.eval (.tmp 13)=.slice A x.ctl.length ca:=hm.got 8 (by decide) (hp 8 (by decide +kernel)) (by decide) (by show (13:Nat)<68;decide)
   clear hp hm hW
   show (execOp R.eval _).run Tryz.prog w=.ok (.value (.int .i64 (x.ctl.length:Int))) w
   unfold execOp
   generalize R.eval=ρ at *
   go_simp
  ·refine Dag.PStep.pure 15 rfl rfl rfl (by decide) (fun b d w h=>h.upd (by decide) (by decide) (Touch.refl _ _)) (fun b d R w hp hm hW=>?_)
   have qo0:R.eval (.tmp 0)=.pointer (some ⟨n,0,none⟩):=hm.old 0 (by decide)
   clear hp hm hW
   show (execOp R.eval _).run Tryz.prog w=.ok (.value (.pointer (some ⟨n,0,none⟩))) w
   unfold execOp
   generalize R.eval=ρ at *
   go_simp
  ·refine Dag.PStep.pure 16 rfl rfl rfl (by decide) (fun b d w h=>h.upd (by decide) (by decide) (Touch.refl _ _)) (fun b d R w hp hm hW=>?_)
   have q15:R.eval (.tmp 15)=.pointer (some ⟨n,0,none⟩):=hm.got 10 (by decide) (hp 10 (by decide +kernel)) (by decide) (by show (15:Nat)<68;decide)
   clear hp hm hW
   show (execOp R.eval _).run Tryz.prog w=.ok (.value (.pointer (some ⟨n,0,none⟩))) w
   unfold execOp
   generalize R.eval=ρ at *
   go_simp
  ·refine Dag.PStep.pure 17 rfl rfl rfl (by decide) (fun b d w h=>h.upd (by decide) (by decide) (Touch.refl _ _)) (fun b d R w hp hm hW=>?_)
   have q16:R.eval (.tmp 16)=.pointer (some ⟨n,0,none⟩):=hm.got 11 (by decide) (hp 11 (by decide +kernel)) (by decide) (by show (16:Nat)<68;decide)
   clear hp hm hW
   show (execOp R.eval _).run Tryz.prog w=.ok (.value (.pointer (some ⟨n,16,none⟩))) w
   unfold execOp
   generalize R.eval=ρ at *
   go_simp
  ·refine Dag.PStep.pure 18 rfl rfl rfl (by decide) (fun b d w h=>h.upd (by decide) (by decide) (Touch.refl _ _)) (fun b d R w hp hm hW=>?_)
   have q17:R.eval (.tmp 17)=.pointer (some ⟨n,16,none⟩):=hm.got 12 (by decide) (hp 12 (by decide +kernel)) (by decide) (by show (17:Nat)<68;decide)
   obtain ⟨a11,a15,a16,a21,a17,a18,a20⟩:=KF.out w hW.1
   clear hp hm hW
   show (execOp R.eval _).run Tryz.prog w=.ok (.value (.pointer (some ⟨un,0,none⟩))) w
   unfold execOp
   generalize R.eval=ρ at *
   go_simp
  ·refine ⟨rfl,fun s hs=>(by cases hs;exact ⟨rfl,by decide⟩),fun b d R w hi hp hcl hm hW=>?_⟩
   have q18:R.eval (.tmp 18)=.pointer (some ⟨un,0,none⟩):=hm.got 13 (by decide) (hp 13 (by decide +kernel)) (by decide) (by show (18:Nat)<68;decide)
   refine .call 19 rfl 21 #[.pointer (some ⟨un,0,none⟩)] ?_ (((HLU.out w hW.1)).mono ?_)
   ·have qf:R.eval (.func 21)=.func (.func 21) #[] #[]:=hm.cst _ (fun k e=>by cases e)
    clear hi hp hcl hm hW
    unfold execOp
    generalize R.eval=ρ at *
    go_simp
   ·rintro e w' ⟨rfl,f⟩
    exact ⟨_,rfl,b,rfl,fun _ _ _=>rfl,hW.upd (by decide) (by decide) f⟩
  ·refine Dag.PStep.pure 20 rfl rfl rfl (by decide) (fun b d w h=>h.upd (by decide) (by decide) (Touch.refl _ _)) (fun b d R w hp hm hW=>?_)
   have qo0:R.eval (.tmp 0)=.pointer (some ⟨n,0,none⟩):=hm.old 0 (by decide)
   clear hp hm hW
   show (execOp R.eval _).run Tryz.prog w=.ok (.value (.pointer (some ⟨n,0,none⟩))) w
   unfold execOp
   generalize R.eval=ρ at *
   go_simp
  ·refine Dag.PStep.pure 21 rfl rfl rfl (by decide) (fun b d w h=>h.upd (by decide) (by decide) (Touch.refl _ _)) (fun b d R w hp hm hW=>?_)
   have q20:R.eval (.tmp 20)=.pointer (some ⟨n,0,none⟩):=hm.got 15 (by decide) (hp 15 (by decide +kernel)) (by decide) (by show (20:Nat)<68;decide)
   clear hp hm hW
   show (execOp R.eval _).run Tryz.prog w=.ok (.value (.pointer (some ⟨n,0,none⟩))) w
   unfold execOp
   generalize R.eval=ρ at *
   go_simp
  ·refine Dag.PStep.pure 22 rfl rfl rfl (by decide) (fun b d w h=>h.upd (by decide) (by decide) (Touch.refl _ _)) (fun b d R w hp hm hW=>?_)
   have q21:R.eval (.tmp 21)=.pointer (some ⟨n,0,none⟩):=hm.got 16 (by decide) (hp 16 (by decide +kernel)) (by decide) (by show (21:Nat)<68;decide)
   clear hp hm hW
   show (execOp R.eval _).run Tryz.prog w=.ok (.value (.pointer (some ⟨n,21,none⟩))) w
   unfold execOp
   generalize R.eval=ρ at *
   go_simp
  ·refine Dag.PStep.pure 23 rfl rfl rfl (by decide) (fun b d w h=>h.upd (by decide) (by decide) (Touch.refl _ _)) (fun b d R w hp hm hW=>?_)
   have q22:R.eval (.tmp 22)=.pointer (some ⟨n,21,none⟩):=hm.got 17 (by decide) (hp 17 (by decide +kernel)) (by decide) (by show (22:Nat)<68;decide)
   obtain ⟨a11,a15,a16,a21,a17,a18,a20⟩:=KF.out w hW.1
   clear hp hm hW
   show (execOp R.eval _).run Tryz.prog w=.ok (.value (.slice B x.left.length cb)) w
   unfold execOp
   generalize R.eval=ρ at *
   go_simp
  ·refine Dag.PStep.pure 24 rfl rfl rfl (by decide) (fun b d w h=>h.upd (by decide) (by decide) (Touch.refl _ _)) (fun b d R w hp hm hW=>?_)
   have q23:R.eval (.tmp 23)=.slice B x.left.length cb:=hm.got 18 (by decide) (hp 18 (by decide +kernel)) (by decide) (by show (23:Nat)<68;decide)
   clear hp hm hW
   show (execOp R.eval _).run Tryz.prog w=.ok (.value (.int .i64 (x.left.length:Int))) w
   unfold execOp
   generalize R.eval=ρ at *
   go_simp
  ·refine Dag.PStep.pure 25 rfl rfl rfl (by decide) (fun b d w h=>h.upd (by decide) (by decide) (Touch.refl _ _)) (fun b d R w hp hm hW=>?_)
   have qo0:R.eval (.tmp 0)=.pointer (some ⟨n,0,none⟩):=hm.old 0 (by decide)
   clear hp hm hW
   show (execOp R.eval _).run Tryz.prog w=.ok (.value (.pointer (some ⟨n,0,none⟩))) w
   unfold execOp
   generalize R.eval=ρ at *
   go_simp
  ·refine Dag.PStep.pure 26 rfl rfl rfl (by decide) (fun b d w h=>h.upd (by decide) (by decide) (Touch.refl _ _)) (fun b d R w hp hm hW=>?_)
   have q25:R.eval (.tmp 25)=.pointer (some ⟨n,0,none⟩):=hm.got 20 (by decide) (hp 20 (by decide +kernel)) (by decide) (by show (25:Nat)<68;decide)
   clear hp hm hW
   show (execOp R.eval _).run Tryz.prog w=.ok (.value (.pointer (some ⟨n,0,none⟩))) w
   unfold execOp
   generalize R.eval=ρ at *
   go_simp
  ·refine Dag.PStep.pure 27 rfl rfl rfl (by decide) (fun b d w h=>h.upd (by decide) (by decide) (Touch.refl _ _)) (fun b d R w hp hm hW=>?_)
   have q26:R.eval (.tmp 26)=.pointer (some ⟨n,0,none⟩):=hm.got 21 (by decide) (hp 21 (by decide +kernel)) (by decide) (by show (26:Nat)<68;decide)
   clear hp hm hW
   show (execOp R.eval _).run Tryz.prog w=.ok (.value (.pointer (some ⟨n,17,none⟩))) w
   unfold execOp
   generalize R.eval=ρ at *
   go_simp
  ·refine Dag.PStep.pure 28 rfl rfl rfl (by decide) (fun b d w h=>h.upd (by decide) (by decide) (Touch.refl _ _)) (fun b d R w hp hm hW=>?_)
   have q27:R.eval (.tmp 27)=.pointer (some ⟨n,17,none⟩):=hm.got 22 (by decide) (hp 22 (by decide +kernel)) (by decide) (by show (27:Nat)<68;decide)
   obtain ⟨a11,a15,a16,a21,a17,a18,a20⟩:=KF.out w hW.1
   clear hp hm hW
   show (execOp R.eval _).run Tryz.prog w=.ok (.value (.bool x.poll)) w
   unfold execOp
   generalize R.eval=ρ at *
   go_simp
  ·refine Dag.PStep.pure 29 rfl rfl rfl (by decide) (fun b d w h=>h.upd (by decide) (by decide) (Touch.refl _ _)) (fun b d R w hp hm hW=>?_)
   have qo0:R.eval (.tmp 0)=.pointer (some ⟨n,0,none⟩):=hm.old 0 (by decide)
   clear hp hm hW
   show (execOp R.eval _).run Tryz.prog w=.ok (.value (.pointer (some ⟨n,0,none⟩))) w
   unfold execOp
   generalize R.eval=ρ at *
   go_simp
  ·refine Dag.PStep.pure 30 rfl rfl rfl (by decide) (fun b d w h=>h.upd (by decide) (by decide) (Touch.refl _ _)) (fun b d R w hp hm hW=>?_)
   have q29:R.eval (.tmp 29)=.pointer (some ⟨n,0,none⟩):=hm.got 24 (by decide) (hp 24 (by decide +kernel)) (by decide) (by show (29:Nat)<68;decide)
   clear hp hm hW
   show (execOp R.eval _).run Tryz.prog w=.ok (.value (.pointer (some ⟨n,0,none⟩))) w
   unfold execOp
   generalize R.eval=ρ at *
   go_simp
  ·refine Dag.PStep.pure 31 rfl rfl rfl (by decide) (fun b d w h=>h.upd (by decide) (by decide) (Touch.refl _ _)) (fun b d R w hp hm hW=>?_)
   have q30:R.eval (.tmp 30)=.pointer (some ⟨n,0,none⟩):=hm.got 25 (by decide) (hp 25 (by decide +kernel)) (by decide) (by show (30:Nat)<68;decide)
   clear hp hm hW
   show (execOp R.eval _).run Tryz.prog w=.ok (.value (.pointer (some ⟨n,18,none⟩))) w
   unfold execOp
   generalize R.eval=ρ at *
   go_simp
  ·refine Dag.PStep.pure 32 rfl rfl rfl (by decide) (fun b d w h=>h.upd (by decide) (by decide) (Touch.refl _ _)) (fun b d R w hp hm hW=>?_)
   have q31:R.eval (.tmp 31)=.pointer (some ⟨n,18,none⟩):=hm.got 26 (by decide) (hp 26 (by decide +kernel)) (by decide) (by show (31:Nat)<68;decide)
   obtain ⟨a11,a15,a16,a21,a17,a18,a20⟩:=KF.out w hW.1
   clear hp hm hW
   show (execOp R.eval _).run Tryz.prog w=.ok (.value (.bool x.stat)) w
   unfold execOp
   generalize R.eval=ρ at *
   go_simp
  ·refine Dag.PStep.pure 33 rfl rfl rfl (by decide) (fun b d w h=>h.upd (by decide) (by decide) (Touch.refl _ _)) (fun b d R w hp hm hW=>?_)
   have qo0:R.eval (.tmp 0)=.pointer (some ⟨n,0,none⟩):=hm.old 0 (by decide)
   clear hp hm hW
   show (execOp R.eval _).run Tryz.prog w=.ok (.value (.pointer (some ⟨n,0,none⟩))) w
   unfold execOp
   generalize R.eval=ρ at *
   go_simp
  ·refine Dag.PStep.pure 34 rfl rfl rfl (by decide) (fun b d w h=>h.upd (by decide) (by decide) (Touch.refl _ _)) (fun b d R w hp hm hW=>?_)
   have q33:R.eval (.tmp 33)=.pointer (some ⟨n,0,none⟩):=hm.got 28 (by decide) (hp 28 (by decide +kernel)) (by decide) (by show (33:Nat)<68;decide)
   clear hp hm hW
   show (execOp R.eval _).run Tryz.prog w=.ok (.value (.pointer (some ⟨n,0,none⟩))) w
   unfold execOp
   generalize R.eval=ρ at *
   go_simp
  ·refine Dag.PStep.pure 35 rfl rfl rfl (by decide) (fun b d w h=>h.upd (by decide) (by decide) (Touch.refl _ _)) (fun b d R w hp hm hW=>?_)
   have q34:R.eval (.tmp 34)=.pointer (some ⟨n,0,none⟩):=hm.got 29 (by decide) (hp 29 (by decide +kernel)) (by decide) (by show (34:Nat)<68;decide)
   clear hp hm hW
   show (execOp R.eval _).run Tryz.prog w=.ok (.value (.pointer (some ⟨n,20,none⟩))) w
   unfold execOp
   generalize R.eval=ρ at *
   go_simp
  ·refine Dag.PStep.pure 36 rfl rfl rfl (by decide) (fun b d w h=>h.upd (by decide) (by decide) (Touch.refl _ _)) (fun b d R w hp hm hW=>?_)
   have q35:R.eval (.tmp 35)=.pointer (some ⟨n,20,none⟩):=hm.got 30 (by decide) (hp 30 (by decide +kernel)) (by decide) (by show (35:Nat)<68;decide)
   obtain ⟨a11,a15,a16,a21,a17,a18,a20⟩:=KF.out w hW.1
   clear hp hm hW
   show (execOp R.eval _).run Tryz.prog w=.ok (.value (.bool x.lacks)) w
   unfold execOp
   generalize R.eval=ρ at *
   go_simp
  ·refine Dag.PStep.pure 37 rfl rfl rfl (by decide) (fun b d w h=>h.upd (by decide) (by decide) (Touch.refl _ _)) (fun b d R w hp hm hW=>?_)
   have q9:R.eval (.tmp 9)=.agg #[.int .i64 x.conn.state,.int .i64 x.conn.sq,.int .i64 x.conn.peer,.int .i64 x.conn.cc,.int .u32 x.conn.ms]:=hm.got 4 (by decide) (hp 4 (by decide +kernel)) (by decide) (by show (9:Nat)<68;decide)
   have q14:R.eval (.tmp 14)=.int .i64 (x.ctl.length:Int):=hm.got 9 (by decide) (hp 9 (by decide +kernel)) (by decide) (by show (14:Nat)<68;decide)
   have q19:R.eval (.tmp 19)=.int .i64 (x.units.length:Int):=hm.got 14 (by decide) (hp 14 (by decide +kernel)) (by decide) (by show (19:Nat)<68;decide)
   have q24:R.eval (.tmp 24)=.int .i64 (x.left.length:Int):=hm.got 19 (by decide) (hp 19 (by decide +kernel)) (by decide) (by show (24:Nat)<68;decide)
   have q28:R.eval (.tmp 28)=.bool x.poll:=hm.got 23 (by decide) (hp 23 (by decide +kernel)) (by decide) (by show (28:Nat)<68;decide)
   have q32:R.eval (.tmp 32)=.bool x.stat:=hm.got 27 (by decide) (hp 27 (by decide +kernel)) (by decide) (by show (32:Nat)<68;decide)
   have q36:R.eval (.tmp 36)=.bool x.lacks:=hm.got 31 (by decide) (hp 31 (by decide +kernel)) (by decide) (by show (36:Nat)<68;decide)
   clear hp hm hW
   show (execOp R.eval _).run Tryz.prog w=.ok (.value (.agg #[.int .i64 x.conn.state,.int .i64 x.conn.sq,.int .i64 x.conn.peer,.int .i64 x.conn.cc,.int .u32 x.conn.ms,.int .u32 0,.int .u32 0,.int .u32 0,.int .u32 0,.int .u32 0,.int .i64 0,.int .i64 0,.int .i64 0,.slice none 0 0,.int .u32 0,.int .u32 0,.int .u32 0,.int .i64 0,.int .i64 0,.int .i64 0,.int .i64 (x.ctl.length:Int),.int .i64 (x.units.length:Int),.int .i64 (x.left.length:Int),.bool x.poll,.bool x.stat,.bool x.lacks,.int .i64 0,.int .i64 0,.int .i64 0,.int .i64 0,.int .i64 0])) w
   unfold execOp
   generalize R.eval=ρ at *
   simp only [List.map_toArray,List.map_cons,List.map_nil,q9,q14,q19,q24,q28,q32,q36,Sem.run_bind,bd72,Result.andThen_ok]
   rfl
  ·refine ⟨rfl,fun s hs=>(by cases hs;exact ⟨rfl,by decide⟩),fun b d R w hi hp hcl hm hW=>?_⟩
   have h34:d 34=false:=Bool.eq_false_iff.2 fun h=>by have:=hcl 34 33 (by decide +kernel) h;rw [hi] at this;cases this
   refine .value 3 rfl (.pointer (some ⟨w.heap.size,0,none⟩)) (w.alloc (.cells En.vzero.toArray 62)) ?_ ⟨w.heap.size,rfl,fun j _ hj=>?_,(hW.1.alloc _),fun _=>⟨hW.1.size,?_⟩⟩
   ·clear hi hp hcl hm hW
    unfold execOp
    generalize R.eval=ρ at *
    go_simp
    try rfl
   ·unfold En.vval
    rw [if_neg (fun e=>by subst e;rw [hi] at hj;cases hj),if_neg (fun e=>by subst e;rw [hi] at hj;cases hj)]
   ·rw [Dag.upd_far _ _ (by decide),h34]
    exact Blk.new w _ _
  ·refine ⟨rfl,fun s hs=>(by cases hs),fun b d R w hi hp hcl hm hW=>?_⟩
   have q3:R.eval (.tmp 3)=.pointer (some ⟨b,0,none⟩):=hm.got 33 (by decide) (hp 33 (by decide +kernel)) (by decide) (by show (3:Nat)<68;decide)
   have q37:R.eval (.tmp 37)=.agg (En.vcells x En.noS En.noR (En.tmK [] 0)).toArray:=hm.got 32 (by decide) (hp 32 (by decide +kernel)) (by decide) (by show (37:Nat)<68;decide)
   obtain ⟨hb,hB⟩:=hW.2 (hp 33 (by decide +kernel))
   rw [if_neg (by rw [hi];decide)] at hB
   refine .skip rfl undef (w.setCells b 0 (En.vcells x En.noS En.noR (En.tmK [] 0))) (exec_storeB (ty:=62) rfl q3 q37 (hB.there (Nat.le_refl 31)) (by kernel_rfl) (by simp [En.vcells,En.connV,En.noS,En.noR,En.tmK,Value.oneCell',List.range,List.range.loop])) ⟨b,rfl,fun _ _ _=>rfl,hW.1.trans (Touch.setCells (S:=(· = b)) rfl _ 0 (Touch.refl _ _)) (fun k hk e=>by have e:k=b:=e;omega),fun _=>⟨hb,?_⟩⟩
   rw [Dag.upd_same,if_pos rfl]
   exact hB.setCells (by rfl)
  ·intro b d w' hd hW
   simp only [En.vD,Dag.actOf,List.foldl_cons,List.foldl_nil,En.vval,En.vidx]
   go_simp
   rename_i h1 h2
   refine h2 _ _ (Met.intro (h1 _ _ ?_))
   repeat apply Exists.intro
   refine ⟨?rel,rfl⟩
   case rel =>
    obtain ⟨h3,h4⟩:=hW.2 (hd 33 (by decide))
    rw [if_pos (hd 34 (by decide))] at h4
    exact ⟨b,rfl,hW.1,h3,h4⟩
 case rest =>
  obtain ⟨b,rfl,HF1,HLB,HB1⟩:=hcut
  clear HINJ HFD HVC HLU KF
  generalize wc=w1 at *
  have HFW:Hid (Fresh w w1):=HF0.out.trans HF1.out (fun _ _ e=>e)
  have HBR:=lh (HF1.out.blk HB2.out (fun e=>e))
  have hlt2:=HB2.out.lt
  have HNB:Hid (¬ b=r2):=by have:=HLB.out;show ¬ b=r2;omega
  have hsz0:=HF0.out.size
  have HLB2:Hid (w.heap.size<=b/\w.heap.size<=r2):=⟨by have:=HLB.out;omega,HR2.out⟩
  have HI:=lh (H.out.old (D':=D) HFW.out (fun _ _=>rfl))
  have HRD:=lh (nready_any HI.out)
  clear HF1 HB2 HF0 hlt2 hsz0
  go_upto_if 39 with (go_at_call 22;(with_reducible refine HRD.out.mono ?_);rintro e w5 ⟨rfl,h5⟩;subst h5)
  go_cut [] (fun wx=>∃ A' c',Hid (Fresh w wx)/\Hid (Blk wx r2 62 En.vzero)/\Hid (Blk wx b 62 (En.vcells x (En.sV x A' c') (En.rV x) (En.tmK [] 0)))/\Hid (∀ e,x.ep=some e->Mine numE w wx A' c' (Sf.pa e.1.again)/\∀ ad,A'=some ad->ad.block ≠ b/\ad.block ≠ r2))
  case first =>
   cases he:x.ep with
   |none =>
    go_wp2
    go_meet
    case rel=>exact ⟨none,0,HFW,HBR,by show Blk _ _ _ _;unfold En.sV En.rV;rw [he];exact HB1.out,fun e h=>by rw [he] at h;cases h⟩
   |some e =>
    obtain ⟨s,r⟩:=e
    obtain ⟨p,q,rfl,rfl,⟨Fs,hs,-⟩,⟨Fr,hr,-⟩⟩:=H.out.ep_some he
    have KF:Hid (∀ wx,Fresh w wx->wx.cell? ⟨n,13,none⟩=some (.pointer (some ⟨p,0,none⟩))/\wx.cell? ⟨n,14,none⟩=some (.pointer (some ⟨q,0,none⟩))):=fun wx hw =>
     have h1:=hw.blk H.out.b.1 (fun e=>e)
     ⟨h1.cell 13,h1.cell 14⟩
    have HVS:Hid (∀ W,Fresh w W->Calls Tryz.prog 23 #[.pointer (some ⟨p,0,none⟩)] W fun e w'=>∃ A' c',e=.returned (.agg (En.sendV (Sf.prog s) A' c').toArray)/\Mine numE W w' A' c' (Sf.pa s.again)):=fun W hW=>svars_any p Fs (Sf.prog s) W (hs.old hW) (by have:=HAG.out _ he;show (Sf.pa s.again).length<=_;simpa [Sf.pa] using this)
    have HVR:Hid (∀ W,Fresh w W->Calls Tryz.prog 24 #[.pointer (some ⟨q,0,none⟩)] W fun e w'=>e=.returned (.agg (En.recvV (Rf.prog r)).toArray)/\Fresh W w'):=fun W hW=>rvars_any q Fr (Rf.prog r) W (hr.old hW)
    have HE:=lh he
    rw [he] at HRD
    clear he hs hr
    go_upto_region 3 with (fail)
    have HINJ:Hid (∀ i,i<14->∀ j,j<14->En.uslot i=En.uslot j->i=j):=by
     show ∀ i,i<14->∀ j,j<14->En.uslot i=En.uslot j->i=j
     decide +kernel
    have HFD:Hid (∀ k,k ∈ En.uD->En.uidx k<14/\En.uslot (En.uidx k)=k):=by
     show ∀ k,k ∈ En.uD->En.uidx k<14/\En.uslot (En.uidx k)=k
     decide +kernel
    generalize hbb:b=bb at *
    clear hbb
    refine Dag.detP (by kernel_rfl) 14 En.uD En.uslot (En.uval n bb p q s r) (En.uWD w x s r bb r2) (none,0) (fun b k=>En.uval n bb p q s r b (En.uidx k)) (by rfl) (fun i j hi hj=>HINJ.out i hi j hj) (by decide +kernel) ⟨HFW.out.drew,(Touch.refl (fun _=>False) w1).drew.blk HBR.out (fun e=>e),(Touch.refl (fun _=>False) w1).drew.blk HB1.out (fun e=>e),fun h=>by cases h⟩ (by decide +kernel)
     ⟨?_,?_,?_,?_,?_,?_,?_,?_,?_,?_,?_,?_,?_,?_,trivial⟩ (fun b k hk=>⟨En.uidx k,(HFD.out k hk).1,(HFD.out k hk).2,rfl⟩) ?_
    ·refine Dag.PStep.pure 40 rfl rfl rfl (by decide) (fun b d w h=>h.upd (by decide) (by decide) (by decide) (Touch.refl _ _)) (fun b d R w1 hp hm hW=>?_)
     have qo0:R.eval (.tmp 0)=.pointer (some ⟨n,0,none⟩):=hm.old 0 (by decide)
     clear hp hm hW
     show (execOp R.eval _).run Tryz.prog w1=.ok (.value (.pointer (some ⟨n,0,none⟩))) w1
     unfold execOp
     generalize R.eval=ρ at *
     go_simp
    ·refine Dag.PStep.pure 41 rfl rfl rfl (by decide) (fun b d w h=>h.upd (by decide) (by decide) (by decide) (Touch.refl _ _)) (fun b d R w1 hp hm hW=>?_)
     have q40:R.eval (.tmp 40)=.pointer (some ⟨n,0,none⟩):=hm.got 0 (by decide) (hp 0 (by decide +kernel)) (by decide) (by show (40:Nat)<68;decide)
     clear hp hm hW
     show (execOp R.eval _).run Tryz.prog w1=.ok (.value (.pointer (some ⟨n,0,none⟩))) w1
     unfold execOp
     generalize R.eval=ρ at *
     go_simp
    ·refine Dag.PStep.pure 42 rfl rfl rfl (by decide) (fun b d w h=>h.upd (by decide) (by decide) (by decide) (Touch.refl _ _)) (fun b d R w1 hp hm hW=>?_)
     have q41:R.eval (.tmp 41)=.pointer (some ⟨n,0,none⟩):=hm.got 1 (by decide) (hp 1 (by decide +kernel)) (by decide) (by show (41:Nat)<68;decide)
     clear hp hm hW
     show (execOp R.eval _).run Tryz.prog w1=.ok (.value (.pointer (some ⟨n,13,none⟩))) w1
     unfold execOp
     generalize R.eval=ρ at *
     go_simp
    ·refine Dag.PStep.pure 43 rfl rfl rfl (by decide) (fun b d w h=>h.upd (by decide) (by decide) (by decide) (Touch.refl _ _)) (fun b d R w1 hp hm hW=>?_)
     have q42:R.eval (.tmp 42)=.pointer (some ⟨n,13,none⟩):=hm.got 2 (by decide) (hp 2 (by decide +kernel)) (by decide) (by show (42:Nat)<68;decide)
     obtain ⟨a13,a14⟩:=KF.out w1 hW.1
     clear hp hm hW
     show (execOp R.eval _).run Tryz.prog w1=.ok (.value (.pointer (some ⟨p,0,none⟩))) w1
     unfold execOp
     generalize R.eval=ρ at *
     go_simp
    ·refine ⟨rfl,fun s hs=>(by cases hs;exact ⟨rfl,by decide⟩),fun b d R w1 hi hp hcl hm hW=>?_⟩
     have q43:R.eval (.tmp 43)=.pointer (some ⟨p,0,none⟩):=hm.got 3 (by decide) (hp 3 (by decide +kernel)) (by decide) (by show (43:Nat)<68;decide)
     refine .call 44 rfl 23 #[.pointer (some ⟨p,0,none⟩)] ?_ (((HVS.out w1 hW.1)).mono ?_)
     ·have qf:R.eval (.func 23)=.func (.func 23) #[] #[]:=hm.cst _ (fun k e=>by cases e)
      clear hi hp hcl hm hW
      unfold execOp
      generalize R.eval=ρ at *
      go_simp
     ·rintro e w' ⟨A',c',rfl,hm⟩
      have hf:=hm.fresh
      refine ⟨_,rfl,(A',c'),rfl,fun j hj hdj=>?_,hW.1.trans hf (fun _ _ e=>e),hf.blk hW.2.1 (fun e=>e),?_,fun _=>⟨hm.sl,fun ad e=>?_⟩⟩
      ·have hj4:j ≠ 4:=fun e=>by rw [e,hi] at hdj;cases hdj
       rcases (show j=0\/j=1\/j=2\/j=3\/j=5\/j=6\/j=7\/j=8\/j=9\/j=10\/j=11\/j=12\/j=13 by omega) with rfl | rfl | rfl | rfl | rfl | rfl | rfl | rfl | rfl | rfl | rfl | rfl | rfl <;> rfl
      ·have h11:d 11=false:=Bool.eq_false_iff.2 fun h=>by have:=hcl 11 4 (by decide +kernel) h;rw [hi] at this;cases this
       have hB:=hf.blk hW.2.2.1 (fun e=>e)
       rw [h11] at hB
       rw [Dag.upd_far _ _ (by decide),Dag.upd_far _ _ (by decide),h11]
       exact hB
      ·have h1:=hm.base ad e
       have h2:=hW.1.size
       have h3:=hW.2.1.lt
       have h4:=hW.2.2.1.lt
       omega
    ·refine Dag.PStep.pure 45 rfl rfl rfl (by decide) (fun b d w h=>h.upd (by decide) (by decide) (by decide) (Touch.refl _ _)) (fun b d R w1 hp hm hW=>?_)
     have qo0:R.eval (.tmp 0)=.pointer (some ⟨n,0,none⟩):=hm.old 0 (by decide)
     clear hp hm hW
     show (execOp R.eval _).run Tryz.prog w1=.ok (.value (.pointer (some ⟨n,0,none⟩))) w1
     unfold execOp
     generalize R.eval=ρ at *
     go_simp
    ·refine Dag.PStep.pure 46 rfl rfl rfl (by decide) (fun b d w h=>h.upd (by decide) (by decide) (by decide) (Touch.refl _ _)) (fun b d R w1 hp hm hW=>?_)
     have q45:R.eval (.tmp 45)=.pointer (some ⟨n,0,none⟩):=hm.got 5 (by decide) (hp 5 (by decide +kernel)) (by decide) (by show (45:Nat)<68;decide)
     clear hp hm hW
     show (execOp R.eval _).run Tryz.prog w1=.ok (.value (.pointer (some ⟨n,0,none⟩))) w1
     unfold execOp
     generalize R.eval=ρ at *
     go_simp
    ·refine Dag.PStep.pure 47 rfl rfl rfl (by decide) (fun b d w h=>h.upd (by decide) (by decide) (by decide) (Touch.refl _ _)) (fun b d R w1 hp hm hW=>?_)
     have q46:R.eval (.tmp 46)=.pointer (some ⟨n,0,none⟩):=hm.got 6 (by decide) (hp 6 (by decide +kernel)) (by decide) (by show (46:Nat)<68;decide)
     clear hp hm hW
     show (execOp R.eval _).run Tryz.prog w1=.ok (.value (.pointer (some ⟨n,14,none⟩))) w1
     unfold execOp
     generalize R.eval=ρ at *
     go_simp
    ·refine Dag.PStep.pure 48 rfl rfl rfl (by decide) (fun b d w h=>h.upd (by decide) (by decide) (by decide) (Touch.refl _ _)) (fun b d R w1 hp hm hW=>?_)
     have q47:R.eval (.tmp 47)=.pointer (some ⟨n,14,none⟩):=hm.got 7 (by decide) (hp 7 (by decide +kernel)) (by decide) (by show (47:Nat)<68;decide)
     obtain ⟨a13,a14⟩:=KF.out w1 hW.1
     clear hp hm hW
     show (execOp R.eval _).run Tryz.prog w1=.ok (.value (.pointer (some ⟨q,0,none⟩))) w1
     unfold execOp
     generalize R.eval=ρ at *
     go_simp
    ·refine ⟨rfl,fun s hs=>(by cases hs;exact ⟨rfl,by decide⟩),fun b d R w1 hi hp hcl hm hW=>?_⟩
     have q48:R.eval (.tmp 48)=.pointer (some ⟨q,0,none⟩):=hm.got 8 (by decide) (hp 8 (by decide +kernel)) (by decide) (by show (48:Nat)<68;decide)
     refine .call 49 rfl 24 #[.pointer (some ⟨q,0,none⟩)] ?_ (((HVR.out w1 hW.1)).mono ?_)
     ·have qf:R.eval (.func 24)=.func (.func 24) #[] #[]:=hm.cst _ (fun k e=>by cases e)
      clear hi hp hcl hm hW
      unfold execOp
      generalize R.eval=ρ at *
      go_simp
     ·rintro e w' ⟨rfl,f⟩
      exact ⟨_,rfl,b,rfl,fun _ _ _=>rfl,hW.upd (by decide) (by decide) (by decide) f⟩
    ·refine Dag.PStep.pure 50 rfl rfl rfl (by decide) (fun b d w h=>h.upd (by decide) (by decide) (by decide) (Touch.refl _ _)) (fun b d R w1 hp hm hW=>?_)
     have qo3:R.eval (.tmp 3)=.pointer (some ⟨bb,0,none⟩):=hm.old 3 (by decide)
     clear hp hm hW
     show (execOp R.eval _).run Tryz.prog w1=.ok (.value (.pointer (some ⟨bb,5,none⟩))) w1
     unfold execOp
     generalize R.eval=ρ at *
     go_simp
    ·refine ⟨rfl,fun s hs=>(by cases hs),fun b d R w1 hi hp hcl hm hW=>?_⟩
     have q50:R.eval (.tmp 50)=.pointer (some ⟨bb,5,none⟩):=hm.got 10 (by decide) (hp 10 (by decide +kernel)) (by decide) (by show (50:Nat)<68;decide)
     have q44:R.eval (.tmp 44)=.agg (En.sendV (Sf.prog s) b.1 b.2).toArray:=hm.got 4 (by decide) (hp 4 (by decide +kernel)) (by decide) (by show (44:Nat)<68;decide)
     have hB:=hW.2.2.1
     rw [show d 11=false from hi] at hB
     have hlen:(En.vcells x (if d 11=true then En.sendV (Sf.prog s) b.1 b.2 else En.noS) (if d 13=true then En.recvV (Rf.prog r) else En.noR) (En.tmK [] 0)).length=31:=(by cases d 11 <;> cases d 13 <;> rfl)
     rw [show d 11=false from hi] at hlen
     have ht:Touch (· = bb) w1 (w1.setCells bb 5 (En.sendV (Sf.prog s) b.1 b.2)):=Touch.setCells (S:=(· = bb)) rfl _ _ (Touch.refl _ _)
     refine .skip rfl undef (w1.setCells bb 5 (En.sendV (Sf.prog s) b.1 b.2)) (exec_storeB (ty:=57) rfl q50 q44 (hB.there_at 5 (by rw [hlen];exact Nat.le_of_ble_eq_true rfl)) (by kernel_rfl) (by simp [En.sendV,Value.oneCell'])) ⟨b,rfl,fun _ _ _=>rfl,hW.1.trans ht (fun k hk e=>by have e:k=bb:=e;have:=HLB2.out.1;omega),ht.blk hW.2.1 (fun e=>HNB.out e.symm),?_,fun h4=>?_⟩
     ·rw [Dag.upd_same,Dag.upd_far _ _ (by decide),if_pos rfl]
      cases h13:d 13 <;> (rw [h13] at hB;exact (Blk.setCells_at (En.sendV (Sf.prog s) b.1 b.2) 5 hB (Nat.le_of_ble_eq_true rfl)))
     ·rw [Dag.upd_far _ _ (by decide)] at h4
      have h5:=hW.2.2.2 h4
      exact ⟨h5.1.touch ht (fun ad e e2=>(h5.2 ad e).2.1 e2),h5.2⟩
    ·refine Dag.PStep.pure 51 rfl rfl rfl (by decide) (fun b d w h=>h.upd (by decide) (by decide) (by decide) (Touch.refl _ _)) (fun b d R w1 hp hm hW=>?_)
     have qo3:R.eval (.tmp 3)=.pointer (some ⟨bb,0,none⟩):=hm.old 3 (by decide)
     clear hp hm hW
     show (execOp R.eval _).run Tryz.prog w1=.ok (.value (.pointer (some ⟨bb,14,none⟩))) w1
     unfold execOp
     generalize R.eval=ρ at *
     go_simp
    ·refine ⟨rfl,fun s hs=>(by cases hs),fun b d R w1 hi hp hcl hm hW=>?_⟩
     have q51:R.eval (.tmp 51)=.pointer (some ⟨bb,14,none⟩):=hm.got 12 (by decide) (hp 12 (by decide +kernel)) (by decide) (by show (51:Nat)<68;decide)
     have q49:R.eval (.tmp 49)=.agg (En.recvV (Rf.prog r)).toArray:=hm.got 9 (by decide) (hp 9 (by decide +kernel)) (by decide) (by show (49:Nat)<68;decide)
     have hB:=hW.2.2.1
     rw [show d 13=false from hi] at hB
     have hlen:(En.vcells x (if d 11=true then En.sendV (Sf.prog s) b.1 b.2 else En.noS) (if d 13=true then En.recvV (Rf.prog r) else En.noR) (En.tmK [] 0)).length=31:=(by cases d 11 <;> cases d 13 <;> rfl)
     rw [show d 13=false from hi] at hlen
     have ht:Touch (· = bb) w1 (w1.setCells bb 14 (En.recvV (Rf.prog r))):=Touch.setCells (S:=(· = bb)) rfl _ _ (Touch.refl _ _)
     refine .skip rfl undef (w1.setCells bb 14 (En.recvV (Rf.prog r))) (exec_storeB (ty:=59) rfl q51 q49 (hB.there_at 14 (by rw [hlen];exact Nat.le_of_ble_eq_true rfl)) (by kernel_rfl) (by simp [En.recvV,Value.oneCell'])) ⟨b,rfl,fun _ _ _=>rfl,hW.1.trans ht (fun k hk e=>by have e:k=bb:=e;have:=HLB2.out.1;omega),ht.blk hW.2.1 (fun e=>HNB.out e.symm),?_,fun h4=>?_⟩
     ·rw [Dag.upd_same,Dag.upd_far _ _ (by decide),if_pos rfl]
      cases h11:d 11 <;> (rw [h11] at hB;exact (Blk.setCells_at (En.recvV (Rf.prog r)) 14 hB (Nat.le_of_ble_eq_true rfl)))
     ·rw [Dag.upd_far _ _ (by decide)] at h4
      have h5:=hW.2.2.2 h4
      exact ⟨h5.1.touch ht (fun ad e e2=>(h5.2 ad e).2.1 e2),h5.2⟩
    ·intro b d w' hd hW
     simp only [En.uD,Dag.actOf,List.foldl_cons,List.foldl_nil,En.uval,En.uidx]
     go_simp
     go_wp2
     go_meet
     case rel =>
      obtain ⟨h1,h2,h3,h4⟩:=hW
      have h5:=h4 (hd 4 (by decide))
      rw [if_pos (hd 11 (by decide)),if_pos (hd 13 (by decide))] at h3
      refine ⟨b.1,b.2,h1,h2,?_,fun e0 he0=>?_⟩
      ·show Blk _ _ _ _
       unfold En.sV En.rV
       rw [HE.out]
       exact h3
      ·rw [HE.out] at he0
       injection he0 with he0
       subst he0
       exact ⟨⟨h5.1,h1,fun ad e=>(h5.2 ad e).1⟩,fun ad e=>(h5.2 ad e).2⟩
  case rest =>
   obtain ⟨A',c',HFW2,HBR2,HB2,HMN⟩:=hcut
   clear HFW HBR HB1 HI HRD HLB HAG
   generalize wc=w2 at *
   have HP:=lh H.out.p
   have c12:∀ wx,Fresh w wx->wx.cell? ⟨n,12,none⟩=some (.pointer (some ⟨pc,0,none⟩)):=fun wx hw=>(hw.blk H.out.b.1 (fun e=>e)).cell 12
   have HC12:=lh c12
   have HLF:Hid (∀ W t,Fresh w W->Calls Tryz.prog 25 #[.pointer (some ⟨pc,0,none⟩),.int .i64 t] W fun e w'=>e=.returned (.int .i64 (Tm.left x.tm t))/\W=w'):=fun W t hW=>left_any pc _ x.tm _ t W (HP.out.1.touch hW (fun e=>e))
   clear c12 H HP
   go_wp2_with fail
   go_loopw [4,52] (fun _ v52 wr=>∃ j:Nat,j<=5/\v52=.int .i64 j/\Hid (Fresh w wr)/\Hid (Blk wr r2 62 En.vzero)/\Hid (Blk wr b 62 (En.vcells x (En.sV x A' c') (En.rV x) (En.tmK x.tm j)))/\Hid (∀ e,x.ep=some e->Mine numE w wr A' c' (Sf.pa e.1.again)/\∀ ad,A'=some ad->ad.block ≠ b/\ad.block ≠ r2)) (fun _ v52 _=>5-(intOf v52).toNat)
   case atStart=>exact ⟨0,by omega,rfl,HFW2,HBR2,HB2,HMN⟩
   case round =>
    obtain ⟨j,hj,rfl,HFR,HRR,HBB,HMM⟩:=hrel
    have hsz:=HFR.out.size
    by_cases hlt:j<5
    ·have hk1:(j:Int)<5:=by omega
     have hk0:(0:Int)<=(j:Int):=by omega
     have hk2:decide ((j:Int)<5)=true:=decide_eq_true hk1
     have c12:=HC12.out wr HFR.out
     have HT3:Hid (∀ W',W'=wr.setCell ⟨b,26+j,none⟩ (.int .i64 (Tm.left x.tm j))->Hid (Fresh w W')/\Hid (Blk W' r2 62 En.vzero)/\Hid (Blk W' b 62 (En.vcells x (En.sV x A' c') (En.rV x) (En.tmK x.tm (j+1))))/\Hid (∀ e,x.ep=some e->Mine numE w W' A' c' (Sf.pa e.1.again)/\∀ ad,A'=some ad->ad.block ≠ b/\ad.block ≠ r2)):=fun W' hW'=>by
      subst hW'
      have ht:=Touch.set1 wr b (26+j) (.int .i64 (Tm.left x.tm j))
      have hfr:Fresh w (wr.setCell ⟨b,26+j,none⟩ (.int .i64 (Tm.left x.tm j))):=HFR.out.trans ht (fun k hk e=>by have e:k=b:=e;have:=HLB2.out.1;omega)
      refine ⟨hfr,ht.blk HRR.out (fun e=>HNB.out e.symm),?_,fun e he=>?_⟩
      ·have h1:=HBB.out.set (26+j) (.int .i64 (Tm.left x.tm j))
       refine h1.eq_cells ?_
       have hs:(En.sV x A' c').length=9:=by unfold En.sV;split <;> rfl
       have hr:(En.rV x).length=6:=by unfold En.rV;split <;> rfl
       unfold En.vcells
       have e1:(26+j)-(En.connV x.conn).length=21+j:=by show (26+j)-5=_;omega
       rw [List.set_append_right _ _ (by show 5<=_;omega),e1,List.set_append_right _ _ (by rw [hs];omega),hs,List.set_append_right _ _ (by rw [hr];omega),hr,List.set_append_right _ _ (by show 6<=_;omega)]
       rw [show (21+j-9-6)-([.int .i64 (x.ctl.length:Int),.int .i64 (x.units.length:Int),.int .i64 (x.left.length:Int),.bool x.poll,.bool x.stat,.bool x.lacks]:List Value).length=j by show 21+j-9-6-6=j;omega]
       congr 4
       rcases (show j=0\/j=1\/j=2\/j=3\/j=4 by omega) with rfl | rfl | rfl | rfl | rfl <;> rfl
      ·have h1:=HMM.out e he
       exact ⟨⟨h1.1.sl.touch ht (fun ad e e2=>(h1.2 ad e).1 e2),hfr,h1.1.base⟩,h1.2⟩
     have HLE:=lh (HLF.out wr (j:Int) HFR.out)
     have hcell:∃ v,wr.cell? ⟨b,26+j,none⟩=some v:=by
      have hs:(En.sV x A' c').length=9:=by unfold En.sV;split <;> rfl
      have hr:(En.rV x).length=6:=by unfold En.rV;split <;> rfl
      rw [HBB.out.cell]
      refine ⟨_,List.getElem?_eq_getElem (show 26+j<_ from ?_)⟩
      unfold En.vcells En.tmK
      simp only [List.length_append,hs,hr,List.length_map,List.length_range]
      show 26+j<5+_
      simp
      omega
     obtain ⟨v0,hv0⟩:=hcell
     have hf0:=HBB.out.frozen (26+j)
     generalize Tm.left x.tm (j:Int)=tl at *
     clear HBB HRR HFR HMM
     go_wp2_with (go_at_call 25;(with_reducible refine HLE.out.mono ?_);rintro e w5 ⟨rfl,h5⟩;subst h5)
     go_roundw
     case rel =>
      obtain ⟨h1,h2,h3,h4⟩:=HT3.out _ rfl
      exact ⟨j+1,by omega,by go_num,h1,h2,h3,h4⟩
     case measure=>simp [intOf];omega
    ·obtain rfl:j=5:=by omega
     have HI:Hid ((Tryz.prog.info? 62).map (·.size)=some (En.varsC x A' c').length):=by
      have hs:(En.sV x A' c').length=9:=by unfold En.sV;split <;> rfl
      have hr:(En.rV x).length=6:=by unfold En.rV;split <;> rfl
      have e:(En.varsC x A' c').length=31:=by
       unfold En.varsC En.vcells En.tmK
       simp only [List.length_append,hs,hr,List.length_map,List.length_range]
       rfl
      show _=_
      rw [e]
      kernel_rfl
     have H31:Hid ((En.varsC x A' c').length=31):=by
      have h1:=HI.out
      rw [show (Tryz.prog.info? 62).map (·.size)=some 31 by kernel_rfl] at h1
      injection h1 with h1
      exact h1.symm
     have HO1:Hid (∀ v ∈ En.varsC x A' c',v.oneCell'=true):=by
      show ∀ v ∈ _,_
      unfold En.varsC En.vcells En.tmK En.sV En.rV
      split <;> simp [En.connV,En.sendV,En.recvV,En.noS,En.noR,Value.oneCell',List.range,List.range.loop]
     have HU:=lh Tryz.underlying62
     go_upto_region 9 with (fail)
     refine wp_region_lit ?_
     refine wpList_loadB rfl 62 (.tmp 3) rfl b 0 (by rfl) (En.varsC x A' c') HBB.out.range HU.out rfl HI.out ?_
     refine wpList_storeB rfl 62 (.tmp 2) (.tmp 67) rfl r2 0 (by rfl) (En.varsC x A' c') (by rfl) HRR.out (by rw [H31.out];exact Nat.le_refl 31) HI.out HO1.out ?_
     intro w3 hB3 ht3
     have HB3:=lh hB3
     have HT3:=lh ht3
     clear hB3 ht3
     go_wp2_with fail
     have hB4:Blk w3 r2 62 (En.varsC x A' c'):=HB3.out.eq_cells (by
      rw [List.take_zero,List.nil_append,Nat.zero_add,H31.out]
      exact List.append_nil _)
     have hT4:Fresh w w3:=HFR.out.trans HT3.out (fun k hk e=>by have e:k=r2:=e;have:=HLB2.out.2;omega)
     refine bodyPost_ret (v:=.agg (En.varsC x A' c').toArray) (results_c Tryz.results8 _ (by rfl) hB4.range HU.out rfl HI.out) rfl ⟨A',c',rfl,hT4,fun e he=>?_⟩
     have h5:=HMM.out e he
     exact ⟨h5.1.sl.touch HT3.out (fun ad e e2=>(h5.2 ad e).2 e2),hT4,h5.1.base⟩
end
end Go.Proofs.YtlbopdfobgjjaaaGreatDoor

/-
  polliwogref16.Node with nothing waiting, by value: Ready, credit. Conditions: it lacks nothing · polliwogref16.New of a config. Conditions: its numbers are not too great.
-/
import Derived.Test.YtlbopdfobgjjaaaGreatDoorFB
import Derived.Test.YtlbopdfobgjjaaaGreatDoorRc
import Derived.Test.YtlbopdfobgjjaaaGreatDoorRev6
import Derived.Deep.RegionHeld3
import Derived.Test.YtlbopdfobgjjaaaGreatDoorOpen2
import Derived.Test.YtlbopdfobgjjaaaGreatDoorMapD
import Derived.Deep.DeepCutAuto
set_option maxHeartbeats 2000000
namespace Go.Proofs.YtlbopdfobgjjaaaGreatDoor
open Go.RowKit
set_option maxRecDepth 20000
set_option linter.constructorNameAsVariable false
structure Rn where
 y0:Int
 y1:Int
 y2:Int
 y3:Int
 y4:Int
 y5:Int
 T:Option Addr
 cT:Nat
 s:Cn.S
 L:Option Addr
 cL:Nat
 a0:Int
 a1:Int
 a2:Int
 a3:Int
 a4:Int
 a5:Int
 a6:Int
 a7:Int
 r0:Int
 r1:Int
 r2:Int
 r3:Int
 C:Option Addr
 nC:Nat
 cC:Nat
def Rn.cells (x:Rn):List Value:=[.int .i64 x.y0,.int .i64 x.y1,.int .i64 x.y2,.int .i64 x.y3,.int .i64 x.y4,.int .i64 x.y5,.slice x.T 5 x.cT,
 .int .i64 x.s.most,.int .i64 x.s.credit,.int .i64 x.s.state,.int .i64 x.s.sq,.int .i64 x.s.peer,.int .i64 x.s.cc,.int .i64 x.s.ms,.string x.s.data,
 .slice x.T 5 x.cT,.slice x.L 5 x.cL,
 .int .i64 x.a0,.int .i64 x.a1,.int .i64 x.a2,.int .i64 x.a3,.int .i64 x.a4,.int .i64 x.a5,.int .i64 x.a6,.int .i64 x.a7,.slice none 0 0,.slice none 0 0,.slice none 0 0,.slice none 0 0,
 .int .i64 x.r0,.int .i64 x.r1,.int .i64 x.r2,.int .i64 x.r3,.slice none 0 0,.slice none 0 0,.slice none 0 0,
 .slice x.C x.nC x.cC,.slice none 0 0,.bool false,.bool false,.int .i64 0,.bool false,.slice none 0 0]
theorem rnI:(Tryz.prog.info? 135).map (·.size)=some 43:=by kernel_rfl
theorem rnO (x:Rn):∀ v ∈ x.cells,v.oneCell'=true:=by simp [Rn.cells,Value.oneCell']
def rnZ:List Value:=[.int .i64 0,.int .i64 0,.int .i64 0,.int .i64 0,.int .i64 0,.int .i64 0,.slice none 0 0,
 .int .i64 0,.int .i64 0,.int .i64 0,.int .i64 0,.int .i64 0,.int .i64 0,.int .i64 0,.string { data:=#[] },.slice none 0 0,.slice none 0 0,
 .int .i64 0,.int .i64 0,.int .i64 0,.int .i64 0,.int .i64 0,.int .i64 0,.int .i64 0,.int .i64 0,.slice none 0 0,.slice none 0 0,.slice none 0 0,.slice none 0 0,
 .int .i64 0,.int .i64 0,.int .i64 0,.int .i64 0,.slice none 0 0,.slice none 0 0,.slice none 0 0,
 .slice none 0 0,.slice none 0 0,.bool false,.bool false,.int .i64 0,.bool false,.slice none 0 0]
def FF (w:World) (k:Nat):Prop:=k<w.heap.size
theorem FB.ff {w w':World} {bs:List Nat} {L:List Bx} (h:FB (FF w) bs w w' L):Fresh w w':=h.t.mono fun _ hk e=>e hk
set_option maxRecDepth 20000
set_option linter.constructorNameAsVariable false
theorem rnew14_any (most credit:Int) (w:World):Calls Tryz.prog 67 #[.int .i64 most,.int .i64 credit] w fun e w'=>e=.returned (rcV (Cn.new most credit))/\Fresh w w':=by
 obtain ⟨m,hm⟩:=qx ((if 16<most then (16:Int) else most))
 obtain ⟨M,hM⟩:=qx ((if 1<m then m else 1))
 have HM:Hid (max 1 (min most 16)=M):=by unfold Hid;rw [<- hM,<- hm];(split <;> (try split) <;> omega)
 have hmin:min most 16=m:=by rw [<- hm];split <;> omega
 have hmax:max 1 m=M:=by rw [<- hM];split <;> omega
 have HN:Hid (Cn.new most credit=⟨M,credit%16777216,1,0,-1,0,credit%16777216,Cn.no⟩):=by unfold Hid Cn.new;rw [HM.out]
 go_enter Tryz.func67,Tryz.ntmps67
 go_wp2_with fail
 refine (r01of_any credit _).mono ?_
 rintro e w1 ⟨rfl,rfl⟩
 go_wp2
 exact bodyPost_ret (v:=.agg #[.int .i64 M,.int .i64 (credit%16777216),.int .i64 1,.int .i64 0,.int .i64 (-1),.int .i64 0,.int .i64 (credit%16777216),.string { data:=#[] }]) (by simp [results,Tryz.results67,go_sem]) rfl ⟨by rw [HN.out];rfl,(Touch.refl _ _).alloc _⟩
def cfL (y0 y1 y2 y3 y4 y5:Int) (T:Option Addr) (cT:Nat):List Value:=[.int .i64 y0,.int .i64 y1,.int .i64 y2,.int .i64 y3,.int .i64 y4,.int .i64 y5,.slice T 5 cT]
def rn0 (y0 y1 y2 y3 y4 y5:Int) (T:Option Addr) (cT:Nat) (L:Option Addr) (cL:Nat):Rn:=⟨y0,y1,y2,y3,y4,y5,T,cT,Cn.new y0 (y5+y1),L,cL,0,0,0,0,0,0,0,0,0,0,0,0,none,0,0⟩
theorem cfI:(Tryz.prog.info? 24).map (·.size)=some 7:=by kernel_rfl
def rnwslot (i:Nat):Nat:=[3,4,5,6,7,8,9,10,11,12,13,14,15,1013].getD i 2000
def rnwidx (k:Nat):Nat:=[0,0,0,0,1,2,3,4,5,6,7,8,9,10,11,12].getD k 0
def rnwD:List Nat:=[3,4,5,6,7,8,9,10,11,12,13,14,15]
def rnwval (g:Nat) (y0 y1 y2 y3 y4 y5:Int) (T:Option Addr) (cT:Nat) (b:Option Addr × Nat) (i:Nat):Value:=[.agg (cfL y0 y1 y2 y3 y4 y5 T cT).toArray,.pointer (some ⟨g,0,none⟩),.int .i64 y0,.pointer (some ⟨g,5,none⟩),.int .i64 y5,.pointer (some ⟨g,1,none⟩),.int .i64 y1,.int .i64 (y5+y1),rcV (Cn.new y0 (y5+y1)),.pointer (some ⟨g,6,none⟩),.slice T 5 cT,.agg #[.slice T 5 cT,.slice b.1 5 b.2],.agg (rn0 y0 y1 y2 y3 y4 y5 T cT b.1 b.2).cells.toArray,undef].getD i undef
theorem rn_built (y0 y1 y2 y3 y4 y5:Int) (T:Option Addr) (cT:Nat) (s:Cn.S) (L:Option Addr) (cL:Nat):Tryz.prog.built 135 [(0,.agg (cfL y0 y1 y2 y3 y4 y5 T cT).toArray),(1,rcV s),(2,.agg #[.slice T 5 cT,.slice L 5 cL])]=some (Rn.cells ⟨y0,y1,y2,y3,y4,y5,T,cT,s,L,cL,0,0,0,0,0,0,0,0,0,0,0,0,none,0,0⟩).toArray:=by kernel_rfl
theorem ref_newN (Tk:Option Addr) (ck:Nat) (w:World) :
  Calls Tryz.prog 68 #[.slice Tk 5 ck] w fun e w'=>∃ A c,e=.returned (.agg #[.slice Tk 5 ck,.slice A 5 c])/\(Sl intE w' A c [0,0,0,0,0]/\∀ ad,A=some ad->w.heap.size<=ad.block)/\Fresh w w':=by
 go_enter Tryz.func68,Tryz.ntmps68
 go_wp2
 have HS:=lh (Sl.lit intE (w.alloc (.cells #[.slice Tk 5 ck,.slice (some ⟨w.heap.size+1,0,none⟩) 5 5] 126)) (w.heap.size+1) (by simp) #[.int .i64 0,.int .i64 0,.int .i64 0,.int .i64 0,.int .i64 0] [0,0,0,0,0] rfl 5 rfl (by decide))
 exact bodyPost_ret (v:=.agg #[.slice Tk 5 ck,.slice (some ⟨w.heap.size+1,0,none⟩) 5 5]) (by simp [results,Tryz.results68,go_sem]) rfl ⟨_,_,rfl,⟨HS.out,fun ad e=>(by injection e with e;subst e;exact Nat.le_succ _)⟩,((Touch.refl _ w).alloc _).alloc _⟩
def rnwWD (w:World) (g:Nat) (y0 y1 y2 y3 y4 y5:Int) (T:Option Addr) (cT:Nat) (b:Option Addr × Nat) (d:Nat->Bool) (W:World):Prop:=
 FB (FF w) [g,g+1] w W [⟨g,24,cfL y0 y1 y2 y3 y4 y5 T cT⟩,⟨g+1,135,if d 13=true then (rn0 y0 y1 y2 y3 y4 y5 T cT b.1 b.2).cells else rnZ⟩]/\(d 11=true->Sl intE W b.1 b.2 [0,0,0,0,0]/\∀ ad,b.1=some ad->g<=ad.block)
theorem rnwWD.upd {w:World} {g:Nat} {y0 y1 y2 y3 y4 y5:Int} {T:Option Addr} {cT:Nat} {b:Option Addr × Nat} {d:Nat->Bool} {W W':World} (h:rnwWD w g y0 y1 y2 y3 y4 y5 T cT b d W) {i:Nat} (h1:i ≠ 11) (h2:i ≠ 13) (hf:Fresh W W'):rnwWD w g y0 y1 y2 y3 y4 y5 T cT b (Dag.upd d i true) W':=by
 unfold rnwWD
 rw [Dag.upd_far _ _ (Ne.symm h2),Dag.upd_far _ _ (Ne.symm h1)]
 exact ⟨h.1.fresh hf,fun e=>⟨(h.2 e).1.touch hf (fun _ _ e=>e),(h.2 e).2⟩⟩
theorem rnew_any16 (y0 y1 y2 y3 y4 y5:Int) (T:Option Addr) (cT:Nat) (w:World) (hb:0<=y1/\y1<=64/\0<=y5/\y5<16777216) :
  Calls Tryz.prog 33 #[.agg (cfL y0 y1 y2 y3 y4 y5 T cT).toArray] w fun e w'=>∃ L cL,e=.returned (.agg (rn0 y0 y1 y2 y3 y4 y5 T cT L cL).cells.toArray)/\(Sl intE w' L cL [0,0,0,0,0]/\∀ ad,L=some ad->w.heap.size<=ad.block)/\Fresh w w':=by
 obtain ⟨w1,hw1⟩:=xq ((w.alloc (.cells (cfL y0 y1 y2 y3 y4 y5 T cT).toArray 24)).alloc (.cells rnZ.toArray 135))
 have HX:Hid (FB (FF w) [w.heap.size,w.heap.size+1] w w1 [⟨w.heap.size,24,cfL y0 y1 y2 y3 y4 y5 T cT⟩,⟨w.heap.size+1,135,rnZ⟩]):=by rw [hw1];exact ((FB.nil w (fun k e=>e)).al _ _ _ (by simp)).al _ rnZ _ (by simp)
 unfold rnZ at hw1
 go_enter Tryz.func33,Tryz.ntmps33
 go_upto_region 1 with (fail)
 rw [<- hw1]
 clear hw1
 generalize w.heap.size=g at *
 have HC:=lh (rnew14_any y0 (y5+y1))
 have HP:=lh (ref_newN T cT)
 have HW:Hid (IntKind.i64.wrap (y5+y1)=y5+y1):=by
  unfold Hid
  rw [IntKind.wrap_i64]
  omega
 clear hb
 have HINJ:Hid (∀ i,i<14->∀ j,j<14->rnwslot i=rnwslot j->i=j):=by
  show ∀ i,i<14->∀ j,j<14->rnwslot i=rnwslot j->i=j
  decide +kernel
 have HFD:Hid (∀ k,k ∈ rnwD->rnwidx k<14/\rnwslot (rnwidx k)=k):=by
  show ∀ k,k ∈ rnwD->rnwidx k<14/\rnwslot (rnwidx k)=k
  decide +kernel
 refine Dag.detP (by kernel_rfl) 14 rnwD rnwslot (rnwval g y0 y1 y2 y3 y4 y5 T cT) (rnwWD w g y0 y1 y2 y3 y4 y5 T cT) (none,0) (fun b k=>rnwval g y0 y1 y2 y3 y4 y5 T cT b (rnwidx k)) (by rfl) (fun i j hi hj=>HINJ.out i hi j hj) (by decide +kernel) ⟨HX.out.fresh (Touch.refl _ _).drew,fun e=>(by cases e)⟩ (by decide +kernel)
  ⟨?_,?_,?_,?_,?_,?_,?_,?_,?_,?_,?_,?_,?_,?_,trivial⟩ (fun b k hk=>⟨rnwidx k,(HFD.out k hk).1,(HFD.out k hk).2,rfl⟩) ?_
 ·refine Dag.PStep.pure 3 rfl rfl rfl (by decide) (fun b dn W h=>h.upd (by decide) (by decide) (Touch.refl _ _)) (fun b dn R W hp hm hW=>?_)
  have q1:R.eval (.tmp 1)=.pointer (some ⟨g,0,none⟩):=hm.old 1 (by decide)
  exact exec_loadB rfl q1 (hW.1.at_ 0 rfl).range Tryz.underlying24 rfl cfI
 ·refine Dag.PStep.pure 4 rfl rfl rfl (by decide) (fun b dn W h=>h.upd (by decide) (by decide) (Touch.refl _ _)) (fun b dn R W hp hm hW=>?_)
  have q1:R.eval (.tmp 1)=.pointer (some ⟨g,0,none⟩):=hm.old 1 (by decide)
  clear hp hm hW
  show (execOp R.eval _).run Tryz.prog W=.ok (.value (.pointer (some ⟨g,0,none⟩))) W
  unfold execOp
  generalize R.eval=ρ at *
  go_simp
 ·refine Dag.PStep.pure 5 rfl rfl rfl (by decide) (fun b dn W h=>h.upd (by decide) (by decide) (Touch.refl _ _)) (fun b dn R W hp hm hW=>?_)
  have q4:R.eval (.tmp 4)=.pointer (some ⟨g,0,none⟩):=hm.got 1 (by decide) (hp 1 (by decide +kernel)) (by decide) (by show (4:Nat)<16;decide)
  have c0:W.cell? ⟨g,0,none⟩=some (.int .i64 y0):=(hW.1.at_ 0 rfl).cell 0
  clear hp hm hW
  show (execOp R.eval _).run Tryz.prog W=.ok (.value (.int .i64 y0)) W
  unfold execOp
  generalize R.eval=ρ at *
  go_simp
 ·refine Dag.PStep.pure 6 rfl rfl rfl (by decide) (fun b dn W h=>h.upd (by decide) (by decide) (Touch.refl _ _)) (fun b dn R W hp hm hW=>?_)
  have q1:R.eval (.tmp 1)=.pointer (some ⟨g,0,none⟩):=hm.old 1 (by decide)
  clear hp hm hW
  show (execOp R.eval _).run Tryz.prog W=.ok (.value (.pointer (some ⟨g,5,none⟩))) W
  unfold execOp
  generalize R.eval=ρ at *
  go_simp
 ·refine Dag.PStep.pure 7 rfl rfl rfl (by decide) (fun b dn W h=>h.upd (by decide) (by decide) (Touch.refl _ _)) (fun b dn R W hp hm hW=>?_)
  have q6:R.eval (.tmp 6)=.pointer (some ⟨g,5,none⟩):=hm.got 3 (by decide) (hp 3 (by decide +kernel)) (by decide) (by show (6:Nat)<16;decide)
  have c5:W.cell? ⟨g,5,none⟩=some (.int .i64 y5):=(hW.1.at_ 0 rfl).cell 5
  clear hp hm hW
  show (execOp R.eval _).run Tryz.prog W=.ok (.value (.int .i64 y5)) W
  unfold execOp
  generalize R.eval=ρ at *
  go_simp
 ·refine Dag.PStep.pure 8 rfl rfl rfl (by decide) (fun b dn W h=>h.upd (by decide) (by decide) (Touch.refl _ _)) (fun b dn R W hp hm hW=>?_)
  have q1:R.eval (.tmp 1)=.pointer (some ⟨g,0,none⟩):=hm.old 1 (by decide)
  clear hp hm hW
  show (execOp R.eval _).run Tryz.prog W=.ok (.value (.pointer (some ⟨g,1,none⟩))) W
  unfold execOp
  generalize R.eval=ρ at *
  go_simp
 ·refine Dag.PStep.pure 9 rfl rfl rfl (by decide) (fun b dn W h=>h.upd (by decide) (by decide) (Touch.refl _ _)) (fun b dn R W hp hm hW=>?_)
  have q8:R.eval (.tmp 8)=.pointer (some ⟨g,1,none⟩):=hm.got 5 (by decide) (hp 5 (by decide +kernel)) (by decide) (by show (8:Nat)<16;decide)
  have c1:W.cell? ⟨g,1,none⟩=some (.int .i64 y1):=(hW.1.at_ 0 rfl).cell 1
  clear hp hm hW
  show (execOp R.eval _).run Tryz.prog W=.ok (.value (.int .i64 y1)) W
  unfold execOp
  generalize R.eval=ρ at *
  go_simp
 ·refine Dag.PStep.pure 10 rfl rfl rfl (by decide) (fun b dn W h=>h.upd (by decide) (by decide) (Touch.refl _ _)) (fun b dn R W hp hm hW=>?_)
  have q7:R.eval (.tmp 7)=.int .i64 y5:=hm.got 4 (by decide) (hp 4 (by decide +kernel)) (by decide) (by show (7:Nat)<16;decide)
  have q9:R.eval (.tmp 9)=.int .i64 y1:=hm.got 6 (by decide) (hp 6 (by decide +kernel)) (by decide) (by show (9:Nat)<16;decide)
  have hw:IntKind.i64.wrap (y5+y1)=y5+y1:=HW.out
  clear hp hm hW
  show (execOp R.eval _).run Tryz.prog W=.ok (.value (.int .i64 (y5+y1))) W
  unfold execOp
  generalize R.eval=ρ at *
  go_simp
 ·refine ⟨rfl,fun s hs=>(by cases hs;exact ⟨rfl,by decide⟩),fun b dn R W hi hp hcl hm hW=>?_⟩
  have q5:R.eval (.tmp 5)=.int .i64 y0:=hm.got 2 (by decide) (hp 2 (by decide +kernel)) (by decide) (by show (5:Nat)<16;decide)
  have q10:R.eval (.tmp 10)=.int .i64 (y5+y1):=hm.got 7 (by decide) (hp 7 (by decide +kernel)) (by decide) (by show (10:Nat)<16;decide)
  have qf:R.eval (.func 67)=.func (.func 67) #[] #[]:=hm.cst _ (fun k e=>by cases e)
  refine .call 11 rfl 67 #[.int .i64 y0,.int .i64 (y5+y1)] ?_ ((HC.out W).mono ?_)
  ·clear hi hp hcl hm hW
   unfold execOp
   generalize R.eval=ρ at *
   go_simp
  ·rintro e w' ⟨rfl,f⟩
   exact ⟨_,rfl,b,rfl,fun _ _ _=>rfl,hW.upd (by decide) (by decide) f⟩
 ·refine Dag.PStep.pure 12 rfl rfl rfl (by decide) (fun b dn W h=>h.upd (by decide) (by decide) (Touch.refl _ _)) (fun b dn R W hp hm hW=>?_)
  have q1:R.eval (.tmp 1)=.pointer (some ⟨g,0,none⟩):=hm.old 1 (by decide)
  clear hp hm hW
  show (execOp R.eval _).run Tryz.prog W=.ok (.value (.pointer (some ⟨g,6,none⟩))) W
  unfold execOp
  generalize R.eval=ρ at *
  go_simp
 ·refine Dag.PStep.pure 13 rfl rfl rfl (by decide) (fun b dn W h=>h.upd (by decide) (by decide) (Touch.refl _ _)) (fun b dn R W hp hm hW=>?_)
  have q12:R.eval (.tmp 12)=.pointer (some ⟨g,6,none⟩):=hm.got 9 (by decide) (hp 9 (by decide +kernel)) (by decide) (by show (12:Nat)<16;decide)
  have c6:W.cell? ⟨g,6,none⟩=some (.slice T 5 cT):=(hW.1.at_ 0 rfl).cell 6
  clear hp hm hW
  show (execOp R.eval _).run Tryz.prog W=.ok (.value (.slice T 5 cT)) W
  unfold execOp
  generalize R.eval=ρ at *
  go_simp
 ·refine ⟨rfl,fun s hs=>(by cases hs;exact ⟨rfl,by decide⟩),fun b dn R W hi hp hcl hm hW=>?_⟩
  have q13:R.eval (.tmp 13)=.slice T 5 cT:=hm.got 10 (by decide) (hp 10 (by decide +kernel)) (by decide) (by show (13:Nat)<16;decide)
  have qf:R.eval (.func 68)=.func (.func 68) #[] #[]:=hm.cst _ (fun k e=>by cases e)
  have h12:dn 12=false:=Bool.eq_false_iff.2 fun h=>by have:=hcl 12 11 (by decide +kernel) h;rw [hi] at this;cases this
  have h13:dn 13=false:=Bool.eq_false_iff.2 fun h=>by have:=hcl 13 11 (by decide +kernel) h;rw [hi] at this;cases this
  refine .call 14 rfl 68 #[.slice T 5 cT] ?_ ((HP.out W).mono ?_)
  ·clear hi hp hcl hm hW
   unfold execOp
   generalize R.eval=ρ at *
   go_simp
  ·rintro e w' ⟨L,cL,rfl,⟨hs,hn⟩,f⟩
   refine ⟨_,rfl,(L,cL),rfl,fun j hj hdj=>?_,?_,fun _=>⟨hs,fun ad e=>by have:=hn ad e;have:=hW.1.lt g (by simp);omega⟩⟩
   ·rcases (show j=0\/j=1\/j=2\/j=3\/j=4\/j=5\/j=6\/j=7\/j=8\/j=9\/j=10\/j=11\/j=12\/j=13 by omega) with rfl | rfl | rfl | rfl | rfl | rfl | rfl | rfl | rfl | rfl | rfl | rfl | rfl | rfl <;> first | rfl | (rw [hi] at hdj;cases hdj) | (rw [h12] at hdj;cases hdj)
   ·have h1:=hW.1.fresh f
    rw [h13] at h1
    rw [Dag.upd_far _ _ (by decide),h13]
    exact h1
 ·refine Dag.PStep.pure 15 rfl rfl rfl (by decide) (fun b dn W h=>h.upd (by decide) (by decide) (Touch.refl _ _)) (fun b dn R W hp hm hW=>?_)
  have q3:R.eval (.tmp 3)=.agg (cfL y0 y1 y2 y3 y4 y5 T cT).toArray:=hm.got 0 (by decide) (hp 0 (by decide +kernel)) (by decide) (by show (3:Nat)<16;decide)
  have q11:R.eval (.tmp 11)=rcV (Cn.new y0 (y5+y1)):=hm.got 8 (by decide) (hp 8 (by decide +kernel)) (by decide) (by show (11:Nat)<16;decide)
  have q14:R.eval (.tmp 14)=.agg #[.slice T 5 cT,.slice b.1 5 b.2]:=hm.got 11 (by decide) (hp 11 (by decide +kernel)) (by decide) (by show (14:Nat)<16;decide)
  exact exec_buildB rfl _ (by simp only [List.map_toArray,List.map_cons,List.map_nil,q3,q11,q14];exact rn_built _ _ _ _ _ _ _ _ _ _ _)
 ·refine ⟨rfl,fun s hs=>(by cases hs),fun b dn R W hi hp hcl hm hW=>?_⟩
  have q2:R.eval (.tmp 2)=.pointer (some ⟨g+1,0,none⟩):=hm.old 2 (by decide)
  have q15:R.eval (.tmp 15)=.agg (rn0 y0 y1 y2 y3 y4 y5 T cT b.1 b.2).cells.toArray:=hm.got 12 (by decide) (hp 12 (by decide +kernel)) (by decide) (by show (15:Nat)<16;decide)
  have hB:=hW.1.at_ 1 rfl
  have ht:Touch (· = g+1) W (W.setCells (g+1) 0 (rn0 y0 y1 y2 y3 y4 y5 T cT b.1 b.2).cells):=Touch.setCells (S:=(· = g+1)) rfl _ _ (Touch.refl _ _)
  rw [hi] at hB
  refine .skip rfl undef (W.setCells (g+1) 0 (rn0 y0 y1 y2 y3 y4 y5 T cT b.1 b.2).cells) (exec_storeB rfl q2 q15 (hB.there_at 0 (Nat.le_of_ble_eq_true rfl)) rnI (rnO _)) ⟨b,rfl,fun _ _ _=>rfl,?_,fun h11=>?_⟩
  ·have h1:=hW.1.put 1 rfl (hB.setCells (cs:=rnZ) (vs:=(rn0 y0 y1 y2 y3 y4 y5 T cT b.1 b.2).cells) rfl) ht
   rw [Dag.upd_same]
   exact h1
  ·rw [Dag.upd_far _ _ (by decide)] at h11
   exact ⟨(hW.2 h11).1.touch ht (fun ad e e2=>(hW.2 h11).1.blk_ne hB (show intE.e ≠ 135 by decide) ad e e2),(hW.2 h11).2⟩
 ·intro b dn w4 hd hW
  obtain ⟨h1,h2⟩:=hW
  have HS:=lh (h2 (hd 11 (by decide)))
  rw [hd 13 (by decide)] at h1
  have HX:=lh h1
  clear h1 h2 hd HC HP HW HINJ HFD
  simp only [rnwD,Dag.actOf,List.foldl_cons,List.foldl_nil,rnwval,rnwidx]
  go_wp2_with fail
  exact bodyPost_ret (v:=.agg (rn0 y0 y1 y2 y3 y4 y5 T cT b.1 b.2).cells.toArray) (results_c Tryz.results33 _ (by rfl) (HX.out.at_ 1 rfl).range Tryz.underlying135 rfl rnI) rfl ⟨b.1,b.2,rfl,⟨HS.out.1,fun ad e=>by have h1:=HS.out.2 ad e;have h2:=HX.out.new g (by simp);omega⟩,HX.out.ff⟩
end Go.Proofs.YtlbopdfobgjjaaaGreatDoor

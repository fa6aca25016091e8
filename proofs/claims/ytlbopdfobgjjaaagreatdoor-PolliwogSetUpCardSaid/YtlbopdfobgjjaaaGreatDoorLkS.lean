/-
  polliwoglaw18.Config.Own: the program's config. No conditions · polliwoglaw18.Start: a link of any two configs, brought to what may be; and the document's link beside it. No conditions.
-/
import Derived.Test.YtlbopdfobgjjaaaGreatDoorLkH
import Derived.Test.YtlbopdfobgjjaaaGreatDoorLkW
import Derived.Test.YtlbopdfobgjjaaaGreatDoorOpen2
import Derived.Test.YtlbopdfobgjjaaaGreatDoorLkQ
import Derived.Test.YtlbopdfobgjjaaaGreatDoorSuG2
set_option maxHeartbeats 8000000
namespace Go.Proofs.YtlbopdfobgjjaaaGreatDoor
open Go.RowKit
set_option maxRecDepth 20000
def c23Z:List Value:=ndcZ++ndcZ++[.int .i64 0]
theorem ends_built (a b:Nd.C):Tryz.prog.built 75 [(0,.agg a.cells.toArray),(1,.agg b.cells.toArray)]=some (a.cells++b.cells).toArray:=by kernel_rfl
theorem lkc_built (a b:Nd.C) (m:Int):Tryz.prog.built 77 [(0,.agg (a.cells++b.cells).toArray),(1,.int .i64 m)]=some (a.cells++b.cells++[Value.int .i64 m]).toArray:=by kernel_rfl
def o2slot (i:Nat):Nat:=[3,4,5,6,7,8,9,10,11,12,1008].getD i 2000
def o2D:List Nat:=[3,4,5,6,7,8,9,10,11,12]
def o2val (bx:Nat) (xs ys a b G F:List Value) (m:Int) (_:Unit) (i:Nat):Value:=[.pointer (some ⟨bx,0,none⟩),.agg xs.toArray,.agg a.toArray,.pointer (some ⟨bx,7,none⟩),.agg ys.toArray,.agg b.toArray,.agg G.toArray,.pointer (some ⟨bx,14,none⟩),.int .i64 m,.agg F.toArray].getD i undef
structure O2 (w1:World) (bx:Nat) (F:List Value) (_b:Unit) (d:Nat->Bool) (W:World):Prop where
 fr:Touch (· = bx+1) w1 W
 bx:Blk W (bx+1) 77 (if d 10=true then F else c23Z)
theorem O2.step {w1 W W':World} {bx:Nat} {F:List Value} {b:Unit} {d:Nat->Bool} (h:O2 w1 bx F b d W) (hf:Fresh W W') {i:Nat} (hi:i ≠ 10):O2 w1 bx F b (Dag.upd d i true) W':=by
 refine ⟨h.fr.trans hf (fun _ _ e=>e.elim),?_⟩
 rw [Dag.upd_far _ _ (Ne.symm hi)]
 exact hf.blk h.bx (fun e=>e)
theorem O2.read {w1 W:World} {bx:Nat} {F:List Value} {b:Unit} {d:Nat->Bool} (h:O2 w1 bx F b d W) {i:Nat} (hi:i ≠ 10):O2 w1 bx F b (Dag.upd d i true) W:=h.step (Touch.refl _ _) hi
theorem own18_any (x0 x1 x2 x3 x4 x5 y0 y1 y2 y3 y4 y5 m:Int) (g h:Nat) (c0 c1 c2 c3 c4 d0 d1 d2 d3 d4:Int) (w:World) (h1:Rd intE w (some ⟨g,0,none⟩) 5 [c0,c1,c2,c3,c4]) (h2:Rd intE w (some ⟨h,0,none⟩) 5 [d0,d1,d2,d3,d4]) (F:List Value) (hF:F=(⟨x0,x1,x2,x3,x4,x5%16777216,c0,c1,c2,c3,c4⟩:Nd.C).cells++(⟨y0,y1,y2,y3,y4,y5%16777216,d0,d1,d2,d3,d4⟩:Nd.C).cells++[Value.int .i64 m]) :
  Calls Tryz.prog 12 #[.agg #[.int .i64 x0,.int .i64 x1,.int .i64 x2,.int .i64 x3,.int .i64 x4,.int .i64 x5,.slice (some ⟨g,0,none⟩) 5 5,.int .i64 y0,.int .i64 y1,.int .i64 y2,.int .i64 y3,.int .i64 y4,.int .i64 y5,.slice (some ⟨h,0,none⟩) 5 5,.int .i64 m]] w fun e w'=>e=.returned (.agg F.toArray)/\Fresh w w':=by
 have HFQ:=lh hF
 clear hF
 obtain ⟨w1,hw1⟩:=xq ((w.alloc (.cells #[.int .i64 x0,.int .i64 x1,.int .i64 x2,.int .i64 x3,.int .i64 x4,.int .i64 x5,.slice (some ⟨g,0,none⟩) 5 5,.int .i64 y0,.int .i64 y1,.int .i64 y2,.int .i64 y3,.int .i64 y4,.int .i64 y5,.slice (some ⟨h,0,none⟩) 5 5,.int .i64 m] 26)).alloc (.cells c23Z.toArray 77))
 obtain ⟨bx,hbx⟩:=xq w.heap.size
 have hf1:Fresh w w1:=by rw [hw1];exact ((Touch.refl _ _).alloc _).alloc _
 have HBX:Hid (Blk w1 bx 26 ([.int .i64 x0,.int .i64 x1,.int .i64 x2,.int .i64 x3,.int .i64 x4,.int .i64 x5,.slice (some ⟨g,0,none⟩) 5 5]++[.int .i64 y0,.int .i64 y1,.int .i64 y2,.int .i64 y3,.int .i64 y4,.int .i64 y5,.slice (some ⟨h,0,none⟩) 5 5]++[Value.int .i64 m])):=by rw [hw1,hbx];exact (Blk.new w _ _).alloc _
 have HB2:Hid (Blk w1 (bx+1) 77 c23Z):=by
  rw [hw1,hbx]
  have e:(w.alloc (.cells #[.int .i64 x0,.int .i64 x1,.int .i64 x2,.int .i64 x3,.int .i64 x4,.int .i64 x5,.slice (some ⟨g,0,none⟩) 5 5,.int .i64 y0,.int .i64 y1,.int .i64 y2,.int .i64 y3,.int .i64 y4,.int .i64 y5,.slice (some ⟨h,0,none⟩) 5 5,.int .i64 m] 26)).heap.size=w.heap.size+1:=by simp
  rw [<- e]
  exact Blk.new _ _ c23Z
 have HF1:Hid (Fresh w w1):=hf1
 have HWB:Hid (w.heap.size<=bx):=by rw [hbx];exact Nat.le_refl _
 have HNB:Hid (∀ W,Touch (· = bx+1) w1 W->Fresh w W):=fun W hW=>hf1.trans hW (fun k hk e=>by have e:k=bx+1:=e;have:=HWB.out;omega)
 have HC1:Hid (∀ W,Touch (· = bx+1) w1 W->Calls Tryz.prog 32 #[.agg ([.int .i64 x0,.int .i64 x1,.int .i64 x2,.int .i64 x3,.int .i64 x4,.int .i64 x5,.slice (some ⟨g,0,none⟩) 5 5]:List Value).toArray] W fun e w'=>e=.returned (.agg (⟨x0,x1,x2,x3,x4,x5%16777216,c0,c1,c2,c3,c4⟩:Nd.C).cells.toArray)/\Fresh W w'):=fun W hW=>own16_any x0 x1 x2 x3 x4 x5 g 0 5 c0 c1 c2 c3 c4 W (h1.touch (HNB.out W hW) (fun _ _ _ e=>e))
 have HC2:Hid (∀ W,Touch (· = bx+1) w1 W->Calls Tryz.prog 32 #[.agg ([.int .i64 y0,.int .i64 y1,.int .i64 y2,.int .i64 y3,.int .i64 y4,.int .i64 y5,.slice (some ⟨h,0,none⟩) 5 5]:List Value).toArray] W fun e w'=>e=.returned (.agg (⟨y0,y1,y2,y3,y4,y5%16777216,d0,d1,d2,d3,d4⟩:Nd.C).cells.toArray)/\Fresh W w'):=fun W hW=>own16_any y0 y1 y2 y3 y4 y5 h 0 5 d0 d1 d2 d3 d4 W (h2.touch (HNB.out W hW) (fun _ _ _ e=>e))
 have HLX:Hid (([.int .i64 x0,.int .i64 x1,.int .i64 x2,.int .i64 x3,.int .i64 x4,.int .i64 x5,.slice (some ⟨g,0,none⟩) 5 5]:List Value).length=7/\([.int .i64 y0,.int .i64 y1,.int .i64 y2,.int .i64 y3,.int .i64 y4,.int .i64 y5,.slice (some ⟨h,0,none⟩) 5 5]:List Value).length=7):=⟨rfl,rfl⟩
 have HRX:Hid (∀ W,Touch (· = bx+1) w1 W->W.rangeAt bx 0 [.int .i64 x0,.int .i64 x1,.int .i64 x2,.int .i64 x3,.int .i64 x4,.int .i64 x5,.slice (some ⟨g,0,none⟩) 5 5]/\W.rangeAt bx 7 [.int .i64 y0,.int .i64 y1,.int .i64 y2,.int .i64 y3,.int .i64 y4,.int .i64 y5,.slice (some ⟨h,0,none⟩) 5 5]/\W.cell? ⟨bx,14,none⟩=some (.int .i64 m)):=fun W hW=>by
  have hb:=hW.blk HBX.out (fun e=>by have e:bx=bx+1:=e;omega)
  refine ⟨hb.range_at 0 fun j v hv=>?_,hb.range_at 7 fun j v hv=>?_,hb.cell 14⟩
  ·rw [Nat.zero_add,List.append_assoc,List.getElem?_append_left (List.getElem?_eq_some_iff.1 hv).1]
   exact hv
  ·have e7:([.int .i64 x0,.int .i64 x1,.int .i64 x2,.int .i64 x3,.int .i64 x4,.int .i64 x5,.slice (some ⟨g,0,none⟩) 5 5]:List Value).length=7:=rfl
   rw [List.append_assoc,List.getElem?_append_right (by rw [e7];omega),e7,Nat.add_sub_cancel_left,List.getElem?_append_left (List.getElem?_eq_some_iff.1 hv).1]
   exact hv
 clear h1 h2 hf1 HBX
 go_enter Tryz.func12,Tryz.ntmps12
 go_upto_region 1 with (fail)
 have HW1:Hid (w1=(w.alloc (.cells #[.int .i64 x0,.int .i64 x1,.int .i64 x2,.int .i64 x3,.int .i64 x4,.int .i64 x5,.slice (some ⟨g,0,none⟩) 5 5,.int .i64 y0,.int .i64 y1,.int .i64 y2,.int .i64 y3,.int .i64 y4,.int .i64 y5,.slice (some ⟨h,0,none⟩) 5 5,.int .i64 m] 26)).alloc (.cells #[.int .i64 0,.int .i64 0,.int .i64 0,.int .i64 0,.int .i64 0,.int .u32 0,.int .i64 0,.int .i64 0,.int .i64 0,.int .i64 0,.int .i64 0,.int .i64 0,.int .i64 0,.int .i64 0,.int .i64 0,.int .i64 0,.int .u32 0,.int .i64 0,.int .i64 0,.int .i64 0,.int .i64 0,.int .i64 0,.int .i64 0] 77)):=hw1
 rw [<- HW1.out,<- hbx]
 clear hw1 hbx HW1
 generalize ([.int .i64 x0,.int .i64 x1,.int .i64 x2,.int .i64 x3,.int .i64 x4,.int .i64 x5,.slice (some ⟨g,0,none⟩) 5 5]:List Value)=xs at *
 generalize ([.int .i64 y0,.int .i64 y1,.int .i64 y2,.int .i64 y3,.int .i64 y4,.int .i64 y5,.slice (some ⟨h,0,none⟩) 5 5]:List Value)=ys at *
 generalize (⟨x0,x1,x2,x3,x4,x5%16777216,c0,c1,c2,c3,c4⟩:Nd.C)=ca at *
 generalize (⟨y0,y1,y2,y3,y4,y5%16777216,d0,d1,d2,d3,d4⟩:Nd.C)=cb at *
 have HBT:Hid (Tryz.prog.built 75 [(0,.agg ca.cells.toArray),(1,.agg cb.cells.toArray)]=some (ca.cells++cb.cells).toArray):=ends_built ca cb
 have HBL:Hid (Tryz.prog.built 77 [(0,.agg (ca.cells++cb.cells).toArray),(1,.int .i64 m)]=some F.toArray):=by rw [HFQ.out];exact lkc_built ca cb m
 have HLF:Hid (F.length=23/\∀ v ∈ F,v.oneCell'=true):=by rw [HFQ.out];exact ⟨rfl,by simp [Nd.C.cells,Value.oneCell']⟩
 clear HFQ
 generalize ca.cells=fa at *
 generalize cb.cells=fb at *
 generalize fa++fb=G at *
 have HINJ:Hid (∀ i,i<11->∀ j,j<11->o2slot i=o2slot j->i=j):=by
  show ∀ i,i<11->∀ j,j<11->o2slot i=o2slot j->i=j
  decide +kernel
 have HFD:Hid (∀ k,k ∈ o2D->k-3<11/\o2slot (k-3)=k):=by
  show ∀ k,k ∈ o2D->k-3<11/\o2slot (k-3)=k
  decide +kernel
 refine Dag.detP (by kernel_rfl) 11 o2D o2slot (o2val bx xs ys fa fb G F m) (O2 w1 bx F) () (fun b k=>o2val bx xs ys fa fb G F m b (k-3)) (by rfl) (fun i j hi hj=>HINJ.out i hi j hj) (by decide +kernel)
  ⟨(Touch.refl _ _).drew,(Touch.refl (fun _=>False) w1).drew.blk HB2.out (fun e=>e)⟩ (by decide +kernel) ⟨?_,?_,?_,?_,?_,?_,?_,?_,?_,?_,?_,trivial⟩ (fun b k hk=>⟨k-3,(HFD.out k hk).1,(HFD.out k hk).2,rfl⟩) ?_
 ·refine ⟨rfl,fun s hs=>(by cases hs;exact ⟨rfl,by decide⟩),fun b dn R W hi hp hcl hm hW=>?_⟩
  have q1:R.eval (.tmp 1)=.pointer (some ⟨bx,0,none⟩):=(hm.old 1 (by decide)).trans rfl
  refine .value 3 rfl (.pointer (some ⟨bx,0,none⟩)) W ?_ ⟨b,rfl,fun _ _ _=>rfl,hW.read (by decide)⟩
  clear hi hp hcl hm hW
  unfold execOp
  generalize R.eval=ρ at *
  go_simp
 ·refine ⟨rfl,fun s hs=>(by cases hs;exact ⟨rfl,by decide⟩),fun b dn R W hi hp hcl hm hW=>.value 4 rfl _ W (exec_loadB (b:=bx) (k:=0) (cs:=xs) rfl (hm.got 0 (by decide) (hp 0 (by decide +kernel)) (by decide) (by show (3:Nat)<13;decide)) (HRX.out W hW.fr).1 Tryz.underlying24 rfl (by rw [HLX.out.1];exact cf16I)) ⟨b,rfl,fun _ _ _=>rfl,hW.read (by decide)⟩⟩
 ·refine ⟨rfl,fun s hs=>(by cases hs;exact ⟨rfl,by decide⟩),fun b dn R W hi hp hcl hm hW=>?_⟩
  have q6:R.eval (.tmp 4)=.agg xs.toArray:=hm.got 1 (by decide) (hp 1 (by decide +kernel)) (by decide) (by show (4:Nat)<13;decide)
  have qf:R.eval (.func 32)=.func (.func 32) #[] #[]:=hm.cst _ (fun k e=>by cases e)
  refine .call 5 rfl 32 #[.agg xs.toArray] ?_ ((HC1.out W hW.fr).mono ?_)
  ·clear hi hp hcl hm hW
   unfold execOp
   generalize R.eval=ρ at *
   go_simp
  ·rintro e W' ⟨rfl,hf⟩
   exact ⟨_,rfl,b,rfl,fun _ _ _=>rfl,hW.step hf (by decide)⟩
 ·refine ⟨rfl,fun s hs=>(by cases hs;exact ⟨rfl,by decide⟩),fun b dn R W hi hp hcl hm hW=>?_⟩
  have q1:R.eval (.tmp 1)=.pointer (some ⟨bx,0,none⟩):=(hm.old 1 (by decide)).trans rfl
  refine .value 6 rfl (.pointer (some ⟨bx,7,none⟩)) W ?_ ⟨b,rfl,fun _ _ _=>rfl,hW.read (by decide)⟩
  clear hi hp hcl hm hW
  unfold execOp
  generalize R.eval=ρ at *
  go_simp
 ·refine ⟨rfl,fun s hs=>(by cases hs;exact ⟨rfl,by decide⟩),fun b dn R W hi hp hcl hm hW=>.value 7 rfl _ W (exec_loadB (b:=bx) (k:=7) (cs:=ys) rfl (hm.got 3 (by decide) (hp 3 (by decide +kernel)) (by decide) (by show (6:Nat)<13;decide)) (HRX.out W hW.fr).2.1 Tryz.underlying24 rfl (by rw [HLX.out.2];exact cf16I)) ⟨b,rfl,fun _ _ _=>rfl,hW.read (by decide)⟩⟩
 ·refine ⟨rfl,fun s hs=>(by cases hs;exact ⟨rfl,by decide⟩),fun b dn R W hi hp hcl hm hW=>?_⟩
  have q6:R.eval (.tmp 7)=.agg ys.toArray:=hm.got 4 (by decide) (hp 4 (by decide +kernel)) (by decide) (by show (7:Nat)<13;decide)
  have qf:R.eval (.func 32)=.func (.func 32) #[] #[]:=hm.cst _ (fun k e=>by cases e)
  refine .call 8 rfl 32 #[.agg ys.toArray] ?_ ((HC2.out W hW.fr).mono ?_)
  ·clear hi hp hcl hm hW
   unfold execOp
   generalize R.eval=ρ at *
   go_simp
  ·rintro e W' ⟨rfl,hf⟩
   exact ⟨_,rfl,b,rfl,fun _ _ _=>rfl,hW.step hf (by decide)⟩
 ·refine ⟨rfl,fun s hs=>(by cases hs;exact ⟨rfl,by decide⟩),fun b dn R W hi hp hcl hm hW=>?_⟩
  have q5:R.eval (.tmp 5)=.agg fa.toArray:=hm.got 2 (by decide) (hp 2 (by decide +kernel)) (by decide) (by show (5:Nat)<13;decide)
  have q8:R.eval (.tmp 8)=.agg fb.toArray:=hm.got 5 (by decide) (hp 5 (by decide +kernel)) (by decide) (by show (8:Nat)<13;decide)
  refine .value 9 rfl (.agg (G).toArray) W (exec_buildB rfl _ ?_) ⟨b,rfl,fun _ _ _=>rfl,hW.read (by decide)⟩
  simp only [List.map_toArray,List.map_cons,List.map_nil,q5,q8]
  exact HBT.out
 ·refine ⟨rfl,fun s hs=>(by cases hs;exact ⟨rfl,by decide⟩),fun b dn R W hi hp hcl hm hW=>?_⟩
  have q1:R.eval (.tmp 1)=.pointer (some ⟨bx,0,none⟩):=(hm.old 1 (by decide)).trans rfl
  refine .value 10 rfl (.pointer (some ⟨bx,14,none⟩)) W ?_ ⟨b,rfl,fun _ _ _=>rfl,hW.read (by decide)⟩
  clear hi hp hcl hm hW
  unfold execOp
  generalize R.eval=ρ at *
  go_simp
 ·refine ⟨rfl,fun s hs=>(by cases hs;exact ⟨rfl,by decide⟩),fun b dn R W hi hp hcl hm hW=>?_⟩
  have q10:R.eval (.tmp 10)=.pointer (some ⟨bx,14,none⟩):=hm.got 7 (by decide) (hp 7 (by decide +kernel)) (by decide) (by show (10:Nat)<13;decide)
  have z14:=(HRX.out W hW.fr).2.2
  refine .value 11 rfl (.int .i64 m) W ?_ ⟨b,rfl,fun _ _ _=>rfl,hW.read (by decide)⟩
  clear hi hp hcl hm hW
  unfold execOp
  generalize R.eval=ρ at *
  go_simp
 ·refine ⟨rfl,fun s hs=>(by cases hs;exact ⟨rfl,by decide⟩),fun b dn R W hi hp hcl hm hW=>?_⟩
  have q9:R.eval (.tmp 9)=.agg G.toArray:=hm.got 6 (by decide) (hp 6 (by decide +kernel)) (by decide) (by show (9:Nat)<13;decide)
  have q11:R.eval (.tmp 11)=.int .i64 m:=hm.got 8 (by decide) (hp 8 (by decide +kernel)) (by decide) (by show (11:Nat)<13;decide)
  refine .value 12 rfl (.agg (F).toArray) W (exec_buildB rfl _ ?_) ⟨b,rfl,fun _ _ _=>rfl,hW.read (by decide)⟩
  simp only [List.map_toArray,List.map_cons,List.map_nil,q9,q11]
  exact HBL.out
 ·refine ⟨rfl,fun s hs=>(by cases hs),fun b dn R W hi hp hcl hm hW=>?_⟩
  have hb:=hW.bx
  rw [if_neg (by rw [hi];decide)] at hb
  have hl:=HLF.out.1
  have hp':c23Z.take 0++F++c23Z.drop (0+F.length)=F:=by rw [List.take_zero,List.nil_append,Nat.zero_add,List.drop_of_length_le (by rw [hl];exact Nat.le_refl 23),List.append_nil]
  refine .skip rfl undef _ (exec_storeB (cs:=F) (b:=bx+1) (k:=0) rfl ((hm.old 2 (by decide)).trans rfl) (hm.got 9 (by decide) (hp 9 (by decide +kernel)) (by decide) (by show (12:Nat)<13;decide)) (hb.there_at 0 (by rw [hl];exact Nat.le_refl 23)) (by rw [hl];exact lkcI) HLF.out.2) ⟨b,rfl,fun _ _ _=>rfl,hW.fr.trans (Touch.setCells (S:=(· = bx+1)) rfl _ 0 (Touch.refl _ _)) (fun _ _ e=>e),?_⟩
  have hs:=(Blk.setCells_at F 0 hb (by rw [hl];exact Nat.le_refl 23)).eq_cells hp'
  have hu:Dag.upd dn 10 true 10=true:=Dag.upd_same _ _ _
  rw [if_pos hu]
  exact hs
 ·intro b dn w4 hd hW
  have hb:=hW.bx
  rw [if_pos (hd 10 (by decide))] at hb
  have HE:Hid (Fresh w w4):=HNB.out w4 hW.fr
  have HRI:Hid ((Tryz.prog.info? 77).map (·.size)=some F.length):=by rw [HLF.out.1];exact lkcI
  have HB:=lh hb.range
  clear hW hd hb HC1 HC2 HLX HRX HINJ HFD HBT HBL HLF HB2 HNB HF1 HWB
  simp only [o2D,Dag.actOf,List.foldl_cons,List.foldl_nil,o2val]
  go_simp
  go_wp2_with fail
  refine bodyPost_ret (v:=_) (results_c rfl _ rfl HB.out Tryz.underlying77 rfl HRI.out) rfl ?_
  exact ⟨rfl,HE.out⟩
set_option maxRecDepth 20000
theorem goodC_ok {y0 y1 y2 y3 y4 y5 c0 c1 c2 c3 c4:Int} (hg:GoodC c0 c1 c2 c3 c4) (h0:1<=y0/\y0<=16) (h1:1<=y1/\y1<=64) (h2:1<=y2/\y2<=256) (h3:1<=y3/\y3<=64) (h4:1<=y4/\y4<=256):Nd.C.ok ⟨y0,y1,y2,y3,y4,y5%16777216,c0,c1,c2,c3,c4⟩=true:=by
 obtain ⟨h0,h1,h2,h3,h4,h5,h6⟩:=hg
 unfold Nd.C.ok Nd.C.tk Nd.okP Nd.inb
 simp only [Bool.and_eq_true,decide_eq_true_eq,beq_iff_eq]
 refine ⟨⟨⟨⟨⟨⟨?_,?_⟩,?_⟩,?_⟩,?_⟩,?_⟩,?_⟩ <;> first | omega | (simp only [and_assoc];omega)
def StartPost (D0:Nat->Nat) (w:World) (x0 y0:Int) (e:Ending) (w':World):Prop:=∃ K D' cA cB p s,∃ v:Int,e=.returned (.tuple #[.pointer (some ⟨Lk.l K,0,none⟩),.agg #[rowV p 2,rowV s 2,.int .i64 v]])/\LkAt K D' w' ⟨fun i=>En.new (cfs cA cB i),fun _=>[]⟩ 0/\(Pr.Good cA/\Pr.Good cB)/\cA.start=cB.start/\(cA.most=max 1 (min x0 16)/\cB.most=max 1 (min y0 16))/\(1<=K.room/\K.room<=256)/\Fresh w w'/\∀ b,b<w.heap.size->D' b=D0 b
theorem c18I:(Tryz.prog.info? 26).map (·.size)=some 15:=by kernel_rfl
theorem neC18:intE.e ≠ 26:=by decide
theorem lstart_core (D0:Nat->Nat) (x0 x1 x2 x3 x4 x5 y0 y1 y2 y3 y4 m:Int) (G0:List Value) (hl:G0.length=15) (w:World) (hri:∀ W,Fresh w W->Calls Tryz.prog 10 #[.agg G0.toArray] W (Right18 W x0 x1 x2 x3 x4 x5 y0 y1 y2 y3 y4 m)) :
  Calls Tryz.prog 4 #[.agg G0.toArray] w (StartPost D0 w x0 y0):=by
 obtain ⟨w1,hw1⟩:=xq ((w.alloc (.cells G0.toArray 26)).alloc (.cells #[.slice none 0 0,.slice none 0 0,.int .i64 0] 32))
 obtain ⟨b0,hb0⟩:=xq w.heap.size
 have HF1:Hid (Fresh w w1):=by rw [hw1];exact ((Touch.refl _ _).alloc _).alloc _
 have HX:Hid (Blk w1 b0 26 G0):=by rw [hw1,hb0];exact (Blk.new w _ _).alloc _
 have HB:Hid (Blk w1 (b0+1) 32 [.slice none 0 0,.slice none 0 0,.int .i64 0]):=by
  rw [hw1,hb0]
  have e:(w.alloc (.cells G0.toArray 26)).heap.size=w.heap.size+1:=by simp
  rw [<- e]
  exact Blk.new _ _ [.slice none 0 0,.slice none 0 0,.int .i64 0]
 have HWB:Hid (w.heap.size<=b0):=by rw [hb0];exact Nat.le_refl _
 have HRI:=lh hri
 have HL0:Hid ((Tryz.prog.info? 26).map (·.size)=some G0.length):=by rw [hl];exact c18I
 have HL:=lh hl
 have HRX:=lh HX.out.range
 clear hri hl
 go_enter Tryz.func4,Tryz.ntmps4
 go_upto_region 1 with (fail)
 rw [<- hw1,<- hb0]
 clear hw1 hb0
 go_wp2_with (first
  |(refine wpList_loadB rfl _ (.tmp 1) rfl b0 0 (by rfl) G0 HRX.out Tryz.underlying26 rfl HL0.out ?_))
 refine (HRI.out _ HF1.out).mono ?_
 rintro e w2 ⟨g1,g2,c0,c1,c2,c3,c4,d0,d1,d2,d3,d4,rfl,s1,gA,s2,gB,f2⟩
 obtain ⟨cA,hcA⟩:∃ cA:Nd.C,cA=⟨max 1 (min x0 16),max 1 (min x1 64),max 1 (min x2 256),max 1 (min x3 64),max 1 (min x4 256),x5%16777216%16777216,c0,c1,c2,c3,c4⟩:=⟨_,rfl⟩
 obtain ⟨cB,hcB⟩:∃ cB:Nd.C,cB=⟨max 1 (min y0 16),max 1 (min y1 64),max 1 (min y2 256),max 1 (min y3 64),max 1 (min y4 256),x5%16777216%16777216,d0,d1,d2,d3,d4⟩:=⟨_,rfl⟩
 have HCA:Hid (cA.ok=true/\cB.ok=true/\cA.start=cB.start/\(Pr.Good cA/\Pr.Good cB)/\cA.most=max 1 (min x0 16)/\cB.most=max 1 (min y0 16)):=by
  rw [hcA,hcB]
  exact ⟨goodC_ok gA (by omega) (by omega) (by omega) (by omega) (by omega),goodC_ok gB (by omega) (by omega) (by omega) (by omega) (by omega),rfl,⟨gA,gB⟩,rfl,rfl⟩
 obtain ⟨v,hv⟩:∃ v:Nat,(v:Int)=max 1 (min m 256):=⟨(max 1 (min m 256)).toNat,by omega⟩
 have HV:Hid (1<=v/\v<=256):=by unfold Hid;omega
 obtain ⟨xs,hxs⟩:=xq (cfL (max 1 (min x0 16)) (max 1 (min x1 64)) (max 1 (min x2 256)) (max 1 (min x3 64)) (max 1 (min x4 256)) (x5%16777216) (some ⟨g1,0,none⟩) 5)
 obtain ⟨ys,hys⟩:=xq (cfL (max 1 (min y0 16)) (max 1 (min y1 64)) (max 1 (min y2 256)) (max 1 (min y3 64)) (max 1 (min y4 256)) (x5%16777216) (some ⟨g2,0,none⟩) 5)
 obtain ⟨F,hF⟩:=xq (cA.cells++cB.cells++[Value.int .i64 (v:Int)])
 obtain ⟨G1,hG⟩:=xq (xs++ys++[Value.int .i64 (v:Int)])
 have HX2:=lh (f2.blk HX.out (fun e=>e))
 have HB2:=lh (f2.blk HB.out (fun e=>e))
 have HOW:Hid (∀ W,Touch (· = b0) w2 W->Calls Tryz.prog 12 #[.agg G1.toArray] W fun e w'=>e=.returned (.agg F.toArray)/\Fresh W w'):=fun W hW=>by
  have:=own18_any (max 1 (min x0 16)) (max 1 (min x1 64)) (max 1 (min x2 256)) (max 1 (min x3 64)) (max 1 (min x4 256)) (x5%16777216) (max 1 (min y0 16)) (max 1 (min y1 64)) (max 1 (min y2 256)) (max 1 (min y3 64)) (max 1 (min y4 256)) (x5%16777216) v g1 g2 c0 c1 c2 c3 c4 d0 d1 d2 d3 d4 W (s1.touch hW (fun ad e e2=>s1.blk_ne HX2.out neC18 ad e e2)).rd (s2.touch hW (fun ad e e2=>s2.blk_ne HX2.out neC18 ad e e2)).rd F (by rw [hF,hcA,hcB])
  rw [hG,hxs,hys]
  exact this
 have HNW:Hid (∀ D W,Calls Tryz.prog 11 #[.agg F.toArray] W (NewPost D W v cA cB)):=fun D W=>by
  have hh:=HCA.out
  exact lnew_any ⟨hF⟩ hh.1 hh.2.1 hh.2.2.1 HV.out.1 HV.out.2 D W
 have HRN:Hid (∀ W,Calls Tryz.prog 13 #[.agg xs.toArray,.agg ys.toArray,.int .i64 v] W fun e w'=>∃ p s:Nat,e=.returned (.agg #[rowV p 2,rowV s 2,.int .i64 v])/\Fresh W w'):=fun W=>by
  rw [hxs,hys]
  exact new18_any _ _ _ _ _ _ _ _ _ _ _ _ _ _ _ _ v W (by omega) (by omega)
 have HLG:Hid (G1.length=15/\xs.length=7/\ys.length=7/\∀ v ∈ G1,v.oneCell'=true):=by
  rw [hG,hxs,hys]
  exact ⟨rfl,rfl,rfl,by simp [cfL,Value.oneCell']⟩
 have hag:(Value.agg #[.int .i64 (max 1 (min x0 16)),.int .i64 (max 1 (min x1 64)),.int .i64 (max 1 (min x2 256)),.int .i64 (max 1 (min x3 64)),.int .i64 (max 1 (min x4 256)),.int .i64 (x5%16777216),.slice (some ⟨g1,0,none⟩) 5 5,.int .i64 (max 1 (min y0 16)),.int .i64 (max 1 (min y1 64)),.int .i64 (max 1 (min y2 256)),.int .i64 (max 1 (min y3 64)),.int .i64 (max 1 (min y4 256)),.int .i64 (x5%16777216),.slice (some ⟨g2,0,none⟩) 5 5,.int .i64 (max 1 (min m 256))])=.agg G1.toArray:=by
  rw [hG,hxs,hys,hv]
  rfl
 have hrn:∀ j v,xs[j]?=some v->G1[0+j]?=some v:=fun j v hj=>by
  rw [hG,Nat.zero_add,List.append_assoc,List.getElem?_append_left (List.getElem?_eq_some_iff.1 hj).1]
  exact hj
 have hrn2:∀ j v,ys[j]?=some v->G1[7+j]?=some v:=fun j v hj=>by
  have e7:xs.length=7:=HLG.out.2.1
  rw [hG,List.append_assoc,List.getElem?_append_right (by omega),e7,Nat.add_sub_cancel_left,List.getElem?_append_left (List.getElem?_eq_some_iff.1 hj).1]
  exact hj
 have hrn3:G1[14]?=some (.int .i64 (v:Int)):=by rw [hG,hxs,hys];rfl
 have HRG:Hid ((∀ j v,xs[j]?=some v->G1[0+j]?=some v)/\(∀ j v,ys[j]?=some v->G1[7+j]?=some v)/\G1[14]?=some (.int .i64 (v:Int))):=⟨hrn,hrn2,hrn3⟩
 have HF2:Hid (Fresh w w2):=HF1.out.trans f2 (fun _ _ e=>e)
 rw [hag]
 have HL1:Hid ((Tryz.prog.info? 26).map (·.size)=some G1.length):=by rw [HLG.out.1];exact c18I
 have HLX:Hid ((Tryz.prog.info? 24).map (·.size)=some xs.length):=by rw [HLG.out.2.1];exact cf16I
 have HLY:Hid ((Tryz.prog.info? 24).map (·.size)=some ys.length):=by rw [HLG.out.2.2.1];exact cf16I
 clear hrn hrn2 hrn3 hag hcA hcB hxs hys hF hG hv s1 s2 gA gB f2 HX HB HRX HRI HL0 HF1
 simp only
 go_wp2_with (first
  |(refine wpList_storeB rfl _ (.tmp 1) (.tmp 7) rfl b0 0 (by rfl) G1 (by rfl) HX2.out (by rw [HLG.out.1,HL.out];exact Nat.le_refl 15) HL1.out HLG.out.2.2.2 ?_;intro w3 hB ht;have HX3:Hid (Blk w3 b0 26 G1):=hB.eq_cells (by rw [List.take_zero,List.nil_append,Nat.zero_add,List.drop_of_length_le (by rw [HL.out,HLG.out.1];exact Nat.le_refl 15),List.append_nil]);have HRX:=lh HX3.out.range;have HT3:Hid (Touch (· = b0) w2 w3):=ht;have HB3:=lh (ht.blk HB2.out (fun e=>by have e:b0+1=b0:=e;omega));clear hB ht)
  |(refine wpList_loadB rfl _ (.tmp 1) rfl b0 0 (by rfl) G1 HRX.out Tryz.underlying26 rfl HL1.out ?_))
 refine (HOW.out _ HT3.out).mono ?_
 rintro e w4 ⟨rfl,f4⟩
 have HX4:=lh (f4.blk HX3.out (fun e=>e))
 have HB4:=lh (f4.blk HB3.out (fun e=>e))
 have HF4:Hid (Fresh w w4):=(HF2.out.trans HT3.out (fun b hb e=>by have e:b=b0:=e;have:=HWB.out;omega)).trans f4 (fun _ _ e=>e)
 clear f4 HX3 HB3 HF2 HT3 HRX HOW HL1
 simp only
 go_wp2_with (fail)
 refine (HNW.out (fun b=>if b<w.heap.size then D0 b else 46) _).mono ?_
 rintro e w5 ⟨K,D5,rfl,k5,rfl,f5,l5⟩
 have HX5:=lh (f5.blk HX4.out (fun e=>e))
 have HB5:=lh (f5.blk HB4.out (fun e=>e))
 have HF5:Hid (Fresh w w5):=HF4.out.trans f5 (fun _ _ e=>e)
 have HK5:=lh k5
 have HD5:Hid ((∀ b,b<w.heap.size->D5 b=D0 b)/\D5 (b0+1)=46):=by
  have hs:=HF4.out.size
  refine ⟨fun b hb=>(l5 b (by omega)).trans (if_pos hb),(l5 _ HB4.out.lt).trans (if_neg ?_)⟩
  have:=HWB.out
  omega
 have HR1:=lh (HX5.out.range_at 0 HRG.out.1)
 have HR2:=lh (HX5.out.range_at 7 HRG.out.2.1)
 have HR3:Hid (w5.cell? ⟨b0,14,none⟩=some (.int .i64 (K.room:Int))):=by have:=HX5.out.cell 14;rw [HRG.out.2.2] at this;exact this
 have h14:=HR3.out
 clear k5 f5 l5 HX4 HB4 HF4 HX5 HNW HRG
 simp only
 go_wp2_with (first
  |(refine wpList_loadB rfl _ (.tmp 18) rfl b0 0 (by rfl) xs HR1.out Tryz.underlying24 rfl HLX.out ?_)
  |(refine wpList_loadB rfl _ (.tmp 20) rfl b0 7 (by rfl) ys HR2.out Tryz.underlying24 rfl HLY.out ?_))
 refine (HRN.out _).mono ?_
 rintro e w6 ⟨p,s,rfl,f6⟩
 have HB6:=lh (f6.blk HB5.out (fun e=>e))
 have HF6:Hid (Fresh w w6):=HF5.out.trans f6 (fun _ _ e=>e)
 have HK6:Hid (LkAt K D5 w6 ⟨fun i=>En.new (cfs cA cB i),fun _=>[]⟩ 0):=HK5.out.old f6 (fun _ _=>rfl)
 have HLI:Hid ((Tryz.prog.info? 32).map (·.size)=some 3):=lk18I
 clear f6 HB5 HF5 HK5 HR1 HR2 HR3 h14 HRN HLX HLY HLG
 simp only
 go_wp2_with (refine wpList_storeB rfl _ (.tmp 3) (.tmp 24) rfl (b0+1) 0 (by rfl) [rowV p 2,rowV s 2,.int .i64 (K.room:Int)] (by rfl) HB6.out (Nat.le_refl 3) HLI.out (by simp [rowV,Value.oneCell']) ?_;intro w7 hB ht;have HB7:Hid (Blk w7 (b0+1) 32 [rowV p 2,rowV s 2,.int .i64 (K.room:Int)]):=hB.eq_cells rfl;have HT7:Hid (Touch (· = b0+1) w6 w7):=ht;clear hB ht)
 refine bodyPost_ret (results_tc rfl _ rfl HB7.out.range Tryz.underlying32 rfl HLI.out) rfl ?_
 refine ⟨K,D5,cA,cB,p,s,(K.room:Int),rfl,HK6.out.off HT7.out (fun b hb=>?_) (fun _ _=>rfl),HCA.out.2.2.2.1,HCA.out.2.2.1,HCA.out.2.2.2.2,⟨by have:=HV.out;omega,by have:=HV.out;omega⟩,HF6.out.trans HT7.out (fun b hb e=>by have e:b=b0+1:=e;have:=HWB.out;omega),HD5.out.1⟩
 have e:b=b0+1:=hb
 have:=HD5.out.2
 rw [e,this]
 omega
theorem lstart_any (D0:Nat->Nat) (x0 x1 x2 x3 x4 x5 y0 y1 y2 y3 y4 y5 m:Int) (A A2:Option Addr) (c c2:Nat) (L L2:List Int) (w:World) (h:Rd intE w A c L) (h2:Rd intE w A2 c2 L2) :
  Calls Tryz.prog 4 #[.agg #[.int .i64 x0,.int .i64 x1,.int .i64 x2,.int .i64 x3,.int .i64 x4,.int .i64 x5,.slice A L.length c,.int .i64 y0,.int .i64 y1,.int .i64 y2,.int .i64 y3,.int .i64 y4,.int .i64 y5,.slice A2 L2.length c2,.int .i64 m]] w (StartPost D0 w x0 y0):=
 lstart_core D0 x0 x1 x2 x3 x4 x5 y0 y1 y2 y3 y4 m [.int .i64 x0,.int .i64 x1,.int .i64 x2,.int .i64 x3,.int .i64 x4,.int .i64 x5,.slice A L.length c,.int .i64 y0,.int .i64 y1,.int .i64 y2,.int .i64 y3,.int .i64 y4,.int .i64 y5,.slice A2 L2.length c2,.int .i64 m] rfl w fun W hW=>right18_any x0 x1 x2 x3 x4 x5 y0 y1 y2 y3 y4 y5 m A A2 c c2 L L2 W (h.touch hW (fun _ _ _ e=>e)) (h2.touch hW (fun _ _ _ e=>e))
end Go.Proofs.YtlbopdfobgjjaaaGreatDoor

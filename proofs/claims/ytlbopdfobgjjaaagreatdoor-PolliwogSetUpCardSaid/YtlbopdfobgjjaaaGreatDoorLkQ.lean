/-
  polliwogref18.New: the document's link is made: a value, and new memory. Conditions: both configs may be.
-/
import Derived.Test.YtlbopdfobgjjaaaGreatDoorLkH
import Derived.Test.YtlbopdfobgjjaaaGreatDoorOpN
import Derived.Great.BuildSlice
set_option maxHeartbeats 8000000
namespace Go.Proofs.YtlbopdfobgjjaaaGreatDoor
open Go.RowKit
set_option maxRecDepth 20000
structure Q18 where
 L1:Option Addr
 c1:Nat
 L2:Option Addr
 c2:Nat
 p:Nat
 q:Nat
 r:Nat
 s:Nat
def q18slot (i:Nat):Nat:=[7,8,9,10,11,12,13,14,15,16,1010].getD i 2000
def q18D:List Nat:=[7,8,9,10,11,12,13,14,15,16]
def rowV (p n:Nat):Value:=.slice (some ⟨p,0,none⟩) n n
def q18val (xs ys:List Value) (f g:Option Addr->Nat->List Value) (m:Int) (b:Q18) (i:Nat):Value:=[.agg xs.toArray,.agg (f b.L1 b.c1).toArray,.agg ys.toArray,.agg (g b.L2 b.c2).toArray,rowV b.p 2,rowV b.q 0,rowV b.r 0,rowV b.s 2,.int .i64 m,.agg #[rowV b.p 2,rowV b.s 2,.int .i64 m]].getD i undef
structure QW (w1:World) (bx:Nat) (m:Int) (b:Q18) (d:Nat->Bool) (W:World):Prop where
 fr:Touch (· = bx) w1 W
 bx:∃ c,Blk W bx 32 c/\c.length=3/\(d 10=true->c=[rowV b.p 2,rowV b.s 2,.int .i64 m])
theorem QW.step {w1 W W':World} {bx:Nat} {m:Int} {b b':Q18} {d:Nat->Bool} (h:QW w1 bx m b d W) (hf:Fresh W W') (hd:d 10=false) {i:Nat} (hi:i ≠ 10):QW w1 bx m b' (Dag.upd d i true) W':=by
 refine ⟨h.fr.trans hf (fun _ _ e=>e.elim),?_⟩
 rw [Dag.upd_far _ _ (Ne.symm hi)]
 obtain ⟨c,h1,h2,h3⟩:=h.bx
 exact ⟨c,hf.blk h1 (fun e=>e),h2,fun e=>by rw [hd] at e;cases e⟩
def rnZv:Value:=.agg rnZ.toArray
theorem nodeZ:(Tryz.prog.info? 135).map (fun i=>(i.zero,i.size))=some (some rnZv,43):=by kernel_rfl
theorem nodes_fill (a b:Rn):Instr.fill (fun i=>some (i*43,43)) ((Array.range (2*43)).map (rnZv.cells[· % rnZv.cells.size]!)) [(0,.agg a.cells.toArray),(1,.agg b.cells.toArray)]=some (a.cells++b.cells).toArray:=by kernel_rfl
theorem lk18_built (p s:Nat) (m:Int):Tryz.prog.built 32 [(0,rowV p 2),(1,rowV s 2),(2,.int .i64 m)]=some #[rowV p 2,rowV s 2,.int .i64 m]:=by kernel_rfl
theorem lk18I:(Tryz.prog.info? 32).map (·.size)=some 3:=by kernel_rfl
theorem nodes_run (w:World) (a b:Rn) {o:Oper} {ρ:Operand->Value} {x y:Operand} (ho:o.op=.buildSlice 29 2 #[(0,x),(1,y)]) (hx:ρ x=.agg a.cells.toArray) (hy:ρ y=.agg b.cells.toArray):(execOp ρ o).run Tryz.prog w=.ok (.value (rowV w.heap.size 2)) (w.alloc (.cells (a.cells++b.cells).toArray 135)):=by
 obtain ⟨ie,h1,h2⟩:=Option.map_eq_some_iff.1 nodeZ
 simp only [Prod.mk.injEq] at h2
 obtain ⟨h2,h3⟩:=h2
 unfold execOp
 rw [ho]
 have e:(#[((0:Nat),x),(1,y)].map fun (i,x)=>(i,ρ x))=#[(0,.agg a.cells.toArray),(1,.agg b.cells.toArray)]:=by simp [hx,hy]
 simp only [e]
 have hrun:=run_buildSlice (P:=Tryz.prog) w 29 135 2 #[(0,.agg a.cells.toArray),(1,.agg b.cells.toArray)] (a.cells++b.cells).toArray ie rnZv Tryz.underlying29 h1 h2 (by rw [h3];decide) (by rw [h3];decide) (by rw [h3];exact nodes_fill a b)
 simp only [Sem.run_bind,hrun,Result.andThen_ok]
 rfl
theorem new18_any (x0 x1 x2 x3 x4 x5:Int) (T:Option Addr) (cT:Nat) (y0 y1 y2 y3 y4 y5:Int) (U:Option Addr) (cU:Nat) (m:Int) (w:World) (hx:0<=x1/\x1<=64/\0<=x5/\x5<16777216) (hy:0<=y1/\y1<=64/\0<=y5/\y5<16777216) :
  Calls Tryz.prog 13 #[.agg (cfL x0 x1 x2 x3 x4 x5 T cT).toArray,.agg (cfL y0 y1 y2 y3 y4 y5 U cU).toArray,.int .i64 m] w fun e w'=>∃ p s:Nat,e=.returned (.agg #[rowV p 2,rowV s 2,.int .i64 m])/\Fresh w w':=by
 have HC1:Hid (∀ W,Calls Tryz.prog 33 #[.agg (cfL x0 x1 x2 x3 x4 x5 T cT).toArray] W fun e w'=>∃ L cL,e=.returned (.agg (rn0 x0 x1 x2 x3 x4 x5 T cT L cL).cells.toArray)/\Fresh W w'):=fun W=>(rnew_any16 x0 x1 x2 x3 x4 x5 T cT W hx).mono fun e w' ⟨L,cL,e1,_,e3⟩=>⟨L,cL,e1,e3⟩
 have HC2:Hid (∀ W,Calls Tryz.prog 33 #[.agg (cfL y0 y1 y2 y3 y4 y5 U cU).toArray] W fun e w'=>∃ L cL,e=.returned (.agg (rn0 y0 y1 y2 y3 y4 y5 U cU L cL).cells.toArray)/\Fresh W w'):=fun W=>(rnew_any16 y0 y1 y2 y3 y4 y5 U cU W hy).mono fun e w' ⟨L,cL,e1,_,e3⟩=>⟨L,cL,e1,e3⟩
 have HBS:Hid (∀ (W:World) (L1:Option Addr) (c1:Nat) (L2:Option Addr) (c2:Nat) (o:Oper) (ρ:Operand->Value) (x y:Operand),o.op=.buildSlice 29 2 #[(0,x),(1,y)]->ρ x=.agg (rn0 x0 x1 x2 x3 x4 x5 T cT L1 c1).cells.toArray->ρ y=.agg (rn0 y0 y1 y2 y3 y4 y5 U cU L2 c2).cells.toArray->∃ ob,(execOp ρ o).run Tryz.prog W=.ok (.value (rowV W.heap.size 2)) (W.alloc ob)):=fun W L1 c1 L2 c2 o ρ x y ho e1 e2=>⟨_,nodes_run W _ _ ho e1 e2⟩
 have HLX:Hid ((cfL x0 x1 x2 x3 x4 x5 T cT).length=7/\(cfL y0 y1 y2 y3 y4 y5 U cU).length=7):=⟨rfl,rfl⟩
 generalize cfL x0 x1 x2 x3 x4 x5 T cT=xs at *
 generalize cfL y0 y1 y2 y3 y4 y5 U cU=ys at *
 generalize (fun L cL=>(rn0 x0 x1 x2 x3 x4 x5 T cT L cL).cells)=fx
 obtain ⟨f,hf⟩:∃ f:Option Addr->Nat->List Value,f=fun L cL=>(rn0 x0 x1 x2 x3 x4 x5 T cT L cL).cells:=⟨_,rfl⟩
 obtain ⟨g,hg⟩:∃ g:Option Addr->Nat->List Value,g=fun L cL=>(rn0 y0 y1 y2 y3 y4 y5 U cU L cL).cells:=⟨_,rfl⟩
 have HC1':Hid (∀ W,Calls Tryz.prog 33 #[.agg xs.toArray] W fun e w'=>∃ L cL,e=.returned (.agg (f L cL).toArray)/\Fresh W w'):=by rw [hf];exact HC1
 have HC2':Hid (∀ W,Calls Tryz.prog 33 #[.agg ys.toArray] W fun e w'=>∃ L cL,e=.returned (.agg (g L cL).toArray)/\Fresh W w'):=by rw [hg];exact HC2
 have HBS':Hid (∀ (W:World) (L1:Option Addr) (c1:Nat) (L2:Option Addr) (c2:Nat) (o:Oper) (ρ:Operand->Value) (x y:Operand),o.op=.buildSlice 29 2 #[(0,x),(1,y)]->ρ x=.agg (f L1 c1).toArray->ρ y=.agg (g L2 c2).toArray->∃ ob,(execOp ρ o).run Tryz.prog W=.ok (.value (rowV W.heap.size 2)) (W.alloc ob)):=by rw [hf,hg];exact HBS
 clear HC1 HC2 HBS hf hg hx hy fx
 obtain ⟨w1,hw1⟩:=xq (((w.alloc (.cells xs.toArray 24)).alloc (.cells ys.toArray 24)).alloc (.cells #[.slice none 0 0,.slice none 0 0,.int .i64 0] 32))
 obtain ⟨b0,hb0⟩:=xq w.heap.size
 have HF1:Hid (Fresh w w1):=by rw [hw1];exact (((Touch.refl _ _).alloc _).alloc _).alloc _
 have HX:Hid (Blk w1 b0 24 xs):=by rw [hw1,hb0];exact ((Blk.new w _ _).alloc _).alloc _
 have HY:Hid (Blk w1 (b0+1) 24 ys):=by
  rw [hw1,hb0]
  have e:(w.alloc (.cells xs.toArray 24)).heap.size=w.heap.size+1:=by simp
  rw [<- e]
  exact (Blk.new _ _ ys).alloc _
 have HB:Hid (Blk w1 (b0+2) 32 [.slice none 0 0,.slice none 0 0,.int .i64 0]):=by
  rw [hw1,hb0]
  have e:((w.alloc (.cells xs.toArray 24)).alloc (.cells ys.toArray 24)).heap.size=w.heap.size+2:=by simp
  rw [<- e]
  exact Blk.new _ _ [.slice none 0 0,.slice none 0 0,.int .i64 0]
 have HWB:Hid (w.heap.size<=b0):=by rw [hb0];exact Nat.le_refl _
 go_enter Tryz.func13,Tryz.ntmps13
 go_upto_region 1 with (fail)
 rw [<- hw1,<- hb0]
 clear hw1 hb0
 have HINJ:Hid (∀ i,i<11->∀ j,j<11->q18slot i=q18slot j->i=j):=by
  show ∀ i,i<11->∀ j,j<11->q18slot i=q18slot j->i=j
  decide +kernel
 have HFD:Hid (∀ k,k ∈ q18D->k-7<11/\q18slot (k-7)=k):=by
  show ∀ k,k ∈ q18D->k-7<11/\q18slot (k-7)=k
  decide +kernel
 refine Dag.detP (by kernel_rfl) 11 q18D q18slot (q18val xs ys f g m) (QW w1 (b0+2) m) ⟨none,0,none,0,0,0,0,0⟩ (fun b k=>q18val xs ys f g m b (k-7)) (by rfl) (fun i j hi hj=>HINJ.out i hi j hj) (by decide +kernel)
  ⟨(Touch.refl _ _).drew,_,(Touch.refl (fun _=>False) w1).drew.blk HB.out (fun e=>e),rfl,fun e=>(by cases e)⟩ (by decide +kernel) ⟨?_,?_,?_,?_,?_,?_,?_,?_,?_,?_,?_,trivial⟩ (fun b k hk=>⟨k-7,(HFD.out k hk).1,(HFD.out k hk).2,rfl⟩) ?_
 ·refine ⟨rfl,fun s hs=>(by cases hs;exact ⟨rfl,by decide⟩),fun b dn R W hi hp hcl hm hW=>?_⟩
  have d1:dn 1=false:=by
   cases hx:dn 1 with
   |false=>rfl
   |true=>have:=hcl 1 0 (by decide +kernel) hx;rw [hi] at this;cases this
  have d4:dn 4=false:=by
   cases hx:dn 4 with
   |false=>rfl
   |true=>have:=hcl 4 1 (by decide +kernel) hx;rw [d1] at this;cases this
  have d9:dn 9=false:=by
   cases hx:dn 9 with
   |false=>rfl
   |true=>have:=hcl 9 4 (by decide +kernel) hx;rw [d4] at this;cases this
  have d10:dn 10=false:=by
   cases hx:dn 10 with
   |false=>rfl
   |true=>have:=hcl 10 9 (by decide +kernel) hx;rw [d9] at this;cases this
  exact .value 7 rfl _ W (exec_loadB (b:=b0) (k:=0) (cs:=xs) rfl ((hm.old 3 (by decide)).trans rfl) (hW.fr.blk HX.out (fun e=>by have e:b0=b0+2:=e;omega)).range Tryz.underlying24 rfl (by rw [HLX.out.1];exact cf16I)) ⟨b,rfl,fun _ _ _=>rfl,hW.step (Touch.refl _ _) d10 (by decide)⟩
 ·refine ⟨rfl,fun s hs=>(by cases hs;exact ⟨rfl,by decide⟩),fun b dn R W hi hp hcl hm hW=>?_⟩
  have d4:dn 4=false:=by
   cases hx:dn 4 with
   |false=>rfl
   |true=>have:=hcl 4 1 (by decide +kernel) hx;rw [hi] at this;cases this
  have d9:dn 9=false:=by
   cases hx:dn 9 with
   |false=>rfl
   |true=>have:=hcl 9 4 (by decide +kernel) hx;rw [d4] at this;cases this
  have d10:dn 10=false:=by
   cases hx:dn 10 with
   |false=>rfl
   |true=>have:=hcl 10 9 (by decide +kernel) hx;rw [d9] at this;cases this
  have q6:R.eval (.tmp 7)=.agg xs.toArray:=hm.got 0 (by decide) (hp 0 (by decide +kernel)) (by decide) (by show (7:Nat)<17;decide)
  have qf:R.eval (.func 33)=.func (.func 33) #[] #[]:=hm.cst _ (fun k e=>by cases e)
  refine .call 8 rfl 33 #[.agg xs.toArray] ?_ ((HC1'.out W).mono ?_)
  ·clear hi hp hcl hm hW d4 d9 d10
   unfold execOp
   generalize R.eval=ρ at *
   go_simp
  ·rintro e W' ⟨L,cL,rfl,hf⟩
   refine ⟨_,rfl,{ b with L1:=L,c1:=cL },rfl,fun j hj hdj=>?_,hW.step hf d10 (by decide)⟩
   rcases (show j=0\/j=1\/j=2\/j=3\/j=4\/j=5\/j=6\/j=7\/j=8\/j=9\/j=10 by omega) with rfl | rfl | rfl | rfl | rfl | rfl | rfl | rfl | rfl | rfl | rfl <;> first | rfl | (rw [hi] at hdj;cases hdj) | (rw [d4] at hdj;cases hdj) | (rw [d9] at hdj;cases hdj) | (rw [d10] at hdj;cases hdj)
 ·refine ⟨rfl,fun s hs=>(by cases hs;exact ⟨rfl,by decide⟩),fun b dn R W hi hp hcl hm hW=>?_⟩
  have d3:dn 3=false:=by
   cases hx:dn 3 with
   |false=>rfl
   |true=>have:=hcl 3 2 (by decide +kernel) hx;rw [hi] at this;cases this
  have d4:dn 4=false:=by
   cases hx:dn 4 with
   |false=>rfl
   |true=>have:=hcl 4 3 (by decide +kernel) hx;rw [d3] at this;cases this
  have d9:dn 9=false:=by
   cases hx:dn 9 with
   |false=>rfl
   |true=>have:=hcl 9 4 (by decide +kernel) hx;rw [d4] at this;cases this
  have d10:dn 10=false:=by
   cases hx:dn 10 with
   |false=>rfl
   |true=>have:=hcl 10 9 (by decide +kernel) hx;rw [d9] at this;cases this
  exact .value 9 rfl _ W (exec_loadB (b:=b0+1) (k:=0) (cs:=ys) rfl ((hm.old 4 (by decide)).trans rfl) (hW.fr.blk HY.out (fun e=>by have e:b0+1=b0+2:=e;omega)).range Tryz.underlying24 rfl (by rw [HLX.out.2];exact cf16I)) ⟨b,rfl,fun _ _ _=>rfl,hW.step (Touch.refl _ _) d10 (by decide)⟩
 ·refine ⟨rfl,fun s hs=>(by cases hs;exact ⟨rfl,by decide⟩),fun b dn R W hi hp hcl hm hW=>?_⟩
  have d4:dn 4=false:=by
   cases hx:dn 4 with
   |false=>rfl
   |true=>have:=hcl 4 3 (by decide +kernel) hx;rw [hi] at this;cases this
  have d9:dn 9=false:=by
   cases hx:dn 9 with
   |false=>rfl
   |true=>have:=hcl 9 4 (by decide +kernel) hx;rw [d4] at this;cases this
  have d10:dn 10=false:=by
   cases hx:dn 10 with
   |false=>rfl
   |true=>have:=hcl 10 9 (by decide +kernel) hx;rw [d9] at this;cases this
  have q6:R.eval (.tmp 9)=.agg ys.toArray:=hm.got 2 (by decide) (hp 2 (by decide +kernel)) (by decide) (by show (9:Nat)<17;decide)
  have qf:R.eval (.func 33)=.func (.func 33) #[] #[]:=hm.cst _ (fun k e=>by cases e)
  refine .call 10 rfl 33 #[.agg ys.toArray] ?_ ((HC2'.out W).mono ?_)
  ·clear hi hp hcl hm hW d4 d9 d10
   unfold execOp
   generalize R.eval=ρ at *
   go_simp
  ·rintro e W' ⟨L,cL,rfl,hf⟩
   refine ⟨_,rfl,{ b with L2:=L,c2:=cL },rfl,fun j hj hdj=>?_,hW.step hf d10 (by decide)⟩
   rcases (show j=0\/j=1\/j=2\/j=3\/j=4\/j=5\/j=6\/j=7\/j=8\/j=9\/j=10 by omega) with rfl | rfl | rfl | rfl | rfl | rfl | rfl | rfl | rfl | rfl | rfl <;> first | rfl | (rw [hi] at hdj;cases hdj) | (rw [d4] at hdj;cases hdj) | (rw [d9] at hdj;cases hdj) | (rw [d10] at hdj;cases hdj)
 ·refine ⟨rfl,fun s hs=>(by cases hs;exact ⟨rfl,by decide⟩),fun b dn R W hi hp hcl hm hW=>?_⟩
  have d9:dn 9=false:=by
   cases hx:dn 9 with
   |false=>rfl
   |true=>have:=hcl 9 4 (by decide +kernel) hx;rw [hi] at this;cases this
  have d10:dn 10=false:=by
   cases hx:dn 10 with
   |false=>rfl
   |true=>have:=hcl 10 9 (by decide +kernel) hx;rw [d9] at this;cases this
  obtain ⟨ob, hob⟩ := HBS'.out W b.L1 b.c1 b.L2 b.c2 { dst := some 11, op := .buildSlice 29 2 #[(0, .tmp 8), (1, .tmp 10)], type := 29, pos := "", after := #[], guard := none } R.eval (.tmp 8) (.tmp 10) rfl (hm.got 1 (by decide) (hp 1 (by decide +kernel)) (by decide) (by show (8 : Nat) < 17; decide)) (hm.got 3 (by decide) (hp 3 (by decide +kernel)) (by decide) (by show (10 : Nat) < 17; decide))
  have hob2 : (execOp R.eval { dst := some 11, op := .buildSlice 29 2 #[(0, .tmp 8), (1, .tmp 10)], type := 29, pos := "", after := #[], guard := none }).run Tryz.prog W = _ := hob
  refine .value 11 rfl _ _ hob2 ⟨{ b with p:=W.heap.size },rfl,fun j hj hdj=>?_,hW.step ((Touch.refl _ _).alloc _) d10 (by decide)⟩
  rcases (show j=0\/j=1\/j=2\/j=3\/j=4\/j=5\/j=6\/j=7\/j=8\/j=9\/j=10 by omega) with rfl | rfl | rfl | rfl | rfl | rfl | rfl | rfl | rfl | rfl | rfl <;> first | rfl | (rw [hi] at hdj;cases hdj) | (rw [d9] at hdj;cases hdj) | (rw [d10] at hdj;cases hdj)
 ·refine ⟨rfl,fun s hs=>(by cases hs;exact ⟨rfl,by decide⟩),fun b dn R W hi hp hcl hm hW=>?_⟩
  have d7:dn 7=false:=by
   cases hx:dn 7 with
   |false=>rfl
   |true=>have:=hcl 7 5 (by decide +kernel) hx;rw [hi] at this;cases this
  have d9:dn 9=false:=by
   cases hx:dn 9 with
   |false=>rfl
   |true=>have:=hcl 9 7 (by decide +kernel) hx;rw [d7] at this;cases this
  have d10:dn 10=false:=by
   cases hx:dn 10 with
   |false=>rfl
   |true=>have:=hcl 10 9 (by decide +kernel) hx;rw [d9] at this;cases this
  refine .value 12 rfl (rowV W.heap.size 0) (W.alloc (.cells #[] 392)) ?_ ⟨{ b with q:=W.heap.size },rfl,fun j hj hdj=>?_,hW.step ((Touch.refl _ _).alloc _) d10 (by decide)⟩
  ·clear hi hp hcl hm hW d7 d9 d10
   unfold execOp
   generalize R.eval=ρ at *
   go_simp
   try rfl
  ·rcases (show j=0\/j=1\/j=2\/j=3\/j=4\/j=5\/j=6\/j=7\/j=8\/j=9\/j=10 by omega) with rfl | rfl | rfl | rfl | rfl | rfl | rfl | rfl | rfl | rfl | rfl <;> first | rfl | (rw [hi] at hdj;cases hdj) | (rw [d7] at hdj;cases hdj) | (rw [d9] at hdj;cases hdj) | (rw [d10] at hdj;cases hdj)
 ·refine ⟨rfl,fun s hs=>(by cases hs;exact ⟨rfl,by decide⟩),fun b dn R W hi hp hcl hm hW=>?_⟩
  have d7:dn 7=false:=by
   cases hx:dn 7 with
   |false=>rfl
   |true=>have:=hcl 7 6 (by decide +kernel) hx;rw [hi] at this;cases this
  have d9:dn 9=false:=by
   cases hx:dn 9 with
   |false=>rfl
   |true=>have:=hcl 9 7 (by decide +kernel) hx;rw [d7] at this;cases this
  have d10:dn 10=false:=by
   cases hx:dn 10 with
   |false=>rfl
   |true=>have:=hcl 10 9 (by decide +kernel) hx;rw [d9] at this;cases this
  refine .value 13 rfl (rowV W.heap.size 0) (W.alloc (.cells #[] 392)) ?_ ⟨{ b with r:=W.heap.size },rfl,fun j hj hdj=>?_,hW.step ((Touch.refl _ _).alloc _) d10 (by decide)⟩
  ·clear hi hp hcl hm hW d7 d9 d10
   unfold execOp
   generalize R.eval=ρ at *
   go_simp
   try rfl
  ·rcases (show j=0\/j=1\/j=2\/j=3\/j=4\/j=5\/j=6\/j=7\/j=8\/j=9\/j=10 by omega) with rfl | rfl | rfl | rfl | rfl | rfl | rfl | rfl | rfl | rfl | rfl <;> first | rfl | (rw [hi] at hdj;cases hdj) | (rw [d7] at hdj;cases hdj) | (rw [d9] at hdj;cases hdj) | (rw [d10] at hdj;cases hdj)
 ·refine ⟨rfl,fun s hs=>(by cases hs;exact ⟨rfl,by decide⟩),fun b dn R W hi hp hcl hm hW=>?_⟩
  have d9:dn 9=false:=by
   cases hx:dn 9 with
   |false=>rfl
   |true=>have:=hcl 9 7 (by decide +kernel) hx;rw [hi] at this;cases this
  have d10:dn 10=false:=by
   cases hx:dn 10 with
   |false=>rfl
   |true=>have:=hcl 10 9 (by decide +kernel) hx;rw [d9] at this;cases this
  have q12:R.eval (.tmp 12)=rowV b.q 0:=hm.got 5 (by decide) (hp 5 (by decide +kernel)) (by decide) (by show (12:Nat)<17;decide)
  have q13:R.eval (.tmp 13)=rowV b.r 0:=hm.got 6 (by decide) (hp 6 (by decide +kernel)) (by decide) (by show (13:Nat)<17;decide)
  refine .value 14 rfl (rowV W.heap.size 2) (W.alloc (.cells #[rowV b.q 0,rowV b.r 0] 133)) ?_ ⟨{ b with s:=W.heap.size },rfl,fun j hj hdj=>?_,hW.step ((Touch.refl _ _).alloc _) d10 (by decide)⟩
  ·clear hi hp hcl hm hW d9 d10
   unfold execOp
   generalize R.eval=ρ at *
   unfold rowV at *
   go_simp
   try rfl
  ·rcases (show j=0\/j=1\/j=2\/j=3\/j=4\/j=5\/j=6\/j=7\/j=8\/j=9\/j=10 by omega) with rfl | rfl | rfl | rfl | rfl | rfl | rfl | rfl | rfl | rfl | rfl <;> first | rfl | (rw [hi] at hdj;cases hdj) | (rw [d9] at hdj;cases hdj) | (rw [d10] at hdj;cases hdj)
 ·refine ⟨rfl,fun s hs=>(by cases hs;exact ⟨rfl,by decide⟩),fun b dn R W hi hp hcl hm hW=>?_⟩
  have d9:dn 9=false:=by
   cases hx:dn 9 with
   |false=>rfl
   |true=>have:=hcl 9 8 (by decide +kernel) hx;rw [hi] at this;cases this
  have d10:dn 10=false:=by
   cases hx:dn 10 with
   |false=>rfl
   |true=>have:=hcl 10 9 (by decide +kernel) hx;rw [d9] at this;cases this
  have q2:R.eval (.tmp 2)=.int .i64 m:=(hm.old 2 (by decide)).trans rfl
  refine .value 15 rfl (.int .i64 m) W ?_ ⟨b,rfl,fun _ _ _=>rfl,hW.step (Touch.refl _ _) d10 (by decide)⟩
  clear hi hp hcl hm hW d10
  unfold execOp
  generalize R.eval=ρ at *
  go_simp
 ·refine ⟨rfl,fun s hs=>(by cases hs;exact ⟨rfl,by decide⟩),fun b dn R W hi hp hcl hm hW=>?_⟩
  have d10:dn 10=false:=by
   cases hx:dn 10 with
   |false=>rfl
   |true=>have:=hcl 10 9 (by decide +kernel) hx;rw [hi] at this;cases this
  have q11:R.eval (.tmp 11)=rowV b.p 2:=hm.got 4 (by decide) (hp 4 (by decide +kernel)) (by decide) (by show (11:Nat)<17;decide)
  have q14:R.eval (.tmp 14)=rowV b.s 2:=hm.got 7 (by decide) (hp 7 (by decide +kernel)) (by decide) (by show (14:Nat)<17;decide)
  have q15:R.eval (.tmp 15)=.int .i64 m:=hm.got 8 (by decide) (hp 8 (by decide +kernel)) (by decide) (by show (15:Nat)<17;decide)
  refine .value 16 rfl (.agg #[rowV b.p 2,rowV b.s 2,.int .i64 m]) W (exec_buildB rfl _ ?_) ⟨b,rfl,fun _ _ _=>rfl,hW.step (Touch.refl _ _) d10 (by decide)⟩
  simp only [List.map_toArray,List.map_cons,List.map_nil,q11,q14,q15]
  exact lk18_built b.p b.s m
 ·refine ⟨rfl,fun s hs=>(by cases hs),fun b dn R W hi hp hcl hm hW=>?_⟩
  obtain ⟨c,hb,hl,-⟩:=hW.bx
  have hp':c.take 0++[rowV b.p 2,rowV b.s 2,.int .i64 m]++c.drop (0 + [rowV b.p 2,rowV b.s 2,Value.int .i64 m].length)=[rowV b.p 2,rowV b.s 2,.int .i64 m]:=by rw [List.take_zero,List.nil_append,Nat.zero_add,List.drop_of_length_le (by rw [hl];exact Nat.le_refl 3),List.append_nil]
  refine .skip rfl undef _ (exec_storeB (cs:=[rowV b.p 2,rowV b.s 2,.int .i64 m]) (b:=b0+2) (k:=0) rfl ((hm.old 6 (by decide)).trans rfl) (hm.got 9 (by decide) (hp 9 (by decide +kernel)) (by decide) (by show (16:Nat)<17;decide)) (hb.there_at 0 (by rw [hl];exact Nat.le_refl 3)) lk18I (by simp [rowV,Value.oneCell'])) ⟨b,rfl,fun _ _ _=>rfl,hW.fr.trans (Touch.setCells (S:=(· = b0+2)) rfl _ 0 (Touch.refl _ _)) (fun _ _ e=>e),_,(Blk.setCells_at [rowV b.p 2,rowV b.s 2,.int .i64 m] 0 hb (by rw [hl];exact Nat.le_refl 3)).eq_cells hp',rfl,fun _=>rfl⟩
 ·intro b dn w4 hd hW
  obtain ⟨c,hb,hl,hc⟩:=hW.bx
  have hc:=hc (hd 10 (by decide))
  subst hc
  have HE:Hid (Fresh w w4):=HF1.out.trans hW.fr (fun k hk e=>by have e:k=b0+2:=e;have:=HWB.out;omega)
  have HBB:=lh hb.range
  have HRI:=lh lk18I
  obtain ⟨L1,c1,L2,c2,p,q,r,s⟩:=b
  clear hW hd hb hl HC1' HC2' HBS' HLX HINJ HFD HB HX HY HF1 HWB
  simp only [q18D,Dag.actOf,List.foldl_cons,List.foldl_nil,q18val]
  go_simp
  go_wp2_with fail
  refine bodyPost_ret (v:=_) (results_c rfl _ rfl HBB.out Tryz.underlying32 rfl HRI.out) rfl ?_
  exact ⟨⟨p,s,rfl⟩,HE.out⟩
end Go.Proofs.YtlbopdfobgjjaaaGreatDoor

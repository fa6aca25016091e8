/-
  What a law's arguments read as, out of the row's own reading · polliwoglaw15: ticks that may be; pace.New, pace.Clone · node: which configs may be, as the program says it and as the document says it. pace.Config.Check, pace.New at any ticks. No conditions · node.Config.Check: which configs may be. No conditions · polliwoglaw16.Right: a config that may be, of any. No conditions · polliwoglaw15.Own at any five ticks; polliwoglaw16.Own, Right at the fixed config. No conditions · A slice that stands in one cell of what came in.
-/
import Derived.Test.YtlbopdfobgjjaaaGreatDoorEvD
import Derived.ProofKit
import Derived.OpenShut
import Derived.ShutString
import Derived.ChangeOld
import Derived.Deep.Slices
import Derived.Deep.Fields
import Derived.BigRegion
import Derived.Test.YtlbopdfobgjjaaaGreatDoorWhP
import Derived.Test.YtlbopdfobgjjaaaGreatDoorRev6
import Derived.Deep.RegionHeld3
set_option maxHeartbeats 4000000
namespace Go.Proofs.YtlbopdfobgjjaaaGreatDoor
open Go.ChangeShapes Go.WideShapes Go.ChangeAt Go.RowKit
theorem open_fields {H:Type} {enc:TypeId × Value->H} {W:World} {base:Nat} {t:TypeId} {fs:Array Field} {n:Nat} {cs:List Value} {y:DataW H × List MemPlace}
  (hs:Tryz.prog.underlying t=some (.struct fs)) (hone:Go.Deep.oneCellFields Tryz.prog fs=true) (hC:Tryz.prog.cellsOf t=fs.size) (h:DataW.trod enc Tryz.prog W base (fun _=>true) true n t cs=some y) :
  cs.length=fs.size/\∃ m,∀ (i:Nat) (f:Field),fs[i]?=some f->∃ y,DataW.trod enc Tryz.prog W base (fun _=>true) true m f.type [cs.getD i undef]=some y:=by
 obtain ⟨xs,m,_,_,hl,hx,hf⟩:=DataW.trod_struct hs h
 refine ⟨hl.trans hC,m,fun i f hi=>?_⟩
 have hlt:i<fs.size:=(Array.getElem?_eq_some_iff.1 hi).1
 obtain ⟨o0,k0⟩:=Go.Deep.hone_of hone i f hi
 have h1:=hf i f hi
 rw [List.getElem?_eq_getElem (by omega),o0,k0,Go.Deep.take1_drop _ _ undef (by rw [hl,hC];exact hlt)] at h1
 exact ⟨_,h1⟩
set_option maxRecDepth 10000 in
theorem open_rd {α:Type} (E:El α) {t:TypeId} (ht:Tryz.prog.underlying t=some (.slice E.e)) (hc:Tryz.prog.cellsOf E.e=E.size) {H:Type} {enc:TypeId × Value->H} {W:World} {base:Nat} {v:Value} {d:DataW H} {p:List MemPlace}
  {Good:α->Prop} (dec:∀ n cs y,DataW.trod enc Tryz.prog W 0 (fun _=>true) true n E.e cs=some y->∃ a,cs=E.enc a/\Good a)
  (hv:Value.okWide Tryz.prog W .any base t v) (h:DataW.Trod enc Tryz.prog W 0 (fun _=>true) true t v d p) :
  ∃ A c l,v=.slice A l.length c/\Rd E W A c l/\∀ a ∈ l,Good a:=by
 obtain ⟨a0,len,cap,rfl⟩:=okWide_slice ht hv
 obtain ⟨fuel,hf⟩:=h
 rcases DataW.trod_slice ht hf with ⟨hcs,_⟩ | ⟨a,l,c,elems,rest,n,_,hcs,_,_,hl,hm,hlen,hel,_⟩
 ·simp [Value.cells] at hcs
  obtain ⟨rfl,rfl,rfl⟩:=hcs
  exact ⟨none,0,[],rfl,Rd.nil _ _,by simp⟩
 ·simp [Value.cells] at hcs
  obtain ⟨rfl,rfl,rfl⟩:=hcs
  have hall:∀ i,i<len->∃ b:α,(∀ f u,(E.enc b)[f]?=some u->W.cell? (a.add (i*E.size+f))=some u)/\Good b:=by
   intro i hi
   have h1:=hel i hi
   rw [List.getElem?_eq_getElem (by omega)] at h1
   obtain ⟨cs,h2,h3⟩:=Option.bind_eq_some_iff.1 h1
   obtain ⟨b,rfl,hg⟩:=dec _ _ _ h3
   obtain ⟨_,h4,h5⟩:=World.cells?_some h2
   refine ⟨b,fun f u hu=>?_,hg⟩
   have hf:f<E.size:=by rw [<- E.len b];exact (List.getElem?_eq_some_iff.1 hu).1
   have h6:=h5 f (by rw [hc];exact hf)
   rw [hc,Go.Deep.add_add] at h6
   rw [h6,hu]
  obtain ⟨L,hL,hp⟩:=exists_list hall
  refine ⟨some a,cap,L,by rw [hL],⟨by rw [hL];exact hl,hm,(fun h=>by cases h),?_⟩,?_⟩
  ·intro ad ha j u hu
   injection ha with ha
   subst ha
   obtain ⟨i,f,hi,rfl,_,hu⟩:=E.all_get L j u hu
   exact (hp i hi).1 f u hu
  ·intro b hb
   obtain ⟨i,hi,rfl⟩:=List.mem_iff_getElem.1 hb
   exact (hp i hi).2
open Go.RowKit
set_option maxRecDepth 20000
def GoodC (c0 c1 c2 c3 c4:Int):Prop:=(1<=c0/\c0<=41)/\(1<=c1/\c1<=41)/\(1<=c2/\c2<=41)/\(1<=c3/\c3<=41)/\(1<=c4/\c4<=41)/\c1<c3/\c2<c3
theorem Sl.int_set {w:World} {g c:Nat} {X:List Int} (h:Sl intE w (some ⟨g,0,none⟩) c X) (k:Nat) (x:Int):Sl intE (w.setCell ⟨g,k,none⟩ (.int .i64 x)) (some ⟨g,0,none⟩) c (X.set k x):=by
 have:=h.set1 (by rfl) (g:=g) (o:=0) rfl (i:=k) (x:=x) (u:=.int .i64 x) rfl
 rw [Nat.zero_add] at this
 exact this
theorem Sl.int_at0 {w:World} {g c:Nat} {X:List Int} (h:Sl intE w (some ⟨g,0,none⟩) c X) (k:Nat) (hk:k<X.length):w.cell? ⟨g,k,none⟩=some (.int .i64 (X.getD k 0)):=by
 obtain ⟨g',o',e,_,hc⟩:=h.int_at k hk
 injection e with e
 injection e with e1 e2
 subst e1 e2
 rw [Nat.zero_add] at hc
 exact hc
def RightPost (w:World) (e:Ending) (w':World):Prop:=∃ g c0 c1 c2 c3 c4,e=.returned (.slice (some ⟨g,0,none⟩) 5 5)/\Sl intE w' (some ⟨g,0,none⟩) 5 [c0,c1,c2,c3,c4]/\GoodC c0 c1 c2 c3 c4/\Fresh w w'/\w.heap.size<=g
theorem right_any (A:Option Addr) (c:Nat) (L:List Int) (w:World) (h:Rd intE w A c L) :
  Calls Tryz.prog 57 #[.slice A L.length c] w (RightPost w):=by
 have hlc:=h.1
 have hcm:=h.2.1
 unfold maxLen at hcm
 have H:=lh h
 clear h
 have HI:Hid (Sl intE (w.alloc (.cells #[.int .i64 3,.int .i64 2,.int .i64 5,.int .i64 9,.int .i64 4] 3)) (some ⟨w.heap.size,0,none⟩) 5 [3,2,5,9,4]):=Sl.lit intE w _ rfl _ _ rfl _ rfl (by decide)
 go_enter Tryz.func57,Tryz.ntmps57
 go_wp2_with fail
 have hgw:w.heap.size<=w.heap.size:=Nat.le_refl _
 have HF:Hid (Fresh w (w.alloc (.cells #[.int .i64 3,.int .i64 2,.int .i64 5,.int .i64 9,.int .i64 4] 3))):=(Touch.refl _ w).alloc _
 generalize w.alloc (.cells #[.int .i64 3,.int .i64 2,.int .i64 5,.int .i64 9,.int .i64 4] 3)=w1 at *
 have hg0:∃ g,g=w.heap.size:=⟨_,rfl⟩
 obtain ⟨g,hg⟩:=hg0
 rw [<- hg] at HI hgw ⊢
 have HG:=lh hg
 clear hg
 go_loopw [4] (fun i wr=>∃ (k:Nat) (X:List Int),k<=5/\k<=L.length/\i=.int .i64 k/\X.length=5/\Hid (∀ x ∈ X,1<=x/\x<=40)/\Hid (Sl intE wr (some ⟨g,0,none⟩) 5 X)/\Hid (Fresh w wr)) (fun i _=>5-(intOf i).toNat)
 case atStart=>exact ⟨0,_,by omega,by omega,rfl,rfl,by simp [Hid],HI,HF⟩
 case round =>
  obtain ⟨k,X,hk5,hkL,rfl,hX,hXb,hs,ht⟩:=hrel
  have HX:=lh hX
  by_cases hkl:k<L.length/\k<5
  ·have hk1:(k:Int)<(L.length:Int):=by omega
   have hk2:(k:Int)<5:=by omega
   obtain ⟨gA,oA,rfl,hgA,hc⟩:=(H.out.touch ht.out (fun _ _ _ h=>h)).int_at k hkl.1
   have hf:=hs.out.frozen g 0 rfl k
   have hc2:=hs.out.int_at0 k (by omega)
   have hd1:decide ((k:Int)<(L.length:Int))=true:=decide_eq_true hk1
   have hd2:decide ((k:Int)<5)=true:=decide_eq_true hk2
   have HS:Hid (∀ x,1<=x->x<=40->Sl intE (wr.setCell ⟨g,k,none⟩ (.int .i64 x)) (some ⟨g,0,none⟩) 5 (X.set k x)/\(∀ y ∈ X.set k x,1<=y/\y<=40)/\Fresh w (wr.setCell ⟨g,k,none⟩ (.int .i64 x))):=fun x h0 h1 =>
    ⟨hs.out.int_set k x,fun y hy=>by rcases List.mem_or_eq_of_mem_set hy with hy | rfl;exact hXb.out y hy;exact ⟨h0,h1⟩,ht.out.setCell (fun hl=>by have:=HG.out;simp at hl;omega) _⟩
   generalize L.getD k 0=v at *
   generalize X.getD k 0=v2 at *
   clear hX hs ht hXb
   go_wp2
   all_goals
    go_roundw
    case rel=>exact ⟨k+1,X.set k _,by omega,by omega,by go_num,by rw [List.length_set];exact HX.out,(HS.out _ (by omega) (by omega)).2.1,(HS.out _ (by omega) (by omega)).1,(HS.out _ (by omega) (by omega)).2.2⟩
    case measure=>simp [intOf];omega
  ·match X,HX with
   |[x0,x1,x2,x3,x4],HX =>
   have b0:=hXb.out x0 (by simp)
   have b1:=hXb.out x1 (by simp)
   have b2:=hXb.out x2 (by simp)
   have b3:=hXb.out x3 (by simp)
   have b4:=hXb.out x4 (by simp)
   have k1:wr.cell? ⟨g,1,none⟩=some (.int .i64 x1):=hs.out.int_at0 1 (by simp)
   have k2:wr.cell? ⟨g,2,none⟩=some (.int .i64 x2):=hs.out.int_at0 2 (by simp)
   have k3:wr.cell? ⟨g,3,none⟩=some (.int .i64 x3):=hs.out.int_at0 3 (by simp)
   have hf:wr.frozen? ⟨g,3,none⟩=false:=hs.out.frozen g 0 rfl 3
   have s1:IntKind.i64.wrap (x1+1)=x1+1:=IntWalk.i64_in _ (by omega)
   have s2:IntKind.i64.wrap (x2+1)=x2+1:=IntWalk.i64_in _ (by omega)
   have HS:Hid (∀ x nq,Sl intE ((wr.setCell ⟨g,3,none⟩ (.int .i64 x)).drewN nq) (some ⟨g,0,none⟩) 5 [x0,x1,x2,x,x4]/\Fresh w ((wr.setCell ⟨g,3,none⟩ (.int .i64 x)).drewN nq)):=fun x nq =>
    ⟨hs.out.int_set 3 x,(ht.out.setCell (fun hl=>by have:=HG.out;simp at hl;omega) _).drewN _⟩
   clear hX hXb hs ht
   have hmax:(x3<x1+1/\x1+1<x2+1)\/(x3<x1+1/\¬ (x1+1<x2+1))\/(¬ (x3<x1+1)/\x3<x2+1)\/(¬ (x3<x1+1)/\¬ (x3<x2+1)):=by omega
   rcases (show ¬ ((k:Int)<(L.length:Int))\/((k:Int)<(L.length:Int)/\¬ ((k:Int)<5)) by omega) with hk1 | ⟨hk1,hk2⟩
   all_goals
    rcases hmax with ⟨m1,m2⟩ | ⟨m1,m2⟩ | ⟨m1,m2⟩ | ⟨m1,m2⟩
    all_goals
     go_wp2
     go_still_tail 14,(by kernel_rfl)
     go_wp2
     go_ret
     exact ⟨g,x0,x1,x2,_,x4,rfl,(HS.out _ 1).1,⟨by omega,by omega,by omega,by omega,by omega,by omega,by omega⟩,(HS.out _ 1).2,by rw [HG.out];exact Nat.le_refl _⟩
set_option maxRecDepth 20000
namespace Nd
def inb (x m:Int):Bool:=decide (1<=x) && decide (x<=m)
theorem inb_true {x m:Int} (h:inb x m=true):1<=x/\x<=m:=by
 unfold inb at h
 rw [Bool.and_eq_true,decide_eq_true_eq,decide_eq_true_eq] at h
 exact h
theorem inb_false {x m:Int} (h:¬ inb x m=true):x<1\/(¬ x<1/\m<x):=by
 unfold inb at h
 rw [Bool.and_eq_true,decide_eq_true_eq,decide_eq_true_eq] at h
 omega
def okP (a b c d e:Int):Bool:=inb a 1048576 && inb b 1048576 && inb c 1048576 && inb d 1048576 && inb e 1048576 && decide (b<d) && decide (c<d)
theorem okP_at {a b c d e:Int} (h:okP a b c d e=true):inb a 1048576=true/\inb b 1048576=true/\inb c 1048576=true/\inb d 1048576=true/\inb e 1048576=true/\b<d/\c<d:=by
 unfold okP at h
 simp only [Bool.and_eq_true,decide_eq_true_eq] at h
 obtain ⟨⟨⟨⟨⟨⟨h1,h2⟩,h3⟩,h4⟩,h5⟩,h6⟩,h7⟩:=h
 exact ⟨h1,h2,h3,h4,h5,h6,h7⟩
theorem okP_of {a b c d e:Int} (h1:inb a 1048576=true) (h2:inb b 1048576=true) (h3:inb c 1048576=true) (h4:inb d 1048576=true) (h5:inb e 1048576=true):okP a b c d e=(decide (b<d) && decide (c<d)):=by
 unfold okP
 rw [h1,h2,h3,h4,h5]
 simp
theorem okP_no {a b c d e:Int} {k:Nat} (hk:k<5) (h:¬ inb ([a,b,c,d,e].getD k 0) 1048576=true):okP a b c d e=false:=by
 refine Bool.eq_false_iff.2 fun hc=>?_
 obtain ⟨h1,h2,h3,h4,h5,_⟩:=okP_at hc
 rcases (show k=0\/k=1\/k=2\/k=3\/k=4 by omega) with rfl | rfl | rfl | rfl | rfl
 ·exact h h1
 ·exact h h2
 ·exact h h3
 ·exact h h4
 ·exact h h5
end Nd
theorem pcheck_any (c0 c1 c2 c3 c4:Int) (w:World) :
  Calls Tryz.prog 117 #[.agg #[.int .i64 c0,.int .i64 c1,.int .i64 c2,.int .i64 c3,.int .i64 c4]] w fun e w'=>e=.returned (.int .i64 (if Nd.okP c0 c1 c2 c3 c4 then 0 else 1))/\Fresh w w':=by
 obtain ⟨r,hr⟩:∃ r:Int,(if Nd.okP c0 c1 c2 c3 c4 then 0 else 1)=r:=⟨_,rfl⟩
 have HR:=lh hr
 rw [hr]
 clear hr
 have i0:∀ w,(Instr.index 60 (.agg #[.int .i64 c0,.int .i64 c1,.int .i64 c2,.int .i64 c3,.int .i64 c4]) (.int .i64 0)).run Tryz.prog w=.ok (.int .i64 c0) w:=fun _=>by kernel_rfl
 have i1:∀ w,(Instr.index 60 (.agg #[.int .i64 c0,.int .i64 c1,.int .i64 c2,.int .i64 c3,.int .i64 c4]) (.int .i64 1)).run Tryz.prog w=.ok (.int .i64 c1) w:=fun _=>by kernel_rfl
 have i2:∀ w,(Instr.index 60 (.agg #[.int .i64 c0,.int .i64 c1,.int .i64 c2,.int .i64 c3,.int .i64 c4]) (.int .i64 2)).run Tryz.prog w=.ok (.int .i64 c2) w:=fun _=>by kernel_rfl
 have i3:∀ w,(Instr.index 60 (.agg #[.int .i64 c0,.int .i64 c1,.int .i64 c2,.int .i64 c3,.int .i64 c4]) (.int .i64 3)).run Tryz.prog w=.ok (.int .i64 c3) w:=fun _=>by kernel_rfl
 have i4:∀ w,(Instr.index 60 (.agg #[.int .i64 c0,.int .i64 c1,.int .i64 c2,.int .i64 c3,.int .i64 c4]) (.int .i64 4)).run Tryz.prog w=.ok (.int .i64 c4) w:=fun _=>by kernel_rfl
 go_enter Tryz.func117,Tryz.ntmps117
 go_wp2
 go_loopw [16] (fun i wr=>∃ k:Nat,k<=5/\i=.int .i64 k/\Hid (∀ j,j<k->Nd.inb ([c0,c1,c2,c3,c4].getD j 0) 1048576=true)/\Hid (Fresh w wr)/\Hid (Blk wr w.heap.size 72 [.int .i64 c0,.int .i64 c1,.int .i64 c2,.int .i64 c3,.int .i64 c4])) (fun i _=>5-(intOf i).toNat)
 case atStart=>exact ⟨0,by omega,rfl,fun j h=>absurd h (Nat.not_lt_zero j),(Touch.refl _ w).alloc _,Blk.new w _ _⟩
 case round =>
  obtain ⟨k,hk,rfl,HG,ht,hb⟩:=hrel
  rcases (show k=0\/k=1\/k=2\/k=3\/k=4\/k=5 by omega) with rfl | rfl | rfl | rfl | rfl | rfl
  ·by_cases hi:Nd.inb c0 1048576=true
   ·have HG2:Hid (∀ j,j<0+1->Nd.inb ([c0,c1,c2,c3,c4].getD j 0) 1048576=true):=fun j hj=>by
     rcases Nat.lt_succ_iff_lt_or_eq.1 hj with h | rfl
     ·exact HG.out j h
     ·exact hi
    obtain ⟨hi1,hi2⟩:=Nd.inb_true hi
    have n1:¬ c0<1:=by omega
    have n2:¬ 1048576<c0:=by omega
    have HI:=lh hi
    clear hi HG hi1 hi2
    go_wp2
    go_roundw
    case rel=>exact ⟨0+1,by omega,rfl,HG2,ht,hb⟩
    case measure=>simp [intOf]
   ·have hr0:r=1:=by rw [<- HR.out,Nd.okP_no (k:=0) (by omega) hi];rfl
    rcases Nd.inb_false hi with n1 | ⟨n1,n2⟩
    ·clear hi HG
     go_wp2
     go_ret
     exact ⟨by first | rfl | (rw [hr0];rfl),ht.out⟩
    ·clear hi HG
     go_wp2
     go_ret
     exact ⟨by first | rfl | (rw [hr0];rfl),ht.out⟩
  ·by_cases hi:Nd.inb c1 1048576=true
   ·have HG2:Hid (∀ j,j<1+1->Nd.inb ([c0,c1,c2,c3,c4].getD j 0) 1048576=true):=fun j hj=>by
     rcases Nat.lt_succ_iff_lt_or_eq.1 hj with h | rfl
     ·exact HG.out j h
     ·exact hi
    obtain ⟨hi1,hi2⟩:=Nd.inb_true hi
    have n1:¬ c1<1:=by omega
    have n2:¬ 1048576<c1:=by omega
    have HI:=lh hi
    clear hi HG hi1 hi2
    go_wp2
    go_roundw
    case rel=>exact ⟨1+1,by omega,rfl,HG2,ht,hb⟩
    case measure=>simp [intOf]
   ·have hr0:r=1:=by rw [<- HR.out,Nd.okP_no (k:=1) (by omega) hi];rfl
    rcases Nd.inb_false hi with n1 | ⟨n1,n2⟩
    ·clear hi HG
     go_wp2
     go_ret
     exact ⟨by first | rfl | (rw [hr0];rfl),ht.out⟩
    ·clear hi HG
     go_wp2
     go_ret
     exact ⟨by first | rfl | (rw [hr0];rfl),ht.out⟩
  ·by_cases hi:Nd.inb c2 1048576=true
   ·have HG2:Hid (∀ j,j<2+1->Nd.inb ([c0,c1,c2,c3,c4].getD j 0) 1048576=true):=fun j hj=>by
     rcases Nat.lt_succ_iff_lt_or_eq.1 hj with h | rfl
     ·exact HG.out j h
     ·exact hi
    obtain ⟨hi1,hi2⟩:=Nd.inb_true hi
    have n1:¬ c2<1:=by omega
    have n2:¬ 1048576<c2:=by omega
    have HI:=lh hi
    clear hi HG hi1 hi2
    go_wp2
    go_roundw
    case rel=>exact ⟨2+1,by omega,rfl,HG2,ht,hb⟩
    case measure=>simp [intOf]
   ·have hr0:r=1:=by rw [<- HR.out,Nd.okP_no (k:=2) (by omega) hi];rfl
    rcases Nd.inb_false hi with n1 | ⟨n1,n2⟩
    ·clear hi HG
     go_wp2
     go_ret
     exact ⟨by first | rfl | (rw [hr0];rfl),ht.out⟩
    ·clear hi HG
     go_wp2
     go_ret
     exact ⟨by first | rfl | (rw [hr0];rfl),ht.out⟩
  ·by_cases hi:Nd.inb c3 1048576=true
   ·have HG2:Hid (∀ j,j<3+1->Nd.inb ([c0,c1,c2,c3,c4].getD j 0) 1048576=true):=fun j hj=>by
     rcases Nat.lt_succ_iff_lt_or_eq.1 hj with h | rfl
     ·exact HG.out j h
     ·exact hi
    obtain ⟨hi1,hi2⟩:=Nd.inb_true hi
    have n1:¬ c3<1:=by omega
    have n2:¬ 1048576<c3:=by omega
    have HI:=lh hi
    clear hi HG hi1 hi2
    go_wp2
    go_roundw
    case rel=>exact ⟨3+1,by omega,rfl,HG2,ht,hb⟩
    case measure=>simp [intOf]
   ·have hr0:r=1:=by rw [<- HR.out,Nd.okP_no (k:=3) (by omega) hi];rfl
    rcases Nd.inb_false hi with n1 | ⟨n1,n2⟩
    ·clear hi HG
     go_wp2
     go_ret
     exact ⟨by first | rfl | (rw [hr0];rfl),ht.out⟩
    ·clear hi HG
     go_wp2
     go_ret
     exact ⟨by first | rfl | (rw [hr0];rfl),ht.out⟩
  ·by_cases hi:Nd.inb c4 1048576=true
   ·have HG2:Hid (∀ j,j<4+1->Nd.inb ([c0,c1,c2,c3,c4].getD j 0) 1048576=true):=fun j hj=>by
     rcases Nat.lt_succ_iff_lt_or_eq.1 hj with h | rfl
     ·exact HG.out j h
     ·exact hi
    obtain ⟨hi1,hi2⟩:=Nd.inb_true hi
    have n1:¬ c4<1:=by omega
    have n2:¬ 1048576<c4:=by omega
    have HI:=lh hi
    clear hi HG hi1 hi2
    go_wp2
    go_roundw
    case rel=>exact ⟨4+1,by omega,rfl,HG2,ht,hb⟩
    case measure=>simp [intOf]
   ·have hr0:r=1:=by rw [<- HR.out,Nd.okP_no (k:=4) (by omega) hi];rfl
    rcases Nd.inb_false hi with n1 | ⟨n1,n2⟩
    ·clear hi HG
     go_wp2
     go_ret
     exact ⟨by first | rfl | (rw [hr0];rfl),ht.out⟩
    ·clear hi HG
     go_wp2
     go_ret
     exact ⟨by first | rfl | (rw [hr0];rfl),ht.out⟩
  ·have hP:Nd.okP c0 c1 c2 c3 c4=(decide (c1<c3) && decide (c2<c3)):=Nd.okP_of (HG.out 0 (by omega)) (HG.out 1 (by omega)) (HG.out 2 (by omega)) (HG.out 3 (by omega)) (HG.out 4 (by omega))
   have k1:wr.cell? ⟨w.heap.size,1,none⟩=some (.int .i64 c1):=hb.out.cell 1
   have k2:wr.cell? ⟨w.heap.size,2,none⟩=some (.int .i64 c2):=hb.out.cell 2
   have k3:wr.cell? ⟨w.heap.size,3,none⟩=some (.int .i64 c3):=hb.out.cell 3
   by_cases h1:c1<c3
   ·by_cases h2:c2<c3
    ·have hr0:r=0:=by rw [<- HR.out,hP,decide_eq_true h1,decide_eq_true h2];rfl
     have m1:¬ c3<=c1:=by omega
     have m2:¬ c3<=c2:=by omega
     clear HG hP
     go_wp2
     go_ret
     exact ⟨by first | rfl | (rw [hr0];rfl),ht.out⟩
    ·have hr0:r=1:=by rw [<- HR.out,hP,decide_eq_false h2,Bool.and_false];rfl
     have m1:¬ c3<=c1:=by omega
     have m2:c3<=c2:=by omega
     clear HG hP
     go_wp2
     go_ret
     exact ⟨by first | rfl | (rw [hr0];rfl),ht.out⟩
   ·have hr0:r=1:=by rw [<- HR.out,hP,decide_eq_false h1];rfl
    have m1:c3<=c1:=by omega
    clear HG hP
    go_wp2
    go_ret
    exact ⟨by first | rfl | (rw [hr0];rfl),ht.out⟩
theorem pnew_ok (c0 c1 c2 c3 c4:Int) (w:World) (h:Nd.okP c0 c1 c2 c3 c4=true) :
  Calls Tryz.prog 60 #[.agg #[.int .i64 c0,.int .i64 c1,.int .i64 c2,.int .i64 c3,.int .i64 c4]] w fun e w'=>∃ g,e=.returned (.tuple #[.pointer (some ⟨g,0,none⟩),.int .i64 0])/\Pk w' g [0,0,0,0,0] c0 c1 c2 c3 c4/\Fresh w w'/\w.heap.size<=g:=by
 have HC:=lh (fun W=>pcheck_any c0 c1 c2 c3 c4 W)
 rw [h] at HC
 go_enter Tryz.func60,Tryz.ntmps60
 go_wp2_with fail
 refine (HC.out _).mono ?_
 rintro e w1 ⟨rfl,t1⟩
 have B1:=t1.blk (Blk.new w 72 [.int .i64 c0,.int .i64 c1,.int .i64 c2,.int .i64 c3,.int .i64 c4]) (fun h=>h)
 have k0:w1.cell? ⟨w.heap.size,0,none⟩=some (.int .i64 c0):=B1.cell 0
 have k1:w1.cell? ⟨w.heap.size,1,none⟩=some (.int .i64 c1):=B1.cell 1
 have k2:w1.cell? ⟨w.heap.size,2,none⟩=some (.int .i64 c2):=B1.cell 2
 have k3:w1.cell? ⟨w.heap.size,3,none⟩=some (.int .i64 c3):=B1.cell 3
 have k4:w1.cell? ⟨w.heap.size,4,none⟩=some (.int .i64 c4):=B1.cell 4
 have T1:=lh (((Touch.refl _ w).alloc _).trans t1 (fun _ _ h=>h))
 have hs:=T1.out.size
 clear t1 B1
 go_wp2
 go_ret2
 exact ⟨_,rfl,⟨rfl,by simp,Blk.new _ _ [.int .i64 0,.int .i64 0,.int .i64 0,.int .i64 0,.int .i64 0,.int .i64 c0,.int .i64 c1,.int .i64 c2,.int .i64 c3,.int .i64 c4]⟩,T1.out.alloc _,hs⟩
set_option maxRecDepth 20000
namespace Nd
structure C where
 most:Int
 window:Int
 queue:Int
 units:Int
 polls:Int
 start:Int
 cc:Int
 poll:Int
 keep:Int
 silent:Int
 idle:Int
def C.cells (c:C):List Value:=[.int .i64 c.most,.int .i64 c.window,.int .i64 c.queue,.int .i64 c.units,.int .i64 c.polls,.int .u32 c.start,.int .i64 c.cc,.int .i64 c.poll,.int .i64 c.keep,.int .i64 c.silent,.int .i64 c.idle]
def C.val (c:C):Value:=.agg #[.int .i64 c.most,.int .i64 c.window,.int .i64 c.queue,.int .i64 c.units,.int .i64 c.polls,.int .u32 c.start,.int .i64 c.cc,.int .i64 c.poll,.int .i64 c.keep,.int .i64 c.silent,.int .i64 c.idle]
def C.tk (c:C):Bool:=okP c.cc c.poll c.keep c.silent c.idle
def C.ok (c:C):Bool:=inb c.most 16 && inb c.window 64 && inb c.queue 256 && inb c.units 64 && inb c.polls 256 && (c.start==c.start%16777216) && c.tk
end Nd
theorem nin_any (x m:Int) (w:World) :
  Calls Tryz.prog 115 #[.int .i64 x,.int .i64 m] w fun e w'=>e=.returned (.bool (Nd.inb x m))/\w'=w:=by
 obtain ⟨b,hb⟩:=qx (Nd.inb x m)
 have HB:=lh hb
 rw [hb]
 clear hb
 by_cases h1:1<=x
 ·by_cases h2:x<=m
  ·have hb:b=true:=by rw [<- HB.out];unfold Nd.inb;rw [decide_eq_true h1,decide_eq_true h2];rfl
   subst hb
   go_enter Tryz.func115,Tryz.ntmps115
   go_wp2
   go_ret
   exact ⟨rfl,rfl⟩
  ·have hb:b=false:=by rw [<- HB.out];unfold Nd.inb;rw [decide_eq_false h2,Bool.and_false]
   subst hb
   have h3:¬ x<=m:=h2
   go_enter Tryz.func115,Tryz.ntmps115
   go_wp2
   go_ret
   exact ⟨rfl,rfl⟩
 ·have hb:b=false:=by rw [<- HB.out];unfold Nd.inb;rw [decide_eq_false h1];rfl
  subst hb
  go_enter Tryz.func115,Tryz.ntmps115
  go_wp2
  go_ret
  exact ⟨rfl,rfl⟩
theorem ncheck_any (c:Nd.C) (w:World) :
  Calls Tryz.prog 58 #[c.val] w fun e w'=>e=.returned (.int .i64 (if c.ok then 0 else 1))/\Fresh w w':=by
 obtain ⟨r,hr⟩:∃ r:Int,(if c.ok then 0 else 1)=r:=⟨_,rfl⟩
 have HR:=lh hr
 rw [hr]
 clear hr
 obtain ⟨x0,x1,x2,x3,x4,x5,y0,y1,y2,y3,y4⟩:=c
 have HV:Hid (Nd.C.ok ⟨x0,x1,x2,x3,x4,x5,y0,y1,y2,y3,y4⟩=(Nd.inb x0 16 && Nd.inb x1 64 && Nd.inb x2 256 && Nd.inb x3 64 && Nd.inb x4 256 && (x5==x5%16777216) && Nd.okP y0 y1 y2 y3 y4)):=rfl
 show Calls Tryz.prog 58 #[.agg #[.int .i64 x0,.int .i64 x1,.int .i64 x2,.int .i64 x3,.int .i64 x4,.int .u32 x5,.int .i64 y0,.int .i64 y1,.int .i64 y2,.int .i64 y3,.int .i64 y4]] w _
 have HI:=lh nin_any
 have HP:=lh (fun W=>pcheck_any y0 y1 y2 y3 y4 W)
 have HL:=lh (fun W=>low_any x5 W)
 obtain ⟨z,hz⟩:=qx (x5%16777216)
 rw [hz] at HL HV
 clear hz
 obtain ⟨w1,hw1⟩:=xq (w.alloc (.cells #[.int .i64 x0,.int .i64 x1,.int .i64 x2,.int .i64 x3,.int .i64 x4,.int .u32 x5,.int .i64 y0,.int .i64 y1,.int .i64 y2,.int .i64 y3,.int .i64 y4] 74))
 have F1:Hid (Fresh w w1):=by rw [hw1];exact (Touch.refl _ _).alloc _
 have B0:Blk w1 w.heap.size 74 [.int .i64 x0,.int .i64 x1,.int .i64 x2,.int .i64 x3,.int .i64 x4,.int .u32 x5,.int .i64 y0,.int .i64 y1,.int .i64 y2,.int .i64 y3,.int .i64 y4]:=by rw [hw1];exact Blk.new w _ _
 have b0:w1.cell? ⟨w.heap.size,0,none⟩=some (.int .i64 x0):=B0.cell 0
 have b1:w1.cell? ⟨w.heap.size,1,none⟩=some (.int .i64 x1):=B0.cell 1
 have b2:w1.cell? ⟨w.heap.size,2,none⟩=some (.int .i64 x2):=B0.cell 2
 have b3:w1.cell? ⟨w.heap.size,3,none⟩=some (.int .i64 x3):=B0.cell 3
 have b4:w1.cell? ⟨w.heap.size,4,none⟩=some (.int .i64 x4):=B0.cell 4
 have b5:w1.cell? ⟨w.heap.size,5,none⟩=some (.int .u32 x5):=B0.cell 5
 have HB0:Hid (∀ nq,(w1.drewN nq).cell? ⟨w.heap.size,6,none⟩=some (.int .i64 y0)/\(w1.drewN nq).cell? ⟨w.heap.size,7,none⟩=some (.int .i64 y1)/\(w1.drewN nq).cell? ⟨w.heap.size,8,none⟩=some (.int .i64 y2)/\(w1.drewN nq).cell? ⟨w.heap.size,9,none⟩=some (.int .i64 y3)/\(w1.drewN nq).cell? ⟨w.heap.size,10,none⟩=some (.int .i64 y4)):=fun nq=>⟨(B0.drewN nq).cell 6,(B0.drewN nq).cell 7,(B0.drewN nq).cell 8,(B0.drewN nq).cell 9,(B0.drewN nq).cell 10⟩
 clear B0
 go_enter Tryz.func58,Tryz.ntmps58
 go_wp2_with fail
 rw [<- hw1]
 clear hw1
 by_cases i0:Nd.inb x0 16=true
 ·by_cases i1:Nd.inb x1 64=true
  ·by_cases i2:Nd.inb x2 256=true
   ·by_cases i3:Nd.inb x3 64=true
    ·by_cases i4:Nd.inb x4 256=true
     ·by_cases i5:(x5==z)=true
      ·have i6:(x5 != z)=false:=by unfold bne;rw [i5];rfl
       have hv:r=if Nd.okP y0 y1 y2 y3 y4 then 0 else 1:=by
        have e:=HV.out
        rw [i0,i1,i2,i3,i4,i5] at e
        rw [<- HR.out,e]
        simp
       clear HV HR
       go_quiet ((first
        |(go_at_call 115;exact Calls.quiet_of_same (HI.out _ _ _))
        |(go_at_call 116;exact Calls.quiet_of_same (HL.out _))))
       obtain ⟨d0,d1,d2,d3,d4⟩:=HB0.out nq
       obtain ⟨w2,hw2⟩:=xq (w1.drewN nq)
       have F2:Hid (Fresh w w2):=by rw [hw2];exact F1.out.drewN nq
       rw [<- hw2] at d0 d1 d2 d3 d4 ⊢
       clear hw2 b0 b1 b2 b3 b4 b5 i0 i1 i2 i3 i4 i5 HI HL HB0
       go_wp2_with fail
       refine (HP.out _).mono ?_
       rintro e w3 ⟨rfl,f3⟩
       rw [<- hv]
       have F3:Hid (Fresh w w3):=F2.out.trans f3 (fun _ _ e=>e)
       clear f3 hv HP
       simp only
       go_wp2
       go_ret
       exact ⟨rfl,F3.out⟩
      ·have j5:(x5==z)=false:=by simpa using i5
       have hv:r=1:=by
        have e:=HV.out
        rw [i0,i1,i2,i3,i4,j5] at e
        rw [<- HR.out,e]
        simp
       have i6:(x5 != z)=true:=by unfold bne;rw [j5];rfl
       clear i5 HV HR
       go_quiet ((first
        |(go_at_call 115;exact Calls.quiet_of_same (HI.out _ _ _))
        |(go_at_call 116;exact Calls.quiet_of_same (HL.out _))))
       obtain ⟨w2,hw2⟩:=xq (w1.drewN nq)
       have F2:Hid (Fresh w w2):=by rw [hw2];exact F1.out.drewN nq
       rw [<- hw2]
       clear hw2 b0 b1 b2 b3 b4 b5 HI HL HB0 HP
       go_wp2
       go_ret
       exact ⟨by first | rfl | (rw [hv];rfl),F2.out⟩
     ·have j4:Nd.inb x4 256=false:=by simpa using i4
      have hv:r=1:=by
       have e:=HV.out
       rw [i0,i1,i2,i3,j4] at e
       rw [<- HR.out,e]
       simp
      clear i4 HV HR
      go_quiet ((first
       |(go_at_call 115;exact Calls.quiet_of_same (HI.out _ _ _))
       |(go_at_call 116;exact Calls.quiet_of_same (HL.out _))))
      obtain ⟨w2,hw2⟩:=xq (w1.drewN nq)
      have F2:Hid (Fresh w w2):=by rw [hw2];exact F1.out.drewN nq
      rw [<- hw2]
      clear hw2 b0 b1 b2 b3 b4 b5 HI HL HB0 HP
      go_wp2
      go_ret
      exact ⟨by first | rfl | (rw [hv];rfl),F2.out⟩
    ·have j3:Nd.inb x3 64=false:=by simpa using i3
     have hv:r=1:=by
      have e:=HV.out
      rw [i0,i1,i2,j3] at e
      rw [<- HR.out,e]
      simp
     clear i3 HV HR
     go_quiet ((first
      |(go_at_call 115;exact Calls.quiet_of_same (HI.out _ _ _))
      |(go_at_call 116;exact Calls.quiet_of_same (HL.out _))))
     obtain ⟨w2,hw2⟩:=xq (w1.drewN nq)
     have F2:Hid (Fresh w w2):=by rw [hw2];exact F1.out.drewN nq
     rw [<- hw2]
     clear hw2 b0 b1 b2 b3 b4 b5 HI HL HB0 HP
     go_wp2
     go_ret
     exact ⟨by first | rfl | (rw [hv];rfl),F2.out⟩
   ·have j2:Nd.inb x2 256=false:=by simpa using i2
    have hv:r=1:=by
     have e:=HV.out
     rw [i0,i1,j2] at e
     rw [<- HR.out,e]
     simp
    clear i2 HV HR
    go_quiet ((first
     |(go_at_call 115;exact Calls.quiet_of_same (HI.out _ _ _))
     |(go_at_call 116;exact Calls.quiet_of_same (HL.out _))))
    obtain ⟨w2,hw2⟩:=xq (w1.drewN nq)
    have F2:Hid (Fresh w w2):=by rw [hw2];exact F1.out.drewN nq
    rw [<- hw2]
    clear hw2 b0 b1 b2 b3 b4 b5 HI HL HB0 HP
    go_wp2
    go_ret
    exact ⟨by first | rfl | (rw [hv];rfl),F2.out⟩
  ·have j1:Nd.inb x1 64=false:=by simpa using i1
   have hv:r=1:=by
    have e:=HV.out
    rw [i0,j1] at e
    rw [<- HR.out,e]
    simp
   clear i1 HV HR
   go_quiet ((first
    |(go_at_call 115;exact Calls.quiet_of_same (HI.out _ _ _))
    |(go_at_call 116;exact Calls.quiet_of_same (HL.out _))))
   obtain ⟨w2,hw2⟩:=xq (w1.drewN nq)
   have F2:Hid (Fresh w w2):=by rw [hw2];exact F1.out.drewN nq
   rw [<- hw2]
   clear hw2 b0 b1 b2 b3 b4 b5 HI HL HB0 HP
   go_wp2
   go_ret
   exact ⟨by first | rfl | (rw [hv];rfl),F2.out⟩
 ·have j0:Nd.inb x0 16=false:=by simpa using i0
  have hv:r=1:=by
   have e:=HV.out
   rw [j0] at e
   rw [<- HR.out,e]
   simp
  clear i0 HV HR
  go_quiet ((first
   |(go_at_call 115;exact Calls.quiet_of_same (HI.out _ _ _))
   |(go_at_call 116;exact Calls.quiet_of_same (HL.out _))))
  obtain ⟨w2,hw2⟩:=xq (w1.drewN nq)
  have F2:Hid (Fresh w w2):=by rw [hw2];exact F1.out.drewN nq
  rw [<- hw2]
  clear hw2 b0 b1 b2 b3 b4 b5 HI HL HB0 HP
  go_wp2
  go_ret
  exact ⟨by first | rfl | (rw [hv];rfl),F2.out⟩
set_option maxRecDepth 20000
theorem rin_any (x m:Int) (w:World) :
  Calls Tryz.prog 55 #[.int .i64 x,.int .i64 m] w fun e w'=>e=.returned (.int .i64 (max 1 (min x m)))/\w'=w:=by
 obtain ⟨m1,hm⟩:=qx ((if m<x then m else x))
 obtain ⟨m',hm'⟩:∃ m',(if 1<m1 then m1 else 1)=m':=⟨_,rfl⟩
 have hx:Hid (max 1 (min x m)=m'):=by
  unfold Hid
  rw [<- hm',<- hm];(split <;> (try split) <;> omega)
 go_enter Tryz.func55,Tryz.ntmps55
 go_wp2
 go_ret
 exact ⟨by rw [hx.out];first | rfl | simp,rfl⟩
def Right16 (w:World) (x0 x1 x2 x3 x4 x5:Int) (e:Ending) (w':World):Prop:=
 ∃ g c0 c1 c2 c3 c4,e=.returned (.agg #[.int .i64 (max 1 (min x0 16)),.int .i64 (max 1 (min x1 64)),.int .i64 (max 1 (min x2 256)),.int .i64 (max 1 (min x3 64)),.int .i64 (max 1 (min x4 256)),.int .i64 (x5%16777216),.slice (some ⟨g,0,none⟩) 5 5])/\Sl intE w' (some ⟨g,0,none⟩) 5 [c0,c1,c2,c3,c4]/\GoodC c0 c1 c2 c3 c4/\Fresh w w'/\w.heap.size<=g
theorem right16_any (x0 x1 x2 x3 x4 x5:Int) (A:Option Addr) (c:Nat) (L:List Int) (w:World) (h:Rd intE w A c L) :
  Calls Tryz.prog 27 #[.agg #[.int .i64 x0,.int .i64 x1,.int .i64 x2,.int .i64 x3,.int .i64 x4,.int .i64 x5,.slice A L.length c]] w (Right16 w x0 x1 x2 x3 x4 x5):=by
 have HR:=lh h
 clear h
 have HO:Hid (∀ W,Fresh w W->Calls Tryz.prog 57 #[.slice A L.length c] W (RightPost W)):=fun W hW=>right_any A c L W (HR.out.touch hW (fun _ _ _ e=>e))
 have HI:=lh rin_any
 have HS:=lh (fun W=>r01of_any x5 W)
 obtain ⟨y0,hy0⟩:=qx (max 1 (min x0 16))
 have HI0:Hid (∀ W,Calls Tryz.prog 55 #[.int .i64 x0,.int .i64 16] W fun e w'=>e=.returned (.int .i64 y0)/\w'=W):=by rw [<- hy0];exact fun W=>rin_any x0 16 W
 obtain ⟨y1,hy1⟩:=qx (max 1 (min x1 64))
 have HI1:Hid (∀ W,Calls Tryz.prog 55 #[.int .i64 x1,.int .i64 64] W fun e w'=>e=.returned (.int .i64 y1)/\w'=W):=by rw [<- hy1];exact fun W=>rin_any x1 64 W
 obtain ⟨y2,hy2⟩:=qx (max 1 (min x2 256))
 have HI2:Hid (∀ W,Calls Tryz.prog 55 #[.int .i64 x2,.int .i64 256] W fun e w'=>e=.returned (.int .i64 y2)/\w'=W):=by rw [<- hy2];exact fun W=>rin_any x2 256 W
 obtain ⟨y3,hy3⟩:=qx (max 1 (min x3 64))
 have HI3:Hid (∀ W,Calls Tryz.prog 55 #[.int .i64 x3,.int .i64 64] W fun e w'=>e=.returned (.int .i64 y3)/\w'=W):=by rw [<- hy3];exact fun W=>rin_any x3 64 W
 obtain ⟨y4,hy4⟩:=qx (max 1 (min x4 256))
 have HI4:Hid (∀ W,Calls Tryz.prog 55 #[.int .i64 x4,.int .i64 256] W fun e w'=>e=.returned (.int .i64 y4)/\w'=W):=by rw [<- hy4];exact fun W=>rin_any x4 256 W
 obtain ⟨y5,hy5⟩:=qx (x5%16777216)
 rw [hy5] at HS
 have HPO:Hid (∀ e w',(∃ g c0 c1 c2 c3 c4,e=.returned (.agg #[.int .i64 y0,.int .i64 y1,.int .i64 y2,.int .i64 y3,.int .i64 y4,.int .i64 y5,.slice (some ⟨g,0,none⟩) 5 5])/\Sl intE w' (some ⟨g,0,none⟩) 5 [c0,c1,c2,c3,c4]/\GoodC c0 c1 c2 c3 c4/\Fresh w w'/\w.heap.size<=g)->Right16 w x0 x1 x2 x3 x4 x5 e w'):=by
  rw [<- hy0,<- hy1,<- hy2,<- hy3,<- hy4,<- hy5]
  exact fun e w' h=>h
 clear hy0 hy1 hy2 hy3 hy4 hy5 HI
 refine Calls.mono ?_ HPO.out
 obtain ⟨w0,hw0⟩:=xq ((w.alloc (.cells #[.int .i64 x0,.int .i64 x1,.int .i64 x2,.int .i64 x3,.int .i64 x4,.int .i64 x5,.slice A L.length c] 24)).alloc (.cells #[.int .i64 0,.int .i64 0,.int .i64 0,.int .i64 0,.int .i64 0,.int .i64 0,.slice none 0 0] 24))
 have HF:Hid (Fresh w w0):=by rw [hw0];exact ((Touch.refl _ _).alloc _).alloc _
 obtain ⟨bg,hbg⟩:=xq w.heap.size
 obtain ⟨br,hbr⟩:=xq (w.heap.size+1)
 have HB:Hid (Blk w0 bg 24 [.int .i64 x0,.int .i64 x1,.int .i64 x2,.int .i64 x3,.int .i64 x4,.int .i64 x5,.slice A L.length c]):=by rw [hw0,hbg];exact (Blk.new w _ _).alloc _
 have HBR:Hid (Blk w0 br 24 [.int .i64 0,.int .i64 0,.int .i64 0,.int .i64 0,.int .i64 0,.int .i64 0,.slice none 0 0]):=by
  have:=Blk.new (w.alloc (.cells #[.int .i64 x0,.int .i64 x1,.int .i64 x2,.int .i64 x3,.int .i64 x4,.int .i64 x5,.slice A L.length c] 24)) 24 [.int .i64 0,.int .i64 0,.int .i64 0,.int .i64 0,.int .i64 0,.int .i64 0,.slice none 0 0]
  rw [hw0,hbr]
  unfold Hid
  simpa using this
 have HNE:Hid (bg ≠ br/\w.heap.size<=br):=by unfold Hid;omega
 have HKEEP:Hid (∀ wx,Touch (· = br) w0 wx->wx.cell? ⟨bg,0,none⟩=some (.int .i64 x0)/\wx.cell? ⟨bg,1,none⟩=some (.int .i64 x1)/\wx.cell? ⟨bg,2,none⟩=some (.int .i64 x2)/\wx.cell? ⟨bg,3,none⟩=some (.int .i64 x3)/\wx.cell? ⟨bg,4,none⟩=some (.int .i64 x4)/\wx.cell? ⟨bg,5,none⟩=some (.int .i64 x5)/\wx.cell? ⟨bg,6,none⟩=some (.slice A L.length c)):=fun wx ht=>by
  have hb:=ht.blk HB.out HNE.out.1
  exact ⟨hb.cell 0,hb.cell 1,hb.cell 2,hb.cell 3,hb.cell 4,hb.cell 5,hb.cell 6⟩
 go_enter Tryz.func27,Tryz.ntmps27
 go_wp2_with fail
 rw [<- hw0,<- hbr,<- hbg]
 clear hw0 hbr hbg
 have hne1:¬ bg=br:=HNE.out.1
 have hne2:¬ br=bg:=fun e=>hne1 e.symm
 have d0:w0.cell? ⟨bg,0,none⟩=some (.int .i64 x0):=HB.out.cell 0
 have d1:w0.cell? ⟨bg,1,none⟩=some (.int .i64 x1):=HB.out.cell 1
 have d2:w0.cell? ⟨bg,2,none⟩=some (.int .i64 x2):=HB.out.cell 2
 have d3:w0.cell? ⟨bg,3,none⟩=some (.int .i64 x3):=HB.out.cell 3
 have d4:w0.cell? ⟨bg,4,none⟩=some (.int .i64 x4):=HB.out.cell 4
 have d5:w0.cell? ⟨bg,5,none⟩=some (.int .i64 x5):=HB.out.cell 5
 have d6:w0.cell? ⟨bg,6,none⟩=some (.slice A L.length c):=HB.out.cell 6
 have HO2:Hid (Calls Tryz.prog 57 #[.slice A L.length c] w0.drew fun e w3=>∃ g c0 c1 c2 c3 c4,e=.returned (.slice (some ⟨g,0,none⟩) 5 5)/\Hid (Sl intE w3 (some ⟨g,0,none⟩) 5 [c0,c1,c2,c3,c4])/\Hid (GoodC c0 c1 c2 c3 c4)/\Hid (Touch (· = br) w0 w3)/\Hid (Blk w3 br 24 [.int .i64 0,.int .i64 0,.int .i64 0,.int .i64 0,.int .i64 0,.int .i64 0,.slice none 0 0])/\Hid (Fresh w w3)/\Hid (w.heap.size<=g)):=(HO.out _ HF.out.drew).mono fun e w3 ⟨g,c0,c1,c2,c3,c4,h1,h2,h3,h4,h5⟩ =>
  ⟨g,c0,c1,c2,c3,c4,h1,h2,h3,((Touch.refl _ _).drew).trans h4 (fun _ _ e=>e.elim),h4.blk HBR.out.drew (fun e=>e),HF.out.drew.trans h4 (fun _ _ e=>e),by have h1:=HF.out.size;have h2:w0.heap.size<=g:=h5;unfold Hid;omega⟩
 go_region_held3 (fun wx=>wx.cell? ⟨bg,0,none⟩=some (.int .i64 x0)/\wx.cell? ⟨bg,1,none⟩=some (.int .i64 x1)/\wx.cell? ⟨bg,2,none⟩=some (.int .i64 x2)/\wx.cell? ⟨bg,3,none⟩=some (.int .i64 x3)/\wx.cell? ⟨bg,4,none⟩=some (.int .i64 x4)/\wx.cell? ⟨bg,5,none⟩=some (.int .i64 x5)/\wx.cell? ⟨bg,6,none⟩=some (.slice A L.length c))
  (with_reducible refine HKEEP.out _ ?_;repeat (first | with_reducible exact Touch.refl _ _ | with_reducible exact HT3.out | with_reducible refine Touch.drew ?_ | with_reducible refine Touch.st ?_ rfl))
  (first
   |(go_simp;go_at_call 55;with_reducible refine (HI0.out _).mono ?_;rintro e w2 ⟨rfl,rfl⟩)
   |(go_simp;go_at_call 55;with_reducible refine (HI1.out _).mono ?_;rintro e w2 ⟨rfl,rfl⟩)
   |(go_simp;go_at_call 55;with_reducible refine (HI2.out _).mono ?_;rintro e w2 ⟨rfl,rfl⟩)
   |(go_simp;go_at_call 55;with_reducible refine (HI3.out _).mono ?_;rintro e w2 ⟨rfl,rfl⟩)
   |(go_simp;go_at_call 55;with_reducible refine (HI4.out _).mono ?_;rintro e w2 ⟨rfl,rfl⟩)
   |(go_simp;go_at_call 56;with_reducible refine (HS.out _).mono ?_;rintro e w2 ⟨rfl,rfl⟩)
   |(go_simp;go_at_call 57;with_reducible refine HO2.out.mono ?_;rintro e w3 ⟨g,c0,c1,c2,c3,c4,rfl,HS3,HG3,HT3,HR3,HF3,HGL⟩
     have z0:w3.cell? ⟨br,0,none⟩=some (.int .i64 0):=HR3.out.cell 0
     have z1:w3.cell? ⟨br,1,none⟩=some (.int .i64 0):=HR3.out.cell 1
     have z2:w3.cell? ⟨br,2,none⟩=some (.int .i64 0):=HR3.out.cell 2
     have z3:w3.cell? ⟨br,3,none⟩=some (.int .i64 0):=HR3.out.cell 3
     have z4:w3.cell? ⟨br,4,none⟩=some (.int .i64 0):=HR3.out.cell 4
     have z5:w3.cell? ⟨br,5,none⟩=some (.int .i64 0):=HR3.out.cell 5
     have z6:w3.cell? ⟨br,6,none⟩=some (.slice none 0 0):=HR3.out.cell 6
     have q0:=HR3.out.frozen 0
     have q1:=HR3.out.frozen 1
     have q2:=HR3.out.frozen 2
     have q3:=HR3.out.frozen 3
     have q4:=HR3.out.frozen 4
     have q5:=HR3.out.frozen 5
     have q6:=HR3.out.frozen 6))
 all_goals
  have hk:∀ i,(⟨br,i,none⟩:Addr).block<w.heap.size->False:=fun i e=>by have e:br<w.heap.size:=e;have:=HNE.out.2;omega
  have hgb:∀ ad,some (⟨g,0,none⟩:Addr)=some ad->ad.block ≠ br:=HS3.out.blk_ne HR3.out (by decide)
  have HFF:=lh (((((((HF3.out.setCell (hk 0) (.int .i64 y0)).setCell (hk 1) (.int .i64 y1)).setCell (hk 2) (.int .i64 y2)).setCell (hk 3) (.int .i64 y3)).setCell (hk 4) (.int .i64 y4)).setCell (hk 5) (.int .i64 y5)).setCell (hk 6) (.slice (some ⟨g,0,none⟩) 5 5))
  have HBF:=lh (((((((HR3.out.set 0 (.int .i64 y0)).set 1 (.int .i64 y1)).set 2 (.int .i64 y2)).set 3 (.int .i64 y3)).set 4 (.int .i64 y4)).set 5 (.int .i64 y5)).set 6 (.slice (some ⟨g,0,none⟩) 5 5))
  have HSF:=lh (((((((HS3.out.setCell (p:=⟨br,0,none⟩) hgb (.int .i64 y0)).setCell (p:=⟨br,1,none⟩) hgb (.int .i64 y1)).setCell (p:=⟨br,2,none⟩) hgb (.int .i64 y2)).setCell (p:=⟨br,3,none⟩) hgb (.int .i64 y3)).setCell (p:=⟨br,4,none⟩) hgb (.int .i64 y4)).setCell (p:=⟨br,5,none⟩) hgb (.int .i64 y5)).setCell (p:=⟨br,6,none⟩) hgb (.slice (some ⟨g,0,none⟩) 5 5))
  clear hk hgb
  go_wp2
  have e0:=HBF.out.cell 0
  have e1:=HBF.out.cell 1
  have e2:=HBF.out.cell 2
  have e3:=HBF.out.cell 3
  have e4:=HBF.out.cell 4
  have e5:=HBF.out.cell 5
  have e6:=HBF.out.cell 6
  simp only [List.set_cons_zero,List.set_cons_succ,List.getElem?_cons_zero,List.getElem?_cons_succ] at e0 e1 e2 e3 e4 e5 e6
  exact bodyPost_ret (v:=.agg #[.int .i64 y0,.int .i64 y1,.int .i64 y2,.int .i64 y3,.int .i64 y4,.int .i64 y5,.slice (some ⟨g,0,none⟩) 5 5]) (by simp [results,Tryz.results27,go_sem,e0,e1,e2,e3,e4,e5,e6]) rfl ⟨g,c0,c1,c2,c3,c4,rfl,HSF.out,HG3.out,HFF.out,HGL.out⟩
set_option maxRecDepth 20000
theorem own15r_any (g o c:Nat) (c0 c1 c2 c3 c4:Int) (w:World) (h:Rd intE w (some ⟨g,o,none⟩) c [c0,c1,c2,c3,c4]) :
  Calls Tryz.prog 66 #[.slice (some ⟨g,o,none⟩) 5 c] w fun e w'=>e=.returned (.agg #[.int .i64 c0,.int .i64 c1,.int .i64 c2,.int .i64 c3,.int .i64 c4])/\Fresh w w':=by
 have hg:=h.lt (by simp) _ rfl
 have hcc:5<=c:=h.1
 simp only at hg
 have HS:=lh h
 clear h
 go_enter Tryz.func66,Tryz.ntmps66
 go_wp2
 have hs:=HS.out.alloc (.cells #[.int .i64 0,.int .i64 0,.int .i64 0,.int .i64 0,.int .i64 0] 72)
 have HB:=lh (Blk.new w 72 [.int .i64 0,.int .i64 0,.int .i64 0,.int .i64 0,.int .i64 0])
 have HT:Hid (Fresh w (w.alloc (.cells #[.int .i64 0,.int .i64 0,.int .i64 0,.int .i64 0,.int .i64 0] 72))):=(Touch.refl _ w).alloc _
 generalize w.alloc (.cells #[.int .i64 0,.int .i64 0,.int .i64 0,.int .i64 0,.int .i64 0] 72)=wa at *
 have k0:wa.cell? ⟨g,o,none⟩=some (.int .i64 c0):=by
  obtain ⟨g',o',e,_,hh⟩:=hs.int_at 0 (by simp)
  injection e with e
  injection e with e1 e2 _
  subst e1 e2
  exact hh
 have k1:wa.cell? ⟨g,o+1,none⟩=some (.int .i64 c1):=by
  obtain ⟨g',o',e,_,hh⟩:=hs.int_at 1 (by simp)
  injection e with e
  injection e with e1 e2 _
  subst e1 e2
  exact hh
 have k2:wa.cell? ⟨g,o+2,none⟩=some (.int .i64 c2):=by
  obtain ⟨g',o',e,_,hh⟩:=hs.int_at 2 (by simp)
  injection e with e
  injection e with e1 e2 _
  subst e1 e2
  exact hh
 have k3:wa.cell? ⟨g,o+3,none⟩=some (.int .i64 c3):=by
  obtain ⟨g',o',e,_,hh⟩:=hs.int_at 3 (by simp)
  injection e with e
  injection e with e1 e2 _
  subst e1 e2
  exact hh
 have k4:wa.cell? ⟨g,o+4,none⟩=some (.int .i64 c4):=by
  obtain ⟨g',o',e,_,hh⟩:=hs.int_at 4 (by simp)
  injection e with e
  injection e with e1 e2 _
  subst e1 e2
  exact hh
 have HW:∃ gb,gb=w.heap.size:=⟨_,rfl⟩
 obtain ⟨gb,hgb⟩:=HW
 rw [<- hgb] at HB ⊢
 have HGB:=lh hgb
 clear hs hgb
 have f0:=HB.out.frozen 0
 have f1:=HB.out.frozen 1
 have f2:=HB.out.frozen 2
 have f3:=HB.out.frozen 3
 have f4:=HB.out.frozen 4
 have d0:wa.cell? ⟨gb,0,none⟩=some (.int .i64 0):=HB.out.cell 0
 have d1:wa.cell? ⟨gb,1,none⟩=some (.int .i64 0):=HB.out.cell 1
 have d2:wa.cell? ⟨gb,2,none⟩=some (.int .i64 0):=HB.out.cell 2
 have d3:wa.cell? ⟨gb,3,none⟩=some (.int .i64 0):=HB.out.cell 3
 have d4:wa.cell? ⟨gb,4,none⟩=some (.int .i64 0):=HB.out.cell 4
 go_still_tail 16,(by kernel_rfl)
 go_wp2
 have hBf:Blk (((((wa.setCell ⟨gb,0,none⟩ (.int .i64 c0)).setCell ⟨gb,1,none⟩ (.int .i64 c1)).setCell ⟨gb,2,none⟩ (.int .i64 c2)).setCell ⟨gb,3,none⟩ (.int .i64 c3)).setCell ⟨gb,4,none⟩ (.int .i64 c4)).drew gb 72 [.int .i64 c0,.int .i64 c1,.int .i64 c2,.int .i64 c3,.int .i64 c4]:=(((((HB.out.set 0 (.int .i64 c0)).set 1 (.int .i64 c1)).set 2 (.int .i64 c2)).set 3 (.int .i64 c3)).set 4 (.int .i64 c4)).drew
 have hTf:Fresh w (((((wa.setCell ⟨gb,0,none⟩ (.int .i64 c0)).setCell ⟨gb,1,none⟩ (.int .i64 c1)).setCell ⟨gb,2,none⟩ (.int .i64 c2)).setCell ⟨gb,3,none⟩ (.int .i64 c3)).setCell ⟨gb,4,none⟩ (.int .i64 c4)).drew:=by
  have hgb:=HGB.out
  exact (((((HT.out.setCell (fun h=>by simp at h;omega) _).setCell (fun h=>by simp at h;omega) _).setCell (fun h=>by simp at h;omega) _).setCell (fun h=>by simp at h;omega) _).setCell (fun h=>by simp at h;omega) _).drew
 generalize (((((wa.setCell ⟨gb,0,none⟩ (.int .i64 c0)).setCell ⟨gb,1,none⟩ (.int .i64 c1)).setCell ⟨gb,2,none⟩ (.int .i64 c2)).setCell ⟨gb,3,none⟩ (.int .i64 c3)).setCell ⟨gb,4,none⟩ (.int .i64 c4)).drew=wf at *
 have e0:wf.cell? ⟨gb,0,none⟩=some (.int .i64 c0):=hBf.cell 0
 have e1:wf.cell? ⟨gb,1,none⟩=some (.int .i64 c1):=hBf.cell 1
 have e2:wf.cell? ⟨gb,2,none⟩=some (.int .i64 c2):=hBf.cell 2
 have e3:wf.cell? ⟨gb,3,none⟩=some (.int .i64 c3):=hBf.cell 3
 have e4:wf.cell? ⟨gb,4,none⟩=some (.int .i64 c4):=hBf.cell 4
 exact bodyPost_ret (v:=.agg #[.int .i64 c0,.int .i64 c1,.int .i64 c2,.int .i64 c3,.int .i64 c4]) (by simp [results,Tryz.results66,go_sem,e0,e1,e2,e3,e4]) rfl ⟨rfl,hTf⟩
theorem own16_any (x0 x1 x2 x3 x4 x5:Int) (g o c:Nat) (c0 c1 c2 c3 c4:Int) (w:World) (h:Rd intE w (some ⟨g,o,none⟩) c [c0,c1,c2,c3,c4]) :
  Calls Tryz.prog 32 #[.agg #[.int .i64 x0,.int .i64 x1,.int .i64 x2,.int .i64 x3,.int .i64 x4,.int .i64 x5,.slice (some ⟨g,o,none⟩) 5 c]] w fun e w'=>e=.returned (Nd.C.val ⟨x0,x1,x2,x3,x4,x5%16777216,c0,c1,c2,c3,c4⟩)/\Fresh w w':=by
 have HR:=lh h
 clear h
 have HO:Hid (∀ W,Fresh w W->Calls Tryz.prog 66 #[.slice (some ⟨g,o,none⟩) 5 c] W fun e w'=>e=.returned (.agg #[.int .i64 c0,.int .i64 c1,.int .i64 c2,.int .i64 c3,.int .i64 c4])/\Fresh W w'):=fun W hW=>own15r_any g o c c0 c1 c2 c3 c4 W (HR.out.touch hW (fun _ _ _ e=>e))
 have HS:=lh (fun W=>sof_any x5 W)
 obtain ⟨w0,hw0⟩:=xq ((w.alloc (.cells #[.int .i64 x0,.int .i64 x1,.int .i64 x2,.int .i64 x3,.int .i64 x4,.int .i64 x5,.slice (some ⟨g,o,none⟩) 5 c] 24)).alloc (.cells #[.int .i64 0,.int .i64 0,.int .i64 0,.int .i64 0,.int .i64 0,.int .u32 0,.int .i64 0,.int .i64 0,.int .i64 0,.int .i64 0,.int .i64 0] 74))
 have HF:Hid (Fresh w w0):=by rw [hw0];exact ((Touch.refl _ _).alloc _).alloc _
 obtain ⟨bg,hbg⟩:=xq w.heap.size
 obtain ⟨br,hbr⟩:=xq (w.heap.size+1)
 have HB:Hid (Blk w0 bg 24 [.int .i64 x0,.int .i64 x1,.int .i64 x2,.int .i64 x3,.int .i64 x4,.int .i64 x5,.slice (some ⟨g,o,none⟩) 5 c]):=by rw [hw0,hbg];exact (Blk.new w _ _).alloc _
 have HBR:Hid (Blk w0 br 74 [.int .i64 0,.int .i64 0,.int .i64 0,.int .i64 0,.int .i64 0,.int .u32 0,.int .i64 0,.int .i64 0,.int .i64 0,.int .i64 0,.int .i64 0]):=by
  have:=Blk.new (w.alloc (.cells #[.int .i64 x0,.int .i64 x1,.int .i64 x2,.int .i64 x3,.int .i64 x4,.int .i64 x5,.slice (some ⟨g,o,none⟩) 5 c] 24)) 74 [.int .i64 0,.int .i64 0,.int .i64 0,.int .i64 0,.int .i64 0,.int .u32 0,.int .i64 0,.int .i64 0,.int .i64 0,.int .i64 0,.int .i64 0]
  rw [hw0,hbr]
  unfold Hid
  simpa using this
 have HNE:Hid (bg ≠ br/\w.heap.size<=br):=by unfold Hid;omega
 have HKEEP:Hid (∀ wx,Touch (· = br) w0 wx->wx.cell? ⟨bg,0,none⟩=some (.int .i64 x0)/\wx.cell? ⟨bg,1,none⟩=some (.int .i64 x1)/\wx.cell? ⟨bg,2,none⟩=some (.int .i64 x2)/\wx.cell? ⟨bg,3,none⟩=some (.int .i64 x3)/\wx.cell? ⟨bg,4,none⟩=some (.int .i64 x4)/\wx.cell? ⟨bg,5,none⟩=some (.int .i64 x5)/\wx.cell? ⟨bg,6,none⟩=some (.slice (some ⟨g,o,none⟩) 5 c)):=fun wx ht=>by
  have hb:=ht.blk HB.out HNE.out.1
  exact ⟨hb.cell 0,hb.cell 1,hb.cell 2,hb.cell 3,hb.cell 4,hb.cell 5,hb.cell 6⟩
 go_enter Tryz.func32,Tryz.ntmps32
 go_wp2_with fail
 rw [<- hw0,<- hbr,<- hbg]
 clear hw0 hbr hbg
 have hne1:¬ bg=br:=HNE.out.1
 have hne2:¬ br=bg:=fun e=>hne1 e.symm
 have d0:w0.cell? ⟨bg,0,none⟩=some (.int .i64 x0):=HB.out.cell 0
 have d1:w0.cell? ⟨bg,1,none⟩=some (.int .i64 x1):=HB.out.cell 1
 have d2:w0.cell? ⟨bg,2,none⟩=some (.int .i64 x2):=HB.out.cell 2
 have d3:w0.cell? ⟨bg,3,none⟩=some (.int .i64 x3):=HB.out.cell 3
 have d4:w0.cell? ⟨bg,4,none⟩=some (.int .i64 x4):=HB.out.cell 4
 have d5:w0.cell? ⟨bg,5,none⟩=some (.int .i64 x5):=HB.out.cell 5
 have d6:w0.cell? ⟨bg,6,none⟩=some (.slice (some ⟨g,o,none⟩) 5 c):=HB.out.cell 6
 go_region_held3 (fun wx=>wx.cell? ⟨bg,0,none⟩=some (.int .i64 x0)/\wx.cell? ⟨bg,1,none⟩=some (.int .i64 x1)/\wx.cell? ⟨bg,2,none⟩=some (.int .i64 x2)/\wx.cell? ⟨bg,3,none⟩=some (.int .i64 x3)/\wx.cell? ⟨bg,4,none⟩=some (.int .i64 x4)/\wx.cell? ⟨bg,5,none⟩=some (.int .i64 x5)/\wx.cell? ⟨bg,6,none⟩=some (.slice (some ⟨g,o,none⟩) 5 c))
  (with_reducible refine HKEEP.out _ ?_;repeat (first | with_reducible exact Touch.refl _ _ | with_reducible exact HT3.out | with_reducible refine Touch.drew ?_ | with_reducible refine Touch.st ?_ rfl))
  (first
   |(go_simp;go_at_call 65;with_reducible refine (HS.out _).mono ?_;rintro e w2 ⟨rfl,rfl⟩)
   |(go_simp;go_at_call 66;with_reducible refine (HO.out _ HF.out.drew).mono ?_;rintro e w3 ⟨rfl,f3⟩
     have HT3:Hid (Touch (· = br) w0 w3):=((Touch.refl _ _).drew).trans f3 (fun _ _ e=>e.elim)
     have HR3:Hid (Blk w3 br 74 [.int .i64 0,.int .i64 0,.int .i64 0,.int .i64 0,.int .i64 0,.int .u32 0,.int .i64 0,.int .i64 0,.int .i64 0,.int .i64 0,.int .i64 0]):=f3.blk HBR.out.drew (fun e=>e)
     have HF3:Hid (Fresh w w3):=HF.out.drew.trans f3 (fun _ _ e=>e)
     have z0:w3.cell? ⟨br,0,none⟩=some (.int .i64 0):=HR3.out.cell 0
     have z1:w3.cell? ⟨br,1,none⟩=some (.int .i64 0):=HR3.out.cell 1
     have z2:w3.cell? ⟨br,2,none⟩=some (.int .i64 0):=HR3.out.cell 2
     have z3:w3.cell? ⟨br,3,none⟩=some (.int .i64 0):=HR3.out.cell 3
     have z4:w3.cell? ⟨br,4,none⟩=some (.int .i64 0):=HR3.out.cell 4
     have z5:w3.cell? ⟨br,5,none⟩=some (.int .u32 0):=HR3.out.cell 5
     have z6:w3.cell? ⟨br,6,none⟩=some (.int .i64 0):=HR3.out.cell 6
     have z7:w3.cell? ⟨br,7,none⟩=some (.int .i64 0):=HR3.out.cell 7
     have z8:w3.cell? ⟨br,8,none⟩=some (.int .i64 0):=HR3.out.cell 8
     have z9:w3.cell? ⟨br,9,none⟩=some (.int .i64 0):=HR3.out.cell 9
     have z10:w3.cell? ⟨br,10,none⟩=some (.int .i64 0):=HR3.out.cell 10
     have q0:=HR3.out.frozen 0
     have q1:=HR3.out.frozen 1
     have q2:=HR3.out.frozen 2
     have q3:=HR3.out.frozen 3
     have q4:=HR3.out.frozen 4
     have q5:=HR3.out.frozen 5
     have q6:=HR3.out.frozen 6
     have q7:=HR3.out.frozen 7
     have q8:=HR3.out.frozen 8
     have q9:=HR3.out.frozen 9
     have q10:=HR3.out.frozen 10
     clear f3))
 all_goals
  have hk:∀ i,(⟨br,i,none⟩:Addr).block<w.heap.size->False:=fun i e=>by have e:br<w.heap.size:=e;have:=HNE.out.2;omega
  have HFF:=lh (((((((((((HF3.out.setCell (hk 0) (.int .i64 x0)).setCell (hk 1) (.int .i64 x1)).setCell (hk 2) (.int .i64 x2)).setCell (hk 3) (.int .i64 x3)).setCell (hk 4) (.int .i64 x4)).setCell (hk 5) (.int .u32 (x5%16777216))).setCell (hk 6) (.int .i64 c0)).setCell (hk 7) (.int .i64 c1)).setCell (hk 8) (.int .i64 c2)).setCell (hk 9) (.int .i64 c3)).setCell (hk 10) (.int .i64 c4))
  have HBF:=lh (((((((((((HR3.out.set 0 (.int .i64 x0)).set 1 (.int .i64 x1)).set 2 (.int .i64 x2)).set 3 (.int .i64 x3)).set 4 (.int .i64 x4)).set 5 (.int .u32 (x5%16777216))).set 6 (.int .i64 c0)).set 7 (.int .i64 c1)).set 8 (.int .i64 c2)).set 9 (.int .i64 c3)).set 10 (.int .i64 c4))
  clear hk
  go_wp2
  have e0:=HBF.out.cell 0
  have e1:=HBF.out.cell 1
  have e2:=HBF.out.cell 2
  have e3:=HBF.out.cell 3
  have e4:=HBF.out.cell 4
  have e5:=HBF.out.cell 5
  have e6:=HBF.out.cell 6
  have e7:=HBF.out.cell 7
  have e8:=HBF.out.cell 8
  have e9:=HBF.out.cell 9
  have e10:=HBF.out.cell 10
  simp only [List.set_cons_zero,List.set_cons_succ,List.getElem?_cons_zero,List.getElem?_cons_succ] at e0 e1 e2 e3 e4 e5 e6 e7 e8 e9 e10
  exact bodyPost_ret (v:=Nd.C.val ⟨x0,x1,x2,x3,x4,x5%16777216,c0,c1,c2,c3,c4⟩) (by simp [Nd.C.val,results,Tryz.results32,go_sem,e0,e1,e2,e3,e4,e5,e6,e7,e8,e9,e10]) rfl ⟨rfl,HFF.out⟩
open Go.ChangeShapes Go.WideShapes Go.ChangeAt Go.RowKit
set_option maxRecDepth 10000 in
theorem open_rd_cell {α:Type} (E:El α) {t:TypeId} (ht:Tryz.prog.underlying t=some (.slice E.e)) (hc:Tryz.prog.cellsOf E.e=E.size) {H:Type} {enc:TypeId × Value->H} {W:World} {u:Value} {k:Nat} {y:DataW H × List MemPlace}
  {Good:α->Prop} (dec:∀ n cs y,DataW.trod enc Tryz.prog W 0 (fun _=>true) true n E.e cs=some y->∃ a,cs=E.enc a/\Good a)
  (h:DataW.trod enc Tryz.prog W 0 (fun _=>true) true k t [u]=some y) :
  ∃ A c l,u=.slice A l.length c/\Rd E W A c l/\∀ a ∈ l,Good a:=by
 rcases DataW.trod_slice ht h with ⟨hcs,_⟩ | ⟨a,l,c,elems,rest,n,_,hcs,_,_,hl,hm,hlen,hel,_⟩
 ·injection hcs with hcs
  subst hcs
  exact ⟨none,0,[],rfl,Rd.nil _ _,by simp⟩
 ·injection hcs with hcs
  subst hcs
  have hall:∀ i,i<l->∃ b:α,(∀ f u,(E.enc b)[f]?=some u->W.cell? (a.add (i*E.size+f))=some u)/\Good b:=by
   intro i hi
   have h1:=hel i hi
   rw [List.getElem?_eq_getElem (by omega)] at h1
   obtain ⟨cs,h2,h3⟩:=Option.bind_eq_some_iff.1 h1
   obtain ⟨b,rfl,hg⟩:=dec _ _ _ h3
   obtain ⟨_,h4,h5⟩:=World.cells?_some h2
   refine ⟨b,fun f u hu=>?_,hg⟩
   have hf:f<E.size:=by rw [<- E.len b];exact (List.getElem?_eq_some_iff.1 hu).1
   have h6:=h5 f (by rw [hc];exact hf)
   rw [hc,Go.Deep.add_add] at h6
   rw [h6,hu]
  obtain ⟨L,hL,hp⟩:=exists_list hall
  refine ⟨some a,c,L,by rw [hL],⟨by rw [hL];exact hl,hm,(fun h=>by cases h),?_⟩,?_⟩
  ·intro ad ha j u hu
   injection ha with ha
   subst ha
   obtain ⟨i,f,hi,rfl,_,hu⟩:=E.all_get L j u hu
   exact (hp i hi).1 f u hu
  ·intro b hb
   obtain ⟨i,hi,rfl⟩:=List.mem_iff_getElem.1 hb
   exact (hp i hi).2
end Go.Proofs.YtlbopdfobgjjaaaGreatDoor

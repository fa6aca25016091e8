/-
  node.Node: what Next leaves, and what its ways share. No conditions but where the end lies · node.Node: Next, way by way. Conditions: the epoch's numbers are within bounds · node.Node: Next, way by way. Conditions: the epoch's numbers are within bounds · node.Node: Next, way by way. Conditions: the epoch's numbers are within bounds.
-/
import Derived.Test.YtlbopdfobgjjaaaGreatDoorEnRq
import Derived.Test.YtlbopdfobgjjaaaGreatDoorCloP
import Derived.Test.YtlbopdfobgjjaaaGreatDoorPdw
import Derived.Test.YtlbopdfobgjjaaaGreatDoorRev6
import Derived.Deep.RegionHeld3
import Derived.Test.YtlbopdfobgjjaaaGreatDoorNxP
import Derived.Test.YtlbopdfobgjjaaaGreatDoorRf
set_option maxHeartbeats 4000000
namespace Go.Proofs.YtlbopdfobgjjaaaGreatDoor
open Go.RowKit
set_option maxRecDepth 20000
theorem sdue_any (p:Nat) (F:Nat->Prop) (st:Sd.S) (w:World) (h:SendAt w p F st) :
  Calls Tryz.prog 81 #[.pointer (some ⟨p,0,none⟩)] w fun e w'=>e=.returned (.bool (decide (st.polls<=st.units)))/\∃ n,w'=w.drewN n:=by
 obtain ⟨g,b,k,A,c,h1,hF⟩:=h.open_
 have c5:w.cell? ⟨p,5,none⟩=some (.int .i64 st.units):=h1.blk.cell 5
 have c6:w.cell? ⟨p,6,none⟩=some (.int .i64 st.polls):=h1.blk.cell 6
 clear h h1 hF
 generalize st.units=u at *
 generalize st.polls=q at *
 go_enter Tryz.func81,Tryz.ntmps81
 go_upto_region 1 with (fail)
 go_quiet (fail)
 go_wp2
 go_ret
 exact ⟨rfl,_,rfl⟩
theorem En.spans_eq {r:Rf.S} {lo hi:Int} (h:Rf.Ok r lo hi) {T:List (Int × Int)} (hm:Rv.Miss (Rf.prog r) T):En.spansOf (Rf.renew r)=T:=by
 have e0:Rf.missing (Rf.renew r)=(Sp.nums T).map (r.R + ·):=h.miss hm
 unfold En.spansOf
 rw [e0,List.foldl_map]
 have e1:(Sp.nums T).foldl (fun out n=>Sp.mergeStep out (r.R+n-(Rf.renew r).R,r.R+n-(Rf.renew r).R+1)) []=((Sp.nums T).map fun n=>(n,n+1)).foldl Sp.mergeStep []:=by
  rw [List.foldl_map]
  congr 1
  funext out n
  rw [show r.R+n-(Rf.renew r).R=n by show r.R+n-r.R=n;omega]
 rw [e1]
 have hr:=Sp.nums_rising T hm.1.1
 obtain ⟨g1,g2⟩:=Sp.merge_ok ((Sp.nums T).map fun n=>(n,n+1)) [] ⟨by simp,by simp⟩ (fun x hx=>by
  obtain ⟨n,-,rfl⟩:=List.mem_map.1 hx
  show n<n+1
  omega) (by
  rw [List.pairwise_map]
  exact hr.imp fun h=>by show _<=_;omega) (fun y hy=>nomatch hy)
 refine Sp.Canon.uniq g1 hm.1.1 fun n=>?_
 rw [g2,<- Sp.mem_nums T]
 constructor
 ·rintro (h1 | ⟨x,hx,h1⟩)
  ·exact absurd h1 (Sp.mem_nil n)
  ·obtain ⟨m,hm2,rfl⟩:=List.mem_map.1 hx
   have h1:m<=n/\n<m+1:=h1
   rw [show n=m by omega]
   exact hm2
 ·intro h1
  exact .inr ⟨(n,n+1),List.mem_map.2 ⟨n,h1,rfl⟩,by show n<=n/\n<n+1;omega⟩
theorem Blk.all8 {w:World} {g:Nat} {t:TypeId} {a0 a1 a2 a3 a4 a5 a6 a7:Value} (h:Blk w g t [a0,a1,a2,a3,a4,a5,a6,a7]) :
  w.cell? ⟨g,0,none⟩=some a0/\w.cell? ⟨g,1,none⟩=some a1/\w.cell? ⟨g,2,none⟩=some a2/\w.cell? ⟨g,3,none⟩=some a3/\w.cell? ⟨g,4,none⟩=some a4/\w.cell? ⟨g,5,none⟩=some a5/\w.cell? ⟨g,6,none⟩=some a6/\w.cell? ⟨g,7,none⟩=some a7:=
 ⟨h.cell 0,h.cell 1,h.cell 2,h.cell 3,h.cell 4,h.cell 5,h.cell 6,h.cell 7⟩
theorem Blk.fz8 {w:World} {g:Nat} {t:TypeId} {a0 a1 a2 a3 a4 a5 a6 a7:Value} (h:Blk w g t [a0,a1,a2,a3,a4,a5,a6,a7]) :
  w.frozen? ⟨g,0,none⟩=false/\w.frozen? ⟨g,1,none⟩=false/\w.frozen? ⟨g,2,none⟩=false/\w.frozen? ⟨g,3,none⟩=false/\w.frozen? ⟨g,4,none⟩=false/\w.frozen? ⟨g,5,none⟩=false/\w.frozen? ⟨g,6,none⟩=false/\w.frozen? ⟨g,7,none⟩=false:=
 ⟨h.frozen 0,h.frozen 1,h.frozen 2,h.frozen 3,h.frozen 4,h.frozen 5,h.frozen 6,h.frozen 7⟩
theorem Blk.out8 {w:World} {g:Nat} {t:TypeId} {a0 a1 a2 a3 a4 a5 a6 a7:Value} (h:Blk w g t [a0,a1,a2,a3,a4,a5,a6,a7]) (v0 v1 v2 v3 v4 v5 v6 v7:Value) :
  Touch (· = g) w ((((((((w.setCell ⟨g,0,none⟩ v0).setCell ⟨g,1,none⟩ v1).setCell ⟨g,2,none⟩ v2).setCell ⟨g,3,none⟩ v3).setCell ⟨g,4,none⟩ v4).setCell ⟨g,5,none⟩ v5).setCell ⟨g,6,none⟩ v6).setCell ⟨g,7,none⟩ v7) /\
  Blk ((((((((w.setCell ⟨g,0,none⟩ v0).setCell ⟨g,1,none⟩ v1).setCell ⟨g,2,none⟩ v2).setCell ⟨g,3,none⟩ v3).setCell ⟨g,4,none⟩ v4).setCell ⟨g,5,none⟩ v5).setCell ⟨g,6,none⟩ v6).setCell ⟨g,7,none⟩ v7) g t [v0,v1,v2,v3,v4,v5,v6,v7]:=
 ⟨((((((((Touch.refl (· = g) w).st rfl).st rfl).st rfl).st rfl).st rfl).st rfl).st rfl).st rfl,h.set8 v0 v1 v2 v3 v4 v5 v6 v7⟩
def Goes (k:Nat) (D':Nat->Nat) (w w':World) (u:Cn.Pd) (l:List Int) (u':Cn.Pd):Prop:=
 (u'=u/\l=[])\/∃ A c,u'={ u with lA:=A,ln:=l.length,lc:=c }/\Sl numE w' A c l/\(∀ ad,A=some ad->w.heap.size<=ad.block/\D' ad.block=k+8)/\11<=u.kind
def NextPost (k:Nat) (D:Nat->Nat) (w:World) (n:Nat) (y:En.X × Option (Cn.Pd × List Int)) (e:Ending) (w':World):Prop:=
 ∃ D' u',e=.returned (.tuple #[pduV u',.bool y.2.isSome])/\EndTo k D D' w w' n y.1/\∀ u l,y.2=some (u,l)->Goes k D' w w' u l u'
section
variable {k:Nat} {D D0 D1:Nat->Nat} {w w0 W W':World} {n r2:Nat} {x1:En.X}
theorem EndTo.boxed (h:EndTo k D0 D1 w0 W n x1) (hl:Lab k D D0 w.heap.size) (hf:Fresh w w0) (hr:w.heap.size<=r2) (hr0:r2<w0.heap.size) (hD:D0 r2=k+8) (ht:Touch (· = r2) W W'):EndTo k D D1 w W' n x1:=by
 obtain ⟨cn,pc,un,sp,rp,A,ca,B,cb,hi⟩:=h.at_
 have h1:=h.lab.1 r2 hr0
 refine ⟨⟨cn,pc,un,sp,rp,A,ca,B,cb,hi.keep ht (fun b e=>?_) (fun _ _=>rfl)⟩,hl.trans h.lab hf.size,((hf.mono (fun _ _ e=>e.elim)).then hl h.touch).trans ht (fun b hb e=>?_)⟩
 ·subst e;omega
 ·have:b=r2:=e
  omega
theorem NextPost.mk' {y:En.X × Option (Cn.Pd × List Int)} {u':Cn.Pd} (h:EndTo k D0 D1 w0 W n y.1) (hl:Lab k D D0 w.heap.size) (hf:Fresh w w0) (hr:w.heap.size<=r2) (hr0:r2<w0.heap.size) (hD:D0 r2=k+8) (hg:∀ u l,y.2=some (u,l)->Goes k D1 w0 W u l u') {z:Bool} (hz:y.2.isSome=z) (ht:Touch (· = r2) W W') :
  NextPost k D w n y (.returned (.tuple #[pduV u',.bool z])) W':=by
 subst hz
 refine ⟨D1,u',rfl,h.boxed hl hf hr hr0 hD ht,fun u l e=>?_⟩
 rcases hg u l e with h1 | ⟨A,c,h1,h2,h3,h4⟩
 ·exact .inl h1
 ·exact .inr ⟨A,c,h1,h2.touch ht (fun ad e2 e3=>by have:=(h3 ad e2).1;have e3:ad.block=r2:=e3;omega),fun ad e2=>⟨Nat.le_trans hf.size (h3 ad e2).1,(h3 ad e2).2⟩,h4⟩
end
theorem next_pre {k:Nat} {D:Nat->Nat} {w:World} {n cn pc un:Nat} {sp rp:Option Nat} {A B:Option Addr} {ca cb:Nat} {x:En.X} (h:EndIn k D w n cn pc un sp rp A ca B cb x):∃ w0 r2 D0,w0=w.alloc (.cells #[.int .i64 0,.int .i64 0,.int .u32 0,.int .u32 0,.int .u32 0,.slice none 0 0,.bool false,.string { data:=#[] }] 49)/\r2=w.heap.size/\Hid (Fresh w w0)/\Hid (Lab k D D0 w.heap.size)/\Hid (D0 r2=k+8)/\Hid (Blk w0 r2 49 [.int .i64 0,.int .i64 0,.int .u32 0,.int .u32 0,.int .u32 0,.slice none 0 0,.bool false,.string { data:=#[] }])/\Hid (w.heap.size<=r2)/\Hid (w0.heap.size=r2+1)/\Hid (EndIn k D0 w0 n cn pc un sp rp A ca B cb x)/\Hid (∀ (y:En.X × Option (Cn.Pd × List Int)) (u':Cn.Pd) D1 W W' z,EndTo k D0 D1 w0 W n y.1->(∀ u l,y.2=some (u,l)->Goes k D1 w0 W u l u')->y.2.isSome=z->Touch (· = r2) W W'->NextPost k D w n y (.returned (.tuple #[pduV u',.bool z])) W')/\n<w.heap.size/\¬ n=r2/\¬ r2=n/\Hid (∀ b,w0.heap.size<=b->k<=D0 b/\D0 b<=k+8):=by
 obtain ⟨w0,hw0⟩:=xq (w.alloc (.cells #[.int .i64 0,.int .i64 0,.int .u32 0,.int .u32 0,.int .u32 0,.slice none 0 0,.bool false,.string { data:=#[] }] 49))
 obtain ⟨r2,hr2⟩:=xq w.heap.size
 obtain ⟨D0,hD0⟩:=xq (lab D w.heap.size (k+8))
 have HF0:Hid (Fresh w w0):=by rw [hw0];exact (Touch.refl _ _).alloc _
 have HLAB:Hid (Lab k D D0 w.heap.size):=by rw [hD0];exact lab_lab k D _ 8 (by omega)
 have HDb:Hid (D0 r2=k+8):=by rw [hD0,hr2];exact lab_new (Nat.le_refl _)
 have HB2:Hid (Blk w0 r2 49 [.int .i64 0,.int .i64 0,.int .u32 0,.int .u32 0,.int .u32 0,.slice none 0 0,.bool false,.string { data:=#[] }]):=by rw [hw0,hr2];exact Blk.new w _ _
 have HR2:Hid (w.heap.size<=r2):=Nat.le_of_eq hr2.symm
 have HZ0:Hid (w0.heap.size=r2+1):=by rw [hw0,hr2];unfold Hid;simp
 have hlt:=h.b.1.lt
 exact ⟨w0,r2,D0,hw0,hr2,HF0,HLAB,HDb,HB2,HR2,HZ0,h.old HF0.out (fun b hb=>HLAB.out.1 b hb),fun y u' D1 W W' z h1 h2 h3 h4=>NextPost.mk' h1 HLAB.out HF0.out HR2.out (by have:=HZ0.out;omega) HDb.out h2 h3 h4,hlt,by omega,by omega,fun b hb=>HLAB.out.2 b (Nat.le_trans HF0.out.size hb)⟩
set_option maxRecDepth 20000
section
variable {k:Nat} {D:Nat->Nat} {w:World} {n cn pc un:Nat} {sp rp:Option Nat} {A B:Option Addr} {ca cb:Nat} {x:En.X}
theorem nnext_ctl (h:EndIn k D w n cn pc un sp rp A ca B cb x) (u:Cn.Pd) (r:List Cn.Pd) (hc:x.ctl=u::r) (hr:r.length<=1000) :
  Calls Tryz.prog 39 #[.pointer (some ⟨n,0,none⟩)] w (NextPost k D w n ({ x with ctl:=r },some (u,[]))):=by
 obtain ⟨w0,r2,D0,hw0,hr2,HF0,HLAB,HDb,HB2,HR2,HZ0,H0,HFIN,hlt,n1,n2,HLR⟩:=next_pre h
 have hs:=h.l.1
 rw [hc] at hs
 obtain ⟨g,o,rfl,hg,hcl⟩:=hs.at_ 0 (by simp)
 have hca:=hs.1
 have hcm:=hs.2.1
 unfold maxLen at hcm
 rw [List.length_cons] at hca
 obtain ⟨N,hN⟩:=qx r.length
 have HN:=lh hN
 have HC15:Hid (∀ W,Fresh w W->W.cell? ⟨n,15,none⟩=some (.slice (some ⟨g,o,none⟩) ((N:Nat)+1) ca)):=fun W hW=>by
  have:=(hW.blk h.b.1 (fun e=>e)).cell 15
  rw [show (x.cells cn pc un sp rp (some ⟨g,o,none⟩) ca B cb)[15]?=some (.slice (some ⟨g,o,none⟩) x.ctl.length ca) from rfl,hc,List.length_cons,hN] at this
  exact this
 have hel:∀ W,Fresh w W->∀ f v,[Value.int .i64 u.kind,.int .i64 u.sq,.int .u32 u.n,.int .u32 u.ps,.int .u32 u.mr,.slice u.lA u.ln u.lc,.bool u.self,.string u.data][f]?=some v->W.cell? ⟨g,o+f,none⟩=some v:=fun W hW f v hv=>by
  obtain ⟨g',o',e,_,hh⟩:=(hs.touch hW (fun _ _ e=>e)).at_ 0 (by simp)
  injection e with e
  injection e with e1 e2 _
  subst e1 e2
  have:=hh f v hv
  rw [Nat.zero_mul,Nat.zero_add] at this
  exact this
 obtain ⟨G2,hG2⟩:=qx ((if ca=1 then some (⟨g,o,none⟩:Addr) else some ⟨g,o+8,none⟩))
 have HS1:Hid (∀ W,Fresh w W->Sl pduE W G2 (ca-1) r):=fun W hf=>by
  have:=(hs.touch hf (fun _ _ h=>h)).from_ (k:=1) (by simp)
  rw [<- hG2]
  by_cases h1:ca=1
  ·rw [if_pos h1] at this ⊢
   exact this
  ·rw [if_neg h1] at this ⊢
   simpa [Addr.add_lit,pduE] using this
 have d15:=HC15.out w0 HF0.out
 rw [hN] at hca hr
 have d0:w0.cell? ⟨g,o,none⟩=some (.int .i64 u.kind):=hel w0 HF0.out 0 _ rfl
 have d1:w0.cell? ⟨g,o+1,none⟩=some (.int .i64 u.sq):=hel w0 HF0.out 1 _ rfl
 have d2:w0.cell? ⟨g,o+2,none⟩=some (.int .u32 u.n):=hel w0 HF0.out 2 _ rfl
 have d3:w0.cell? ⟨g,o+3,none⟩=some (.int .u32 u.ps):=hel w0 HF0.out 3 _ rfl
 have d4:w0.cell? ⟨g,o+4,none⟩=some (.int .u32 u.mr):=hel w0 HF0.out 4 _ rfl
 have d5:w0.cell? ⟨g,o+5,none⟩=some (.slice u.lA u.ln u.lc):=hel w0 HF0.out 5 _ rfl
 have d6:w0.cell? ⟨g,o+6,none⟩=some (.bool u.self):=hel w0 HF0.out 6 _ rfl
 have d7:w0.cell? ⟨g,o+7,none⟩=some (.string u.data):=hel w0 HF0.out 7 _ rfl
 have hlz:(0:Int)<(N:Int)+1:=by omega
 have hdz:decide ((0:Int)<(N:Int)+1)=true:=decide_eq_true hlz
 have h1c:(1:Int)<=(N:Int)+1:=by omega
 have hNc:(N:Int)+1<=(ca:Int):=by omega
 have HCT:Hid (∀ w1 A3 c3,Fresh w0 w1->Sl pduE w1 A3 c3 r->(∀ ad,A3=some ad->w0.heap.size<=ad.block)->w1.frozen? ⟨n,15,none⟩=false/\EndTo k D0 (lab D0 w0.heap.size (k+4)) w0 (w1.setCell ⟨n,15,none⟩ (.slice A3 N c3)) n { x with ctl:=r }):=fun w1 A3 c3 h1 h2 h3=>by
  have h4:=H0.out.ctlp (D':=lab D0 w0.heap.size (k+4)) (A':=A3) (ca':=c3) (l:=r) ⟨h2,fun ad e=>lab_new (h3 ad e)⟩ h1 (fun b e=>e.elim) (fun b hb=>lab_old hb)
  rw [hN] at h4
  exact ⟨h4.2.1,⟨_,_,_,_,_,_,_,_,_,h4.2.2⟩,lab_lab k D0 _ 4 (by omega),(h1.mono (fun _ _ e=>e.elim)).st (by have:=H0.out.b.2;unfold All;omega)⟩
 clear h hs hcl hel hN hc
 by_cases h1:ca=1
 ·rw [if_pos h1] at hG2
  subst h1
  have hN0:N=0:=by omega
  subst hN0
  subst hG2
  go_enter Tryz.func39,Tryz.ntmps39
  go_upto_region 1 with (fail)
  rw [<- hw0,<- hr2]
  clear hw0 hr2
  go_upto_region 3 with (fail)
  obtain ⟨w1,hw1⟩:=xq (w0.alloc (.cells #[.int .i64 u.kind,.int .i64 u.sq,.int .u32 u.n,.int .u32 u.ps,.int .u32 u.mr,.slice u.lA u.ln u.lc,.bool u.self,.string u.data] 49))
  obtain ⟨r4,hr4⟩:=xq w0.heap.size
  have HF1:Hid (Fresh w0 w1):=by rw [hw1];exact (Touch.refl _ _).alloc _
  have HFW1:Hid (Fresh w w1):=HF0.out.trans HF1.out (fun _ _ e=>e)
  have HB4:Hid (Blk w1 r4 49 [.int .i64 u.kind,.int .i64 u.sq,.int .u32 u.n,.int .u32 u.ps,.int .u32 u.mr,.slice u.lA u.ln u.lc,.bool u.self,.string u.data]):=by rw [hw1,hr4];exact Blk.new w0 _ _
  have e15:=HC15.out w1 HFW1.out
  have n3:¬ n=r4:=by have:=HZ0.out;have:=HR2.out;omega
  have n4:¬ r4=n:=by have:=HZ0.out;have:=HR2.out;omega
  have n5:¬ r2=r4:=by have:=HZ0.out;have:=HR2.out;omega
  have n6:¬ r4=r2:=by have:=HZ0.out;have:=HR2.out;omega
  rw [<- hw1,<- hr4]
  clear hw1 hr4 d0 d1 d2 d3 d4 d5 d6 d7 d15
  go_wp2_with fail
  have HCL:=clonePdu_any _ _ r w1 (HS1.out w1 HFW1.out).rd (by rw [HN.out];omega)
  rw [HN.out] at HCL
  refine HCL.mono ?_
  rintro e w3 ⟨A3,c3,rfl,s3,f3,b3⟩
  have HF3:Hid (Fresh w0 w3):=HF1.out.trans f3 (fun _ _ e=>e)
  have HB4':=lh (f3.blk HB4.out (fun e=>e))
  have HB2':=lh (HF3.out.blk HB2.out (fun e=>e))
  obtain ⟨f15,hC⟩:=HCT.out w3 A3 c3 HF3.out s3 (fun ad e=>Nat.le_trans HF1.out.size (b3 ad e))
  have HC:=lh hC
  have l15:=HC15.out w3 (HF0.out.trans HF3.out (fun _ _ e=>e))
  clear s3 f3 b3 HCL e15 HB4 HB2 hC
  simp only
  go_upto_region 4 with (fail)
  obtain ⟨w4,hw4⟩:=xq (w3.setCell ⟨n,15,none⟩ (.slice A3 0 c3))
  have HI4:Hid (EndTo k D0 (lab D0 w0.heap.size (k+4)) w0 w4 n { x with ctl:=r }):=by rw [hw4];exact HC.out
  have HB6:Hid (Blk w4 r4 49 [.int .i64 u.kind,.int .i64 u.sq,.int .u32 u.n,.int .u32 u.ps,.int .u32 u.mr,.slice u.lA u.ln u.lc,.bool u.self,.string u.data]):=by rw [hw4];exact HB4'.out.far n4 _
  have HB5:Hid (Blk w4 r2 49 [.int .i64 0,.int .i64 0,.int .u32 0,.int .u32 0,.int .u32 0,.slice none 0 0,.bool false,.string { data:=#[] }]):=by rw [hw4];exact HB2'.out.far n2 _
  rw [<- hw4]
  clear hw4 l15 f15 HC
  obtain ⟨k0,k1,k2,k3,k4,k5,k6,k7⟩:=HB6.out.all8
  obtain ⟨j0,j1,j2,j3,j4,j5,j6,j7⟩:=HB5.out.all8
  obtain ⟨q0,q1,q2,q3,q4,q5,q6,q7⟩:=HB5.out.fz8
  have HBF:=lh (HB5.out.out8 (.int .i64 u.kind) (.int .i64 u.sq) (.int .u32 u.n) (.int .u32 u.ps) (.int .u32 u.mr) (.slice u.lA u.ln u.lc) (.bool u.self) (.string u.data))
  go_wp2
  obtain ⟨e0,e1,e2,e3,e4,e5,e6,e7⟩:=HBF.out.2.all8
  have HTT:=HBF.out.1
  have HQ:=HFIN.out ({ x with ctl:=r },some (u,[])) u _ _ _ true HI4.out (fun u0 l0 e0=>by injection e0 with e0;injection e0 with e0 e1;subst e0 e1;exact .inl ⟨rfl,rfl⟩) rfl HTT
  exact bodyPost_ret (v:=_) (by simp [results,Tryz.results39,go_sem,e0,e1,e2,e3,e4,e5,e6,e7];rfl) rfl HQ
 ·rw [if_neg h1] at hG2
  subst hG2
  go_enter Tryz.func39,Tryz.ntmps39
  go_upto_region 1 with (fail)
  rw [<- hw0,<- hr2]
  clear hw0 hr2
  go_upto_region 3 with (fail)
  obtain ⟨w1,hw1⟩:=xq (w0.alloc (.cells #[.int .i64 u.kind,.int .i64 u.sq,.int .u32 u.n,.int .u32 u.ps,.int .u32 u.mr,.slice u.lA u.ln u.lc,.bool u.self,.string u.data] 49))
  obtain ⟨r4,hr4⟩:=xq w0.heap.size
  have HF1:Hid (Fresh w0 w1):=by rw [hw1];exact (Touch.refl _ _).alloc _
  have HFW1:Hid (Fresh w w1):=HF0.out.trans HF1.out (fun _ _ e=>e)
  have HB4:Hid (Blk w1 r4 49 [.int .i64 u.kind,.int .i64 u.sq,.int .u32 u.n,.int .u32 u.ps,.int .u32 u.mr,.slice u.lA u.ln u.lc,.bool u.self,.string u.data]):=by rw [hw1,hr4];exact Blk.new w0 _ _
  have e15:=HC15.out w1 HFW1.out
  have n3:¬ n=r4:=by have:=HZ0.out;have:=HR2.out;omega
  have n4:¬ r4=n:=by have:=HZ0.out;have:=HR2.out;omega
  have n5:¬ r2=r4:=by have:=HZ0.out;have:=HR2.out;omega
  have n6:¬ r4=r2:=by have:=HZ0.out;have:=HR2.out;omega
  rw [<- hw1,<- hr4]
  clear hw1 hr4 d0 d1 d2 d3 d4 d5 d6 d7 d15
  go_wp2_with fail
  have HCL:=clonePdu_any _ _ r w1 (HS1.out w1 HFW1.out).rd (by rw [HN.out];omega)
  rw [HN.out] at HCL
  refine HCL.mono ?_
  rintro e w3 ⟨A3,c3,rfl,s3,f3,b3⟩
  have HF3:Hid (Fresh w0 w3):=HF1.out.trans f3 (fun _ _ e=>e)
  have HB4':=lh (f3.blk HB4.out (fun e=>e))
  have HB2':=lh (HF3.out.blk HB2.out (fun e=>e))
  obtain ⟨f15,hC⟩:=HCT.out w3 A3 c3 HF3.out s3 (fun ad e=>Nat.le_trans HF1.out.size (b3 ad e))
  have HC:=lh hC
  have l15:=HC15.out w3 (HF0.out.trans HF3.out (fun _ _ e=>e))
  clear s3 f3 b3 HCL e15 HB4 HB2 hC
  simp only
  go_upto_region 4 with (fail)
  obtain ⟨w4,hw4⟩:=xq (w3.setCell ⟨n,15,none⟩ (.slice A3 N c3))
  have HI4:Hid (EndTo k D0 (lab D0 w0.heap.size (k+4)) w0 w4 n { x with ctl:=r }):=by rw [hw4];exact HC.out
  have HB6:Hid (Blk w4 r4 49 [.int .i64 u.kind,.int .i64 u.sq,.int .u32 u.n,.int .u32 u.ps,.int .u32 u.mr,.slice u.lA u.ln u.lc,.bool u.self,.string u.data]):=by rw [hw4];exact HB4'.out.far n4 _
  have HB5:Hid (Blk w4 r2 49 [.int .i64 0,.int .i64 0,.int .u32 0,.int .u32 0,.int .u32 0,.slice none 0 0,.bool false,.string { data:=#[] }]):=by rw [hw4];exact HB2'.out.far n2 _
  rw [<- hw4]
  clear hw4 l15 f15 HC
  obtain ⟨k0,k1,k2,k3,k4,k5,k6,k7⟩:=HB6.out.all8
  obtain ⟨j0,j1,j2,j3,j4,j5,j6,j7⟩:=HB5.out.all8
  obtain ⟨q0,q1,q2,q3,q4,q5,q6,q7⟩:=HB5.out.fz8
  have HBF:=lh (HB5.out.out8 (.int .i64 u.kind) (.int .i64 u.sq) (.int .u32 u.n) (.int .u32 u.ps) (.int .u32 u.mr) (.slice u.lA u.ln u.lc) (.bool u.self) (.string u.data))
  go_wp2
  obtain ⟨e0,e1,e2,e3,e4,e5,e6,e7⟩:=HBF.out.2.all8
  have HTT:=HBF.out.1
  have HQ:=HFIN.out ({ x with ctl:=r },some (u,[])) u _ _ _ true HI4.out (fun u0 l0 e0=>by injection e0 with e0;injection e0 with e0 e1;subst e0 e1;exact .inl ⟨rfl,rfl⟩) rfl HTT
  exact bodyPost_ret (v:=_) (by simp [results,Tryz.results39,go_sem,e0,e1,e2,e3,e4,e5,e6,e7];rfl) rfl HQ
theorem nnext_none (h:EndIn k D w n cn pc un sp rp A ca B cb x) (hc:x.ctl=[]) (hu:x.units=[]) (he:x.ep=none) :
  Calls Tryz.prog 39 #[.pointer (some ⟨n,0,none⟩)] w (NextPost k D w n (x,none)):=by
 obtain ⟨w0,r2,D0,hw0,hr2,HF0,HLAB,HDb,HB2,HR2,HZ0,H0,HFIN,hlt,n1,n2,HLR⟩:=next_pre h
 have c15:w0.cell? ⟨n,15,none⟩=some (.slice A 0 ca):=by
  have:=H0.out.b.1.cell 15
  rw [show (x.cells cn pc un sp rp A ca B cb)[15]?=some (.slice A x.ctl.length ca) from rfl,hc] at this
  exact this
 have c16:w0.cell? ⟨n,16,none⟩=some (.pointer (some ⟨un,0,none⟩)):=H0.out.b.1.cell 16
 obtain ⟨rb,hr,hdu,hdb⟩:=H0.out.u
 rw [hu] at hr
 have HTK:=lh (ringPdu_take0 un rb _ w0 hr)
 clear hr hdu hdb
 have HE:=lh he
 clear h hc hu he
 go_enter Tryz.func39,Tryz.ntmps39
 go_upto_region 1 with (fail)
 rw [<- hw0,<- hr2]
 clear hw0 hr2
 go_wp2_with fail
 refine HTK.out.mono ?_
 rintro e w3 ⟨rfl,f3⟩
 have HF3:=lh f3
 clear f3 HTK c15 c16
 simp only
 go_upto_region 6 with (fail)
 obtain ⟨w4,hw4⟩:=xq (w3.alloc (.cells #[.int .i64 0,.int .i64 0,.int .u32 0,.int .u32 0,.int .u32 0,.slice none 0 0,.bool false,.string ByteArray.empty] 49))
 have HF4:Hid (Fresh w0 w4):=by rw [hw4];exact HF3.out.alloc _
 have HB4:Hid (Blk w4 r2 49 [.int .i64 0,.int .i64 0,.int .u32 0,.int .u32 0,.int .u32 0,.slice none 0 0,.bool false,.string { data:=#[] }]):=HF4.out.blk HB2.out (fun e=>e)
 rw [<- hw4]
 clear hw4 HF3 HB2
 have HI4:=lh (H0.out.old (D':=D0) HF4.out (fun _ _=>rfl))
 have HRD:=lh (nready_any HI4.out)
 rw [HE.out] at HRD
 have HE4:Hid (EndTo k D0 D0 w0 w4 n x):=⟨⟨_,_,_,_,_,_,_,_,_,HI4.out⟩,⟨fun _ _=>rfl,HLR.out⟩,HF4.out.mono (fun _ _ e=>e.elim)⟩
 obtain ⟨j0,j1,j2,j3,j4,j5,j6,j7⟩:=HB4.out.all8
 obtain ⟨q0,q1,q2,q3,q4,q5,q6,q7⟩:=HB4.out.fz8
 have HBF:=lh (HB4.out.out8 (.int .i64 0) (.int .i64 0) (.int .u32 0) (.int .u32 0) (.int .u32 0) (.slice none 0 0) (.bool false) (.string { data:=#[] }))
 clear HE
 go_upto_region 9 with (go_at_call 22;(with_reducible refine HRD.out.mono ?_);rintro e w5 ⟨rfl,h5⟩;subst h5)
 go_wp2
 obtain ⟨e0,e1,e2,e3,e4,e5,e6,e7⟩:=HBF.out.2.all8
 have HTT:=HBF.out.1
 have HQ:=HFIN.out (x,none) (En.umsg 0 Cn.no) _ _ _ false HE4.out (fun _ _ e0=>nomatch e0) rfl HTT
 exact bodyPost_ret (v:=_) (by simp [results,Tryz.results39,go_sem,e0,e1,e2,e3,e4,e5,e6,e7];rfl) rfl HQ
end
set_option maxRecDepth 20000
section
variable {k:Nat} {D:Nat->Nat} {w:World} {n cn pc un:Nat} {sp rp:Option Nat} {A B:Option Addr} {ca cb:Nat} {x:En.X}
theorem nnext_stat (h:EndIn k D w n cn pc un sp rp A ca B cb x) (hc:x.ctl=[]) (hu:x.units=[]) {s:Sf.S} {r:Rf.S} (he:x.ep=some (s,r)) {lo hi:Int} (hro:Rf.Ok r lo hi) (hs:x.stat=true) :
  Calls Tryz.prog 39 #[.pointer (some ⟨n,0,none⟩)] w (NextPost k D w n ({ x with stat:=false,ep:=some (s,Rf.renew r) },some (En.numed 11 ((Rf.renew r).R%16777216) x.asked ((Rf.renew r).MR%16777216) Cn.no,En.pairs (Rf.renew r)))):=by
 obtain ⟨w0,r2,D0,hw0,hr2,HF0,HLAB,HDb,HB2,HR2,HZ0,H0,HFIN,hlt,n1,n2,HLR⟩:=next_pre h
 have c15:w0.cell? ⟨n,15,none⟩=some (.slice A 0 ca):=by
  have:=H0.out.b.1.cell 15
  rw [show (x.cells cn pc un sp rp A ca B cb)[15]?=some (.slice A x.ctl.length ca) from rfl,hc] at this
  exact this
 have c16:w0.cell? ⟨n,16,none⟩=some (.pointer (some ⟨un,0,none⟩)):=H0.out.b.1.cell 16
 obtain ⟨rb,hr,hdu,hdb⟩:=H0.out.u
 rw [hu] at hr
 have HTK:=lh (ringPdu_take0 un rb _ w0 hr)
 clear hr hdu hdb
 obtain ⟨p,q,rfl,rfl,-,-⟩:=h.ep_some he
 have HE:=lh he
 clear h hc hu he
 have HRO:=lh hro
 have HSX:=lh hs
 clear hro hs
 go_enter Tryz.func39,Tryz.ntmps39
 go_upto_region 1 with (fail)
 rw [<- hw0,<- hr2]
 clear hw0 hr2
 go_wp2_with fail
 refine HTK.out.mono ?_
 rintro e w3 ⟨rfl,f3⟩
 have HF3:=lh f3
 clear f3 HTK c15 c16
 simp only
 go_upto_region 6 with (fail)
 obtain ⟨w4,hw4⟩:=xq (w3.alloc (.cells #[.int .i64 0,.int .i64 0,.int .u32 0,.int .u32 0,.int .u32 0,.slice none 0 0,.bool false,.string ByteArray.empty] 49))
 have HF4:Hid (Fresh w0 w4):=by rw [hw4];exact HF3.out.alloc _
 have HB4:Hid (Blk w4 r2 49 [.int .i64 0,.int .i64 0,.int .u32 0,.int .u32 0,.int .u32 0,.slice none 0 0,.bool false,.string { data:=#[] }]):=HF4.out.blk HB2.out (fun e=>e)
 rw [<- hw4]
 clear hw4 HF3 HB2
 have HI4:=lh (H0.out.old (D':=D0) HF4.out (fun _ _=>rfl))
 have HRD:=lh (nready_any HI4.out)
 rw [HE.out] at HRD
 have c18:w4.cell? ⟨n,18,none⟩=some (.bool true):=by
  have:=HI4.out.b.1.cell 18
  rw [show (x.cells cn pc un (some p) (some q) A ca B cb)[18]?=some (.bool x.stat) from rfl,HSX.out] at this
  exact this
 have f18:=HI4.out.b.1.frozen 18
 go_upto_region 12 with (go_at_call 22;(with_reducible refine HRD.out.mono ?_);rintro e w5 ⟨rfl,h5⟩;subst h5)
 obtain ⟨w5,hw5⟩:=xq (w4.setCell ⟨n,18,none⟩ (.bool false))
 have HI5:Hid (EndIn k D0 w5 n cn pc un (some p) (some q) A ca B cb { x with stat:=false }):=by
  rw [hw5]
  have h0:=HI4.out
  exact h0.put (x':={ x with stat:=false }) 18 (.bool false) rfl rfl ⟨rfl,rfl⟩ rfl h0.l h0.f h0.e
 have HT5:Hid (Touch (All D0 k) w0 w5):=by rw [hw5];exact (HF4.out.mono (fun _ _ e=>e.elim)).st HI4.out.own
 have HB5:Hid (Blk w5 r2 49 [.int .i64 0,.int .i64 0,.int .u32 0,.int .u32 0,.int .u32 0,.slice none 0 0,.bool false,.string { data:=#[] }]):=by rw [hw5];exact HB4.out.far n2 _
 rw [<- hw5]
 clear hw5 c18 f18 HI4 HF4 HB4
 obtain ⟨-,⟨Fr,hr,hFr⟩⟩:=PE.snd (by have:=HI5.out.e;rw [show ({ x with stat:=false }:En.X).ep=some (s,r) from HE.out] at this;exact this)
 have HFR:=lh hFr
 have c14:w5.cell? ⟨n,14,none⟩=some (.pointer (some ⟨q,0,none⟩)):=HI5.out.b.1.cell 14
 have HST:=lh (rstat_any q Fr _ w5 hr (by rw [HRO.out.dist];have:=HRO.out.hm;have:=HRO.out.sum;have:=HRO.out.win;omega) (by show 0<=r.window/\r.window<=64;have:=HRO.out.win;omega) (by show r.inbox.length<=1000000;have:=HRO.out.hm;have:=HRO.out.rh;have:=HRO.out.sum;have:=HRO.out.win;omega))
 clear hr hFr
 have HLS:Hid (Lab k D0 (lab D0 w5.heap.size (k+8)) w0.heap.size):=⟨fun b hb=>lab_old (Nat.lt_of_lt_of_le hb HT5.out.size),fun b hb=>by
  unfold lab
  split
  ·exact HLR.out b hb
  ·omega⟩
 have HS9:Hid (∀ w6,RecvAt w6 q Fr (Rv.renew (Rf.prog r))->Touch Fr w5 w6->EndTo k D0 (lab D0 w5.heap.size (k+8)) w0 w6 n { x with stat:=false,ep:=some (s,Rf.renew r) }/\Blk w6 r2 49 [.int .i64 0,.int .i64 0,.int .u32 0,.int .u32 0,.int .u32 0,.slice none 0 0,.bool false,.string { data:=#[] }]/\w6.cell? ⟨n,19,none⟩=some (.int .u32 x.asked)):=fun w6 h1 h2=>by
  rw [HRO.out.renew.1] at h1
  have h3:=HI5.out.recvd (D':=lab D0 w5.heap.size (k+8)) (r':=Rf.renew r) HE.out rfl ⟨Fr,h1,fun b hb=>⟨by rw [lab_old (HFR.out b hb).2];exact (HFR.out b hb).1,Nat.lt_of_lt_of_le (HFR.out b hb).2 h2.size⟩⟩ h2 (fun b hb=>(HFR.out b hb).1) (fun b hb=>lab_old hb)
  exact ⟨⟨⟨_,_,_,_,_,_,_,_,_,h3⟩,HLS.out,HT5.out.trans h2 (fun b hb e=>by have:=(HFR.out b e).1;unfold All;omega)⟩,h2.blk HB5.out (fun e=>by have:=(HFR.out _ e).1;have:=HDb.out;omega),h3.b.1.cell 19⟩
 go_wp2_with fail
 refine HST.out.mono ?_
 rintro e w6 ⟨G,d,S,rfl,h1,h2,h3,h4,h5⟩
 obtain ⟨g1,g2,c19⟩:=HS9.out w6 h1 h2
 have HE6:=lh g1
 have HB6:=lh g2
 have HSL:Hid (Sl numE w6 G d (En.pairs (Rf.renew r))/\(∀ ad,G=some ad->w0.heap.size<=ad.block/\lab D0 w5.heap.size (k+8) ad.block=k+8)/\(En.pairs (Rf.renew r)).length=(Gp.gl (Rf.prog r).r S).length):=by
  have e0:En.pairs (Rf.renew r)=Gp.gl (Rf.prog r).r S:=by
   unfold En.pairs
   rw [En.spans_eq HRO.out h5]
   rfl
  rw [e0]
  exact ⟨h3,fun ad e=>⟨Nat.le_trans HT5.out.size (h4 ad e),lab_new (h4 ad e)⟩,rfl⟩
 have HMR:Hid ((Rv.renew (Rf.prog r)).mr=(Rf.renew r).MR%16777216):=by show _=_;rw [HRO.out.renew.1];rfl
 clear h1 h2 h3 h4 h5 g1 g2 HST HS9 c14 HI5 HB5
 generalize hgl:(Gp.gl (Rf.prog r).r S).length=L at *
 rw [HMR.out]
 clear HMR hgl
 simp only
 have HY:Hid ((Rf.renew r).R%16777216=(Rf.prog r).r):=rfl
 generalize Rf.prog r=pr at *
 obtain ⟨j0,j1,j2,j3,j4,j5,j6,j7⟩:=HB6.out.all8
 obtain ⟨q0,q1,q2,q3,q4,q5,q6,q7⟩:=HB6.out.fz8
 have HBF:=lh (HB6.out.out8 (.int .i64 11) (.int .i64 0) (.int .u32 pr.r) (.int .u32 x.asked) (.int .u32 ((Rf.renew r).MR%16777216)) (.slice G L d) (.bool false) (.string { data:=#[] }))
 go_wp2
 obtain ⟨e0,e1,e2,e3,e4,e5,e6,e7⟩:=HBF.out.2.all8
 have HTT:=HBF.out.1
 have HQ:=HFIN.out (_,some (En.numed 11 ((Rf.renew r).R%16777216) x.asked ((Rf.renew r).MR%16777216) Cn.no,En.pairs (Rf.renew r))) ⟨11,0,pr.r,x.asked,(Rf.renew r).MR%16777216,G,L,d,false,Cn.no⟩ _ _ _ true HE6.out (fun u0 l0 e0=>by
   injection e0 with e0
   injection e0 with e0 e1
   subst e0 e1
   rw [HY.out]
   obtain ⟨h1,h2,h3⟩:=HSL.out
   exact .inr ⟨G,d,by rw [h3];rfl,h1,h2,by show (11:Int)<=11;decide⟩) rfl HTT
 exact bodyPost_ret (v:=_) (by simp [results,Tryz.results39,go_sem,e0,e1,e2,e3,e4,e5,e6,e7];rfl) rfl HQ
end
set_option maxRecDepth 20000
def RGapNo (w:World) (q:Nat) (F:Nat->Prop) (r:Rf.S) (e:Ending) (w':World):Prop:=∃ B d,e=.returned (.tuple #[.slice B 0 d,.int .u32 0,.int .u32 0,.bool false])/\RecvAt w' q F (Rf.prog r)/\Touch F w w'
def SNext (w:World) (p:Nat) (F:Nat->Prop) (s:Sf.S) (e:Ending) (w':World):Prop:=e=.returned (.tuple #[.int .u32 ((Sf.next s).2.1%16777216),.string (Sf.next s).2.2.1,.bool (Sf.next s).2.2.2.1,.bool (Sf.next s).2.2.2.2])/\SendAt w' p (Grown F w) (Sf.prog (Sf.next s).1)/\Touch F w w'
section
variable {k:Nat} {D:Nat->Nat} {w:World} {n cn pc un:Nat} {sp rp:Option Nat} {A B:Option Addr} {ca cb:Nat} {x:En.X}
theorem nnext_rest_of (h:EndIn k D w n cn pc un sp rp A ca B cb x) (hc:x.ctl=[]) (hu:x.units=[]) {s:Sf.S} {r:Rf.S} (he:x.ep=some (s,r)) {lo2 hi2:Int} (hso:Sf.Ok s lo2 hi2) (hs:x.stat=false) (HGp:∀ q F W,RecvAt W q F (Rf.prog r)->Calls Tryz.prog 80 #[.pointer (some ⟨q,0,none⟩)] W (RGapNo W q F (Rf.gap r).1)) (HNp:∀ p F W,SendAt W p F (Sf.prog s)->Calls Tryz.prog 85 #[.pointer (some ⟨p,0,none⟩)] W (SNext W p F s)) :
  Calls Tryz.prog 39 #[.pointer (some ⟨n,0,none⟩)] w (NextPost k D w n (if (x.poll || decide (s.polls<=s.units))=true then ({ x with poll:=false,ep:=some (Sf.poll s,(Rf.gap r).1),tm:=Pc.polled x.tm x.c.poll x.c.keep x.c.silent (En.sIdle s) },some (En.numed 10 (s.s%16777216) ((s.ps+1)%16777216) 0 Cn.no,[])) else ({ x with ep:=some ((Sf.next s).1,(Rf.gap r).1) },if (Sf.next s).2.2.2.2 then some (En.numed 8 ((Sf.next s).2.1%16777216) 0 0 (Sf.next s).2.2.1,[]) else none))):=by
 obtain ⟨r',hr'⟩:∃ r',r'=(Rf.gap r).1:=⟨_,rfl⟩
 rw [<- hr']
 have HRR:=lh hr'
 clear hr'
 obtain ⟨Y,hY⟩:=xq ((if (x.poll || decide (s.polls<=s.units))=true then ({ x with poll:=false,ep:=some (Sf.poll s,r'),tm:=Pc.polled x.tm x.c.poll x.c.keep x.c.silent (En.sIdle s) },some (En.numed 10 (s.s%16777216) ((s.ps+1)%16777216) 0 Cn.no,[])) else ({ x with ep:=some ((Sf.next s).1,r') },if (Sf.next s).2.2.2.2 then some (En.numed 8 ((Sf.next s).2.1%16777216) 0 0 (Sf.next s).2.2.1,[]) else none)))
 rw [<- hY]
 have HY:=lh hY
 clear hY
 obtain ⟨w0,r2,D0,hw0,hr2,HF0,HLAB,HDb,HB2,HR2,HZ0,H0,HFIN,hlt,n1,n2,HLR⟩:=next_pre h
 have c15:w0.cell? ⟨n,15,none⟩=some (.slice A 0 ca):=by
  have:=H0.out.b.1.cell 15
  rw [show (x.cells cn pc un sp rp A ca B cb)[15]?=some (.slice A x.ctl.length ca) from rfl,hc] at this
  exact this
 have c16:w0.cell? ⟨n,16,none⟩=some (.pointer (some ⟨un,0,none⟩)):=H0.out.b.1.cell 16
 obtain ⟨rb,hr,hdu,hdb⟩:=H0.out.u
 rw [hu] at hr
 have HTK:=lh (ringPdu_take0 un rb _ w0 hr)
 clear hr hdu hdb
 obtain ⟨p,q,rfl,rfl,-,-⟩:=h.ep_some he
 have HE:=lh he
 clear h hc hu he
 have HSX:=lh hs
 have HSO:=lh hso
 clear hs hso
 go_enter Tryz.func39,Tryz.ntmps39
 go_upto_region 1 with (fail)
 rw [<- hw0,<- hr2]
 clear hw0 hr2
 go_wp2_with fail
 refine HTK.out.mono ?_
 rintro e w3 ⟨rfl,f3⟩
 have HF3:=lh f3
 clear f3 HTK c15 c16
 simp only
 go_upto_region 6 with (fail)
 obtain ⟨w4,hw4⟩:=xq (w3.alloc (.cells #[.int .i64 0,.int .i64 0,.int .u32 0,.int .u32 0,.int .u32 0,.slice none 0 0,.bool false,.string ByteArray.empty] 49))
 have HF4:Hid (Fresh w0 w4):=by rw [hw4];exact HF3.out.alloc _
 have HB4:Hid (Blk w4 r2 49 [.int .i64 0,.int .i64 0,.int .u32 0,.int .u32 0,.int .u32 0,.slice none 0 0,.bool false,.string { data:=#[] }]):=HF4.out.blk HB2.out (fun e=>e)
 rw [<- hw4]
 clear hw4 HF3 HB2
 have HI4:=lh (H0.out.old (D':=D0) HF4.out (fun _ _=>rfl))
 have HRD:=lh (nready_any HI4.out)
 rw [HE.out] at HRD
 have c18:w4.cell? ⟨n,18,none⟩=some (.bool false):=by
  have:=HI4.out.b.1.cell 18
  rw [show (x.cells cn pc un (some p) (some q) A ca B cb)[18]?=some (.bool x.stat) from rfl,HSX.out] at this
  exact this
 have c14:w4.cell? ⟨n,14,none⟩=some (.pointer (some ⟨q,0,none⟩)):=HI4.out.b.1.cell 14
 obtain ⟨-,⟨Fr,hr,hFr⟩⟩:=PE.snd (by have:=HI4.out.e;rw [HE.out] at this;exact this)
 have HFR:=lh hFr
 have HGP:=lh (HGp q Fr w4 hr)
 clear hr hFr
 have HLS:Hid (Lab k D0 (lab D0 w4.heap.size (k+8)) w0.heap.size):=⟨fun b hb=>lab_old (Nat.lt_of_lt_of_le hb HF4.out.size),fun b hb=>by
  unfold lab
  split
  ·exact HLR.out b hb
  ·omega⟩
 have HS9:Hid (∀ w6 r',RecvAt w6 q Fr (Rf.prog r')->Touch Fr w4 w6->EndIn k (lab D0 w4.heap.size (k+8)) w6 n cn pc un (some p) (some q) A ca B cb { x with ep:=some (s,r') }/\Touch (All D0 k) w0 w6/\Blk w6 r2 49 [.int .i64 0,.int .i64 0,.int .u32 0,.int .u32 0,.int .u32 0,.slice none 0 0,.bool false,.string { data:=#[] }]):=fun w6 r' h1 h2=>by
  have h3:=HI4.out.recvd (D':=lab D0 w4.heap.size (k+8)) (r':=r') HE.out rfl ⟨Fr,h1,fun b hb=>⟨by rw [lab_old (HFR.out b hb).2];exact (HFR.out b hb).1,Nat.lt_of_lt_of_le (HFR.out b hb).2 h2.size⟩⟩ h2 (fun b hb=>(HFR.out b hb).1) (fun b hb=>lab_old hb)
  exact ⟨h3,(HF4.out.mono (fun _ _ e=>e.elim)).trans h2 (fun b hb e=>by have:=(HFR.out b e).1;unfold All;omega),h2.blk HB4.out (fun e=>by have:=(HFR.out _ e).1;have:=HDb.out;omega)⟩
 go_upto_region 14 with (go_at_call 22;(with_reducible refine HRD.out.mono ?_);rintro e w5 ⟨rfl,h5⟩;subst h5)
 go_wp2_with fail
 refine HGP.out.mono ?_
 rintro e w6 ⟨G,d,rfl,h2,h3⟩
 obtain ⟨g1,g2,g3⟩:=HS9.out w6 _ h2 h3
 have HI6:=lh g1
 have HT6:=lh g2
 have HB6:=lh g3
 clear h2 h3 g1 g2 g3 HGP HS9 c14 c18 HI4 HB4
 simp only
 obtain ⟨DG,hDG⟩:=xq (lab D0 w4.heap.size (k+8))
 rw [<- hDG] at HI6 HLS
 clear hDG
 rw [<- HRR.out] at HI6
 clear HRR
 obtain ⟨⟨Fs,hs,hFs⟩,-⟩:=PE.snd (show PE k DG w6 (some p) (some q) (some (s,r')) from HI6.out.e)
 have HSS:=lh hs
 have HFS:=lh hFs
 clear hs hFs
 have HDU:Hid (Calls Tryz.prog 81 #[.pointer (some ⟨p,0,none⟩)] w6 fun e w'=>e=.returned (.bool (decide (s.polls<=s.units)))/\∃ n,w'=w6.drewN n):=sdue_any p Fs _ w6 HSS.out
 have c13:w6.cell? ⟨n,13,none⟩=some (.pointer (some ⟨p,0,none⟩)):=HI6.out.b.1.cell 13
 have c17:w6.cell? ⟨n,17,none⟩=some (.bool x.poll):=HI6.out.b.1.cell 17
 obtain ⟨pl,hpl⟩:=qx x.poll
 rw [hpl] at c17
 obtain ⟨pv,hpv⟩:=qx ((pl || decide (s.polls<=s.units)))
 have HPP:=lh hpv
 have HYP:Hid (Y=if pv=true then ({ x with poll:=false,ep:=some (Sf.poll s,r'),tm:=Pc.polled x.tm x.c.poll x.c.keep x.c.silent (En.sIdle s) },some (En.numed 10 (s.s%16777216) ((s.ps+1)%16777216) 0 Cn.no,[])) else ({ x with ep:=some ((Sf.next s).1,r') },if (Sf.next s).2.2.2.2 then some (En.numed 8 ((Sf.next s).2.1%16777216) 0 0 (Sf.next s).2.2.1,[]) else none)):=by show _=_;rw [HY.out,hpl,hpv]
 clear hpl hpv HY
 go_upto_region 17 with (fail)
 go_cut [106] (fun v wx=>v=.bool pv/\Hid (Fresh w6 wx))
 case first =>
  obtain ⟨du,hdu⟩:=qx (decide (s.polls<=s.units))
  rw [hdu] at HDU HPP
  clear hdu
  have HB:Hid ((pl || du)=pv):=HPP.out
  clear HPP
  cases pl
  all_goals
   go_wp2_with (go_at_call 81;(with_reducible refine HDU.out.mono ?_);rintro e w7 ⟨rfl,m,hm⟩;have F7:Hid (Fresh w6 w7):=(by rw [hm];exact (Touch.refl _ _).drewN m);clear hm)
   go_meet
   case rel=>first | exact ⟨congrArg Value.bool HB.out,F7⟩ | exact ⟨congrArg Value.bool HB.out,Touch.refl _ _⟩ | (refine ⟨?_,F7⟩;have:=HB.out;simpa using this) | (refine ⟨?_,Touch.refl _ _⟩;have:=HB.out;simpa using this)
 case rest =>
  obtain ⟨rfl,HF7⟩:=hcut
  have HI7:=lh (HI6.out.old HF7.out (fun _ _=>rfl))
  have HT7:Hid (Touch (All D0 k) w0 wc):=HT6.out.trans HF7.out (fun _ _ e=>e.elim)
  have HB7:=lh (HF7.out.blk HB6.out (fun e=>e))
  have HS7:=lh (HSS.out.old HF7.out)
  have hsz:=HF7.out.size
  have HFS7:Hid (∀ b,Fs b->DG b=k+5/\b<wc.heap.size):=fun b hb=>⟨(HFS.out b hb).1,Nat.lt_of_lt_of_le (HFS.out b hb).2 hsz⟩
  clear HPP HDU c13 c17 HI6 HT6 HB6 HSS HFS HF7 hsz
  generalize wc=w7 at *
  have c13:w7.cell? ⟨n,13,none⟩=some (.pointer (some ⟨p,0,none⟩)):=HI7.out.b.1.cell 13
  have HLU:Hid (∀ (W:World) i,i<=8->Touch (All D0 k) w0 W->Lab k D0 (lab DG W.heap.size (k+i)) w0.heap.size):=fun W i hi hW=>⟨fun b hb=>by rw [lab_old (Nat.lt_of_lt_of_le hb hW.size)];exact HLS.out.1 b hb,fun b hb=>by
   unfold lab
   split
   ·exact HLS.out.2 b hb
   ·omega⟩
  cases pv
  case false =>
   have HNX:=lh (HNp p Fs w7 HS7.out)
   unfold SNext at HNX
   have HS9:Hid (∀ w9,SendAt w9 p (Grown Fs w7) (Sf.prog (Sf.next s).1)->Touch Fs w7 w9->EndTo k D0 (lab DG w7.heap.size (k+5)) w0 w9 n { x with ep:=some ((Sf.next s).1,r') }/\Blk w9 r2 49 [.int .i64 0,.int .i64 0,.int .u32 0,.int .u32 0,.int .u32 0,.slice none 0 0,.bool false,.string { data:=#[] }]):=fun w9 h1 h2 =>
    ⟨⟨⟨_,_,_,_,_,_,_,_,_,HI7.out.sent (D':=lab DG w7.heap.size (k+5)) (s:=s) (r:=r') rfl rfl (PS.up HFS7.out h1) h2 (fun b hb=>(HFS7.out b hb).1) (fun b hb=>lab_old hb)⟩,HLU.out _ 5 (by omega) HT7.out,HT7.out.trans h2 (fun b hb e=>by have h3:=(HFS7.out b e).1;rw [HLS.out.1 b hb] at h3;unfold All;omega)⟩,h2.blk HB7.out (fun e=>by have h3:=(HFS7.out _ e).1;rw [HLS.out.1 _ (by have:=HZ0.out;omega)] at h3;have:=HDb.out;omega)⟩
   clear HI7 HT7 HS7
   have HY2:Hid (Y=({ x with ep:=some ((Sf.next s).1,r') },if (Sf.next s).2.2.2.2 then some (En.numed 8 ((Sf.next s).2.1%16777216) 0 0 (Sf.next s).2.2.1,[]) else none)):=HYP.out.trans rfl
   clear HYP
   generalize Sf.next s=nx at *
   obtain ⟨s',nn,mm,nw,ok⟩:=nx
   go_upto_region 23 with (go_at_call 85;(with_reducible refine HNX.out.mono ?_);rintro e w9 ⟨rfl,h1,h2⟩;obtain ⟨g1,g2⟩:=HS9.out w9 h1 h2;have HE9:=lh g1;have HB9:=lh g2;clear h1 h2 g1 g2 HNX HS9 HB7 c13)
   cases ok
   case true =>
    have hy:Y=({ x with ep:=some (s',r') },some (En.numed 8 (nn%16777216) 0 0 mm,[])):=HY2.out.trans rfl
    have HY3:=lh hy
    clear hy HY2
    obtain ⟨j0,j1,j2,j3,j4,j5,j6,j7⟩:=HB9.out.all8
    obtain ⟨q0,q1,q2,q3,q4,q5,q6,q7⟩:=HB9.out.fz8
    have HBF:=lh (HB9.out.out8 (.int .i64 8) (.int .i64 0) (.int .u32 (nn%16777216)) (.int .u32 0) (.int .u32 0) (.slice none 0 0) (.bool false) (.string mm))
    go_wp2
    obtain ⟨e0,e1,e2,e3,e4,e5,e6,e7⟩:=HBF.out.2.all8
    have HTT:=HBF.out.1
    have HQ:=HFIN.out ({ x with ep:=some (s',r') },some (En.numed 8 (nn%16777216) 0 0 mm,[])) (En.numed 8 (nn%16777216) 0 0 mm) _ _ _ true HE9.out (fun u0 l0 e0=>by
     injection e0 with e0
     injection e0 with e0 e1
     subst e0 e1
     exact .inl ⟨rfl,rfl⟩) rfl HTT
    exact bodyPost_ret (v:=_) (by simp [results,Tryz.results39,go_sem,e0,e1,e2,e3,e4,e5,e6,e7];rfl) rfl (by rw [HY3.out];exact HQ)
   case false =>
    have hy:Y=({ x with ep:=some (s',r') },none):=HY2.out.trans rfl
    have HY3:=lh hy
    clear hy HY2
    obtain ⟨j0,j1,j2,j3,j4,j5,j6,j7⟩:=HB9.out.all8
    obtain ⟨q0,q1,q2,q3,q4,q5,q6,q7⟩:=HB9.out.fz8
    have HBF:=lh (HB9.out.out8 (.int .i64 0) (.int .i64 0) (.int .u32 0) (.int .u32 0) (.int .u32 0) (.slice none 0 0) (.bool false) (.string { data:=#[] }))
    go_wp2
    obtain ⟨e0,e1,e2,e3,e4,e5,e6,e7⟩:=HBF.out.2.all8
    have HTT:=HBF.out.1
    have HQ:=HFIN.out ({ x with ep:=some (s',r') },none) (En.umsg 0 Cn.no) _ _ _ false HE9.out (fun _ _ e0=>nomatch e0) rfl HTT
    exact bodyPost_ret (v:=_) (by simp [results,Tryz.results39,go_sem,e0,e1,e2,e3,e4,e5,e6,e7];rfl) rfl (by rw [HY3.out];exact HQ)
  case true =>
   have HY2:Hid (Y=({ x with poll:=false,ep:=some (Sf.poll s,r'),tm:=Pc.polled x.tm x.c.poll x.c.keep x.c.silent (En.sIdle s) },some (En.numed 10 (s.s%16777216) ((s.ps+1)%16777216) 0 Cn.no,[]))):=HYP.out.trans rfl
   clear HYP
   have c17:w7.cell? ⟨n,17,none⟩=some (.bool x.poll):=HI7.out.b.1.cell 17
   have f17:=HI7.out.b.1.frozen 17
   go_upto_region 19 with (fail)
   obtain ⟨w8,hw8⟩:=xq (w7.setCell ⟨n,17,none⟩ (.bool false))
   have HI8:Hid (EndIn k DG w8 n cn pc un (some p) (some q) A ca B cb { x with poll:=false,ep:=some (s,r') }):=by
    rw [hw8]
    have h0:=HI7.out
    exact h0.put (x':={ x with poll:=false,ep:=some (s,r') }) 17 (.bool false) rfl rfl ⟨rfl,rfl⟩ rfl h0.l h0.f h0.e
   have HT8:Hid (Touch (All D0 k) w0 w8):=by rw [hw8];exact HT7.out.trans ((Touch.refl (· = n) w7).st rfl) (fun b hb e=>by have e:b=n:=e;subst e;have:=H0.out.own;unfold All;exact this)
   have HB8:Hid (Blk w8 r2 49 [.int .i64 0,.int .i64 0,.int .u32 0,.int .u32 0,.int .u32 0,.slice none 0 0,.bool false,.string { data:=#[] }]):=by rw [hw8];exact HB7.out.far n2 _
   have HS8:Hid (SendAt w8 p Fs (Sf.prog s)):=by
    rw [hw8]
    exact HS7.out.touch ((Touch.refl (· = n) w7).st rfl) (fun b hb _ e=>by have e:b=n:=e;subst e;have:=(HFS7.out b hb).1;have:=HI7.out.b.2;omega)
   have HFS8:Hid (∀ b,Fs b->DG b=k+5/\b<w8.heap.size):=fun b hb=>by rw [hw8];have:=HFS7.out b hb;simpa using this
   rw [<- hw8]
   clear hw8 c17 f17 c13 HI7 HT7 HB7 HS7 HFS7
   have HPO:=lh (spoll_any p Fs _ w8 HS8.out)
   have c13:w8.cell? ⟨n,13,none⟩=some (.pointer (some ⟨p,0,none⟩)):=HI8.out.b.1.cell 13
   have HS9:Hid (∀ w9,SendAt w9 p Fs (Sf.prog (Sf.poll s))->Touch Fs w8 w9->EndIn k DG w9 n cn pc un (some p) (some q) A ca B cb { x with poll:=false,ep:=some (Sf.poll s,r') }/\Touch (All D0 k) w0 w9/\Blk w9 r2 49 [.int .i64 0,.int .i64 0,.int .u32 0,.int .u32 0,.int .u32 0,.slice none 0 0,.bool false,.string { data:=#[] }]):=fun w9 h1 h2 =>
    ⟨HI8.out.sent (D':=DG) (s:=s) (r:=r') rfl rfl ⟨Fs,h1,fun b hb=>⟨(HFS8.out b hb).1,Nat.lt_of_lt_of_le (HFS8.out b hb).2 h2.size⟩⟩ h2 (fun b hb=>(HFS8.out b hb).1) (fun _ _=>rfl),HT8.out.trans h2 (fun b hb e=>by have h3:=(HFS8.out b e).1;rw [HLS.out.1 b hb] at h3;unfold All;omega),h2.blk HB8.out (fun e=>by have h3:=(HFS8.out _ e).1;rw [HLS.out.1 _ (by have:=HZ0.out;omega)] at h3;have:=HDb.out;omega)⟩
   clear HS8
   go_upto_region 20 with (go_at_call 82;(with_reducible refine HPO.out.mono ?_);rintro e w9 ⟨rfl,h1,h2⟩;rw [Sf.prog_poll] at h1;obtain ⟨g1,g2,g3⟩:=HS9.out w9 h1 h2;have HI9:=lh g1;have HT9:=lh g2;have HB9:=lh g3;clear h1 h2 g1 g2 g3)
   clear c13 HPO HS9 HI8 HT8 HB8 HFS8
   have HPC:=lh HI9.out.p.1
   have KP:Hid (∀ wx,Touch (· = pc) w9 wx->wx.cell? ⟨n,12,none⟩=some (.pointer (some ⟨pc,0,none⟩))):=fun wx hW=>(hW.blk HI9.out.b.1 (fun e=>by have e:n=pc:=e;have:=HI9.out.p.2;have:=HI9.out.b.2;rw [e] at this;omega)).cell 12
   have a12:=KP.out w9 (Touch.refl _ _)
   have HOKL:Hid (s.last.length=s.kept.length):=HSO.out.llen
   have HIDQ:Hid (∀ W,Fresh w9 W->Calls Tryz.prog 84 #[.pointer (some ⟨n,0,none⟩)] W fun e w'=>e=.returned (.bool (En.sIdle s))/\Fresh W w'):=fun W hW=>by
    have hq:∀ b,b<w9.heap.size->DG b=DG b:=fun _ _=>rfl
    refine (nidle_any (HI9.out.old hW hq) (fun e he=>by injection he with he;subst he;exact HOKL.out)).mono ?_
    rintro e w' ⟨h1,m2,h2⟩
    exact ⟨h1,by rw [h2];exact (Touch.refl _ _).drewN m2⟩
   have HAN:Hid (∀ W,Fresh w9 W->Calls Tryz.prog 83 #[.pointer (some ⟨pc,0,none⟩),.bool (En.sIdle s)] W fun e w'=>e=.returned (.tuple #[])/\Pk w' pc (Pc.polled x.tm x.c.poll x.c.keep x.c.silent (En.sIdle s)) x.c.cc x.c.poll x.c.keep x.c.silent x.c.idle/\Touch (· = pc) W w'):=fun W hW=>polled_any _ _ _ _ _ _ _ _ _ (Bk.touch HPC.out hW (fun e=>e))
   have FD:Fresh w9 w9.drew:=(Touch.refl _ _).drew
   go_region_held3 (fun wx=>wx.cell? ⟨n,12,none⟩=some (.pointer (some ⟨pc,0,none⟩)))
    ((with_reducible refine KP.out _ ?_;first | with_reducible assumption | exact FD.mono (fun _ _ e=>e.elim) | exact FI.mono (fun _ _ e=>e.elim)))
    (first
     |(go_simp;go_at_call 84;(with_reducible refine (HIDQ.out _ FD).mono ?_);rintro e w10 ⟨rfl,f2⟩
       have FI:Fresh w9 w10:=FD.trans f2 (fun _ _ e=>e)
       have FJ:Touch (· = pc) w9 w10:=FI.mono (fun _ _ e=>e.elim))
     |(go_simp;go_at_call 83;(with_reducible refine (HAN.out _ FI).mono ?_);rintro e w11 ⟨rfl,p3,t3⟩
       have FT:Touch (· = pc) w9 w11:=(FI.mono (fun _ _ e=>e.elim)).trans t3 (fun _ _ e=>e)))
   have HDP:Hid (DG pc=k+2):=HI9.out.p.2
   have HE11:Hid (EndTo k D0 DG w0 w11 n { x with poll:=false,ep:=some (Sf.poll s,r'),tm:=Pc.polled x.tm x.c.poll x.c.keep x.c.silent (En.sIdle s) }):=⟨⟨_,_,_,_,_,_,_,_,_,HI9.out.paced (D':=DG) p3 FT (fun b hb=>by subst hb;exact HDP.out) (fun _ _=>rfl)⟩,HLS.out,HT9.out.trans FT (fun b hb e=>by have e:b=pc:=e;subst e;have h3:=HDP.out;rw [HLS.out.1 _ hb] at h3;unfold All;omega)⟩
   have HB11:Hid (Blk w11 r2 49 [.int .i64 0,.int .i64 0,.int .u32 0,.int .u32 0,.int .u32 0,.slice none 0 0,.bool false,.string { data:=#[] }]):=FT.blk HB9.out (fun e=>by have e:r2=pc:=e;have h3:=HDP.out;rw [<- e,HLS.out.1 _ (by have:=HZ0.out;omega)] at h3;have:=HDb.out;omega)
   clear FT FI FJ FD f2 p3 t3 KP HIDQ HAN a12 HPC HI9 HT9 HB9
   obtain ⟨j0,j1,j2,j3,j4,j5,j6,j7⟩:=HB11.out.all8
   obtain ⟨q0,q1,q2,q3,q4,q5,q6,q7⟩:=HB11.out.fz8
   have HBF:=lh (HB11.out.out8 (.int .i64 10) (.int .i64 0) (.int .u32 (Sf.prog s).s) (.int .u32 (((Sf.prog s).ps+1)%16777216)) (.int .u32 0) (.slice none 0 0) (.bool false) (.string { data:=#[] }))
   have HV:Hid ((s.ps+1)%16777216=((Sf.prog s).ps+1)%16777216):=by show _=(s.ps%16777216+1)%16777216;omega
   have HV2:Hid (s.s%16777216=(Sf.prog s).s):=rfl
   generalize Sf.prog s=ps at *
   go_wp2
   obtain ⟨e0,e1,e2,e3,e4,e5,e6,e7⟩:=HBF.out.2.all8
   have HTT:=HBF.out.1
   have HQ:=HFIN.out (_,some (En.numed 10 (s.s%16777216) ((s.ps+1)%16777216) 0 Cn.no,[])) ⟨10,0,ps.s,(ps.ps+1)%16777216,0,none,0,0,false,Cn.no⟩ _ _ _ true HE11.out (fun u0 l0 e0=>by
    injection e0 with e0
    injection e0 with e0 e1
    subst e0 e1
    exact .inl ⟨by rw [HV.out,HV2.out];rfl,rfl⟩) rfl HTT
   exact bodyPost_ret (v:=_) (by simp [results,Tryz.results39,go_sem,e0,e1,e2,e3,e4,e5,e6,e7];rfl) rfl (by rw [HY2.out];exact HQ)
theorem rgap_none (p:Nat) (F:Nat->Prop) (st:Rv.S) (w:World) (h:RecvAt w p F st) (hg:st.gaps=[]) :
  Calls Tryz.prog 80 #[.pointer (some ⟨p,0,none⟩)] w fun e w'=>e=.returned (.tuple #[.slice none 0 0,.int .u32 0,.int .u32 0,.bool false])/\w'=w:=by
 obtain ⟨k,A,c,G,d,i1,hF,hL⟩:=h
 have c6:w.cell? ⟨p,6,none⟩=some (.slice G 0 d):=by have:=i1.blk.cell 6;rw [show (recvCells k A c G d st)[6]?=some (.slice G st.gaps.length d) from rfl,hg] at this;exact this
 clear i1 hF hL hg
 go_enter Tryz.func80,Tryz.ntmps80
 go_wp2_with fail
 go_loopw [6] (fun _ wr=>wr=w) (fun _ _=>0)
 case atStart=>rfl
 case round =>
  subst hrel
  go_wp2
  refine bodyPost_ret (results_tmp4r rfl _ _ _) rfl ?_
  exact ⟨rfl,rfl⟩
theorem nnext_calm (h:EndIn k D w n cn pc un sp rp A ca B cb x) (hc:x.ctl=[]) (hu:x.units=[]) {s:Sf.S} {r:Rf.S} (he:x.ep=some (s,r)) {lo2 hi2:Int} (hso:Sf.Ok s lo2 hi2) (hs:x.stat=false) (hg:r.gaps=[]) (hl:∀ p F W,SendAt W p F (Sf.prog s)->Calls Tryz.prog 85 #[.pointer (some ⟨p,0,none⟩)] W (SNext W p F s)) :
  Calls Tryz.prog 39 #[.pointer (some ⟨n,0,none⟩)] w (NextPost k D w n (En.next x)):=by
 have h1:=nnext_rest_of h hc hu he hso hs (fun q F W hr=>(rgap_none q F _ W hr (by show Rf.pg r.gaps=[];rw [hg];rfl)).mono fun e w' hz=>by
  obtain ⟨rfl,rfl⟩:=hz
  refine ⟨none,0,rfl,?_,Touch.refl _ _⟩
  have e:(Rf.gap r).1=r:=by
   unfold Rf.gap
   rw [hg]
   unfold Rf.gapL
   cases r
   subst hg
   rfl
  rw [e]
  exact hr) hl
 have e:(Rf.gap r).2.2.2=false:=by
  unfold Rf.gap
  rw [hg]
  rfl
 have e2:En.next x=(if (x.poll || decide (s.polls<=s.units))=true then ({ x with poll:=false,ep:=some (Sf.poll s,(Rf.gap r).1),tm:=Pc.polled x.tm x.c.poll x.c.keep x.c.silent (En.sIdle s) },some (En.numed 10 (s.s%16777216) ((s.ps+1)%16777216) 0 Cn.no,[])) else ({ x with ep:=some ((Sf.next s).1,(Rf.gap r).1) },if (Sf.next s).2.2.2.2 then some (En.numed 8 ((Sf.next s).2.1%16777216) 0 0 (Sf.next s).2.2.1,[]) else none)):=by
  clear h h1
  obtain ⟨x0,x1,x2,x3,x4,x5,x6,x7,x8,x9,x10⟩:=x
  dsimp only at hc hu he hs
  subst hc hu he hs
  unfold En.next
  dsimp only
  rw [e]
  rfl
 rw [e2]
 exact h1
theorem snext_calm {s:Sf.S} (hw:s.wait=[]) (ha:s.again=[]) (p:Nat) (F:Nat->Prop) (W:World) (h:SendAt W p F (Sf.prog s)):Calls Tryz.prog 85 #[.pointer (some ⟨p,0,none⟩)] W (SNext W p F s):=by
 have hpa:(Sf.prog s).again=[]:=by show Sf.pa s.again=_;rw [ha];rfl
 have hn : Sf.next s = (s, 0, "".toUTF8, false, false) := by
  unfold Sf.next
  rw [ha]
  dsimp only
  rw [hw]
 unfold SNext
 rw [hn]
 by_cases h2:(Sf.prog s).s=(Sf.prog s).ms
 ·exact (snext_stop p F (Sf.prog s) W h hpa h2).mono fun e w' hz=>by
   obtain ⟨rfl,h1,h2⟩:=hz
   exact ⟨rfl,h1.mono (fun _ h=>.inl h),h2⟩
 ·exact (snext_void p F (Sf.prog s) W h hpa h2 hw).mono fun e w' hz=>by
   obtain ⟨rfl,h1,h2⟩:=hz
   exact ⟨rfl,h1.mono (fun _ h=>.inl h),h2⟩
end
end Go.Proofs.YtlbopdfobgjjaaaGreatDoor

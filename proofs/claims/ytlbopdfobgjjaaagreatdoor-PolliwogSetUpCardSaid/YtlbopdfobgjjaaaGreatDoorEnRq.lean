/-
  node.Node: hear, Receive. Conditions: the end may be; the unit may be · node.Node: Receive. Conditions: the end may be; the unit may be · node.Node: Tick. Conditions: the end may be · node.Node: ask, arm by arm (Unit, Manage). No conditions but where the end lies · node.Node: ask at a connection's request. Conditions: the end may be · node.Node: Request. Conditions: the end may be.
-/
import Derived.Test.YtlbopdfobgjjaaaGreatDoorEnZk
import Derived.Test.YtlbopdfobgjjaaaGreatDoorNxP
import Derived.Test.YtlbopdfobgjjaaaGreatDoorEvD
import Derived.Test.YtlbopdfobgjjaaaGreatDoorCloP
import Derived.Test.YtlbopdfobgjjaaaGreatDoorPdw
import Derived.Test.YtlbopdfobgjjaaaGreatDoorRev6
import Derived.Deep.RegionHeld3
import Derived.Test.YtlbopdfobgjjaaaGreatDoorCnW
set_option maxHeartbeats 4000000
namespace Go.Proofs.YtlbopdfobgjjaaaGreatDoor
open Go.RowKit
set_option maxRecDepth 20000
structure UFit (k:Nat) (D:Nat->Nat) (w:World) (u:Cn.Pd) (l:List Int):Prop where
 n:0<=u.n/\u.n<16777216
 mr:0<=u.mr/\u.mr<16777216
 rd:Rd numE w u.lA u.lc l
 ln:u.ln=l.length
 ll:l.length<=1000000
 ap:∀ ad,u.lA=some ad->ad.block<w.heap.size/\¬ (k<=D ad.block/\D ad.block<k+8)
section
variable {k:Nat} {D D':Nat->Nat} {w w':World} {n cn pc un:Nat} {sp rp:Option Nat} {A B:Option Addr} {ca cb:Nat} {x:En.X}
theorem UFit.to {u:Cn.Pd} {l:List Int} (h:UFit k D w u l) (hl:Lab k D D' w.heap.size) (ht:Touch (All D k) w w'):UFit k D' w' u l:=by
 refine ⟨h.n,h.mr,h.rd.touch ht (fun ad e _ e2=>(h.ap ad e).2 e2),h.ln,h.ll,fun ad e=>?_⟩
 obtain ⟨h1,h2⟩:=h.ap ad e
 exact ⟨Nat.lt_of_lt_of_le h1 ht.size,by rw [hl.1 _ h1];exact h2⟩
theorem nhear_of (h:EndIn k D w n cn pc un sp rp A ca B cb x) {hi hi2:Int} (hf:En.Fit x hi hi2) (u:Cn.Pd) (l:List Int) (hu:UFit k D w u l) (HT:∀ D0 w0 e,EndIn k D0 w0 n cn pc un sp rp A ca B cb x->UFit k D0 w0 u l->x.ep=some e->En.ofEp u.kind=true->Calls Tryz.prog 155 #[.pointer (some ⟨n,0,none⟩),pduV u] w0 (EndSigs k D0 w0 n (En.transfer x e u l))) :
  Calls Tryz.prog 94 #[.pointer (some ⟨n,0,none⟩),pduV u] w (EndSigs k D w n (En.hear x u l)):=by
 obtain ⟨w0,hw0⟩:=xq (w.alloc (.cells #[.int .i64 u.kind,.int .i64 u.sq,.int .u32 u.n,.int .u32 u.ps,.int .u32 u.mr,.slice u.lA u.ln u.lc,.bool u.self,.string u.data] 49))
 obtain ⟨b,hb⟩:=xq w.heap.size
 obtain ⟨D0,hD0⟩:=xq (lab D w.heap.size (k+8))
 have HF0:Hid (Fresh w w0):=by rw [hw0];exact (Touch.refl _ _).alloc _
 have HLAB:Hid (Lab k D D0 w.heap.size):=by rw [hD0];exact lab_lab k D _ 8 (by omega)
 have hDb:D0 b=k+8:=by rw [hD0,hb];exact lab_new (Nat.le_refl _)
 have HBX:Hid (∀ W,Touch (All D0 k) w0 W->Blk W b 49 [.int .i64 u.kind,.int .i64 u.sq,.int .u32 u.n,.int .u32 u.ps,.int .u32 u.mr,.slice u.lA u.ln u.lc,.bool u.self,.string u.data]):=fun W hW=>hW.blk (by rw [hw0,hb];exact Blk.new w _ _) (by unfold All;omega)
 have H0:Hid (EndIn k D0 w0 n cn pc un sp rp A ca B cb x):=h.old HF0.out (fun b hb=>HLAB.out.1 b hb)
 have HBK:Hid (∀ y e w',EndSigs k D0 w0 n y e w'->EndSigs k D w n y e w'):=fun y e w' hy=>hy.back HLAB.out (HF0.out.mono (fun _ _ e=>e.elim))
 have hu0:UFit k D0 w0 u l:=hu.to HLAB.out (HF0.out.mono (fun _ _ e=>e.elim))
 have x0:w0.cell? ⟨b,0,none⟩=some (.int .i64 u.kind):=(HBX.out w0 (Touch.refl _ _)).cell 0
 have y1:w0.cell? ⟨b,1,none⟩=some (.int .i64 u.sq):=(HBX.out w0 (Touch.refl _ _)).cell 1
 have y2:w0.cell? ⟨b,2,none⟩=some (.int .u32 u.n):=(HBX.out w0 (Touch.refl _ _)).cell 2
 have y3:w0.cell? ⟨b,3,none⟩=some (.int .u32 u.ps):=(HBX.out w0 (Touch.refl _ _)).cell 3
 have y4:w0.cell? ⟨b,4,none⟩=some (.int .u32 u.mr):=(HBX.out w0 (Touch.refl _ _)).cell 4
 have y5:w0.cell? ⟨b,5,none⟩=some (.slice u.lA u.ln u.lc):=(HBX.out w0 (Touch.refl _ _)).cell 5
 have y6:w0.cell? ⟨b,6,none⟩=some (.bool u.self):=(HBX.out w0 (Touch.refl _ _)).cell 6
 have y7:w0.cell? ⟨b,7,none⟩=some (.string u.data):=(HBX.out w0 (Touch.refl _ _)).cell 7
 have z11:w0.cell? ⟨n,11,none⟩=some (.pointer (some ⟨cn,0,none⟩)):=H0.out.b.1.cell 11
 have HRD:=lh (nready_any H0.out)
 have HTR:Hid (∀ e,x.ep=some e->En.ofEp u.kind=true->Calls Tryz.prog 155 #[.pointer (some ⟨n,0,none⟩),pduV u] w0 (EndSigs k D w n (En.transfer x e u l))):=fun e he hk=>(HT D0 w0 e H0.out hu0 he hk).mono fun _ _ hy=>HBK.out _ _ _ hy
 have HCR:Hid (∀ W,Fresh w0 W->Calls Tryz.prog 156 #[.pointer (some ⟨cn,0,none⟩),pduV u] W fun e w'=>∃ v,e=.returned v/\ConnPost w0 cn (Cn.hearS x.conn u) v w'):=fun W hW=>by
  have hc:=H0.out.c
  refine (creceive_any (hW.blk hc.1 (fun e=>e)) hc.2.1 u).mono ?_
  rintro e w' ⟨v,h1,h2⟩
  exact ⟨v,h1,h2.back hW hc.1.lt⟩
 have HBG:Hid (∀ v w1,ConnPost w0 cn (Cn.hearS x.conn u) v w1->Calls Tryz.prog 51 #[.pointer (some ⟨n,0,none⟩),v] w1 (EndSigs k D w n (En.brought x (Cn.hearS x.conn u)))):=fun v w1 hc=>(nbrought H0.out hc hf.ctl (hf.ends (Cn.hear_ends _ _))).mono fun _ _ hy=>HBK.out _ _ _ hy
 have HSG:Hid (∀ W c,W.heap=(w0.alloc (.cells (sigE.enc (En.msg c u.data)).toArray 51)).heap->W.os=w0.os->W.tape=w0.tape->W.output=w0.output->EndSigs k D w n (x,[En.msg c u.data]) (.returned (.slice (some ⟨w0.heap.size,0,none⟩) 1 1)) W):=fun W c e1 e2 e3 e4=>by
  have ht:Fresh w0 W:=touch_of_heap _ e2 e3 e4 e1
  have hD:∀ b,b<w0.heap.size->lab D0 w0.heap.size (k+8) b=D0 b:=fun b hb=>lab_old hb
  exact HBK.out _ _ _ ⟨lab D0 w0.heap.size (k+8),some ⟨w0.heap.size,0,none⟩,1,rfl,⟨⟨_,_,_,_,_,_,_,_,_,H0.out.old ht hD⟩,lab_lab k D0 _ 8 (by omega),ht.mono (fun _ _ e=>e.elim)⟩,Sl.heap (Sl.lit sigE w0 _ rfl (sigE.enc (En.msg c u.data)).toArray [En.msg c u.data] (by simp [El.all]) 1 rfl (by decide)) e1,fun ad e=>by injection e with e;subst e;exact ⟨Nat.le_refl _,lab_new (Nat.le_refl _)⟩⟩
 obtain ⟨rd,hrd⟩:=qx x.ep.isSome
 have HY:Hid (En.hear x u l=if u.kind=13 then (x,[En.msg 9 u.data]) else if u.kind=14 then (x,[En.msg 10 u.data]) else match x.ep with
  |none=>En.brought x (Cn.hearS x.conn u)
  |some e=>if En.ofEp u.kind then En.transfer x e u l else En.brought x (Cn.hearS x.conn u)):=rfl
 have HXE:Hid (x.ep.isSome=rd):=hrd
 rw [hrd] at HRD
 generalize En.hear x u l=Z at HY ⊢
 generalize Cn.hearS x.conn u=Y at HY HCR HBG
 clear h hf hu hu0 hD0 hrd HT
 unfold pduV at HTR HCR ⊢
 go_enter Tryz.func94,Tryz.ntmps94
 go_upto_region 1 with (fail)
 rw [<- hw0,<- hb]
 clear hw0 hb
 by_cases h13:u.kind=13
 ·have b13:(u.kind==13)=true:=by rw [h13];rfl
  have HZ:Hid (Z=(x,[En.msg 9 u.data])):=HY.out.trans (by rw [if_pos h13])
  clear h13
  go_wp2
  go_ret
  rw [HZ.out]
  exact HSG.out _ 9 rfl rfl rfl rfl
 have b13:(u.kind==13)=false:=by simpa using h13
 by_cases h14:u.kind=14
 ·have b14:(u.kind==14)=true:=by rw [h14];rfl
  have HZ:Hid (Z=(x,[En.msg 10 u.data])):=HY.out.trans (by rw [if_neg h13,if_pos h14])
  clear h14 h13
  go_wp2
  go_ret
  rw [HZ.out]
  exact HSG.out _ 10 rfl rfl rfl rfl
 have b14:(u.kind==14)=false:=by simpa using h14
 have HZ1:Hid (∀ e,x.ep=some e->En.ofEp u.kind=true->Z=En.transfer x e u l):=fun e he hk=>by
  rw [HY.out,if_neg h13,if_neg h14,he]
  simp only [hk,if_true]
 have HZ2:Hid ((rd=false\/En.ofEp u.kind=false)->Z=En.brought x Y):=fun hc=>by
  rw [HY.out,if_neg h13,if_neg h14]
  cases he:x.ep with
  |none=>rfl
  |some e =>
   rcases hc with hc | hc
   ·have:=HXE.out
    rw [he,hc] at this
    cases this
   ·simp only [hc]
    rfl
 clear h13 h14 HY
 have HTR2:Hid (rd=true->En.ofEp u.kind=true->Calls Tryz.prog 155 #[.pointer (some ⟨n,0,none⟩),.agg #[.int .i64 u.kind,.int .i64 u.sq,.int .u32 u.n,.int .u32 u.ps,.int .u32 u.mr,.slice u.lA u.ln u.lc,.bool u.self,.string u.data]] w0 (EndSigs k D w n Z)):=fun h1 h2=>by
  have h3:=HXE.out
  rw [h1] at h3
  obtain ⟨e,he⟩:=Option.isSome_iff_exists.1 h3
  rw [HZ1.out e he h2]
  exact HTR.out e he h2
 clear HTR HZ1 HXE HSG
 generalize u.kind=kd at *
 by_cases h8:kd=8
 ·subst h8
  cases rd with
  |true =>
   have HT:=lh (HTR2.out rfl (by rfl))
   clear HTR2 HZ2
   go_wp2_with (first
    |(go_at_call 22;(with_reducible refine HRD.out.mono ?_);rintro e w1 ⟨rfl,rfl⟩)
    |(go_at_call 155;(with_reducible refine HT.out.mono ?_);rintro e w2 h2;have HE2:=lh h2;obtain ⟨D',A',c',rfl,-⟩:=h2))
   go_ret
   exact HE2.out
  |false =>
   have HZ3:Hid (Z=En.brought x Y):=HZ2.out (.inl rfl)
   rw [<- HZ3.out] at HBG
   clear HZ2 HZ3 HTR2
   go_upto_region 12 with (go_at_call 22;(with_reducible refine HRD.out.mono ?_);rintro e w1 ⟨rfl,rfl⟩)
   go_region_with (first
    |(go_at_call 156;(with_reducible refine (HCR.out _ (Touch.drew (Touch.refl _ _))).mono ?_);rintro e w1 ⟨v,rfl,hc⟩)
    |(go_at_call 51;(with_reducible refine (HBG.out v w1 hc).mono ?_);rintro e w2 h2;have HE2:=lh h2;obtain ⟨D',A',c',rfl,-⟩:=h2))
   all_goals
    go_wp2
    go_ret
    exact HE2.out
 have b8:(kd==8)=false:=by simpa using h8
 by_cases h10:kd=10
 ·subst h10
  cases rd with
  |true =>
   have HT:=lh (HTR2.out rfl (by rfl))
   clear HTR2 HZ2
   go_wp2_with (first
    |(go_at_call 22;(with_reducible refine HRD.out.mono ?_);rintro e w1 ⟨rfl,rfl⟩)
    |(go_at_call 155;(with_reducible refine HT.out.mono ?_);rintro e w2 h2;have HE2:=lh h2;obtain ⟨D',A',c',rfl,-⟩:=h2))
   go_ret
   exact HE2.out
  |false =>
   have HZ3:Hid (Z=En.brought x Y):=HZ2.out (.inl rfl)
   rw [<- HZ3.out] at HBG
   clear HZ2 HZ3 HTR2
   go_upto_region 12 with (go_at_call 22;(with_reducible refine HRD.out.mono ?_);rintro e w1 ⟨rfl,rfl⟩)
   go_region_with (first
    |(go_at_call 156;(with_reducible refine (HCR.out _ (Touch.drew (Touch.refl _ _))).mono ?_);rintro e w1 ⟨v,rfl,hc⟩)
    |(go_at_call 51;(with_reducible refine (HBG.out v w1 hc).mono ?_);rintro e w2 h2;have HE2:=lh h2;obtain ⟨D',A',c',rfl,-⟩:=h2))
   all_goals
    go_wp2
    go_ret
    exact HE2.out
 have b10:(kd==10)=false:=by simpa using h10
 by_cases h11:kd=11
 ·subst h11
  cases rd with
  |true =>
   have HT:=lh (HTR2.out rfl (by rfl))
   clear HTR2 HZ2
   go_wp2_with (first
    |(go_at_call 22;(with_reducible refine HRD.out.mono ?_);rintro e w1 ⟨rfl,rfl⟩)
    |(go_at_call 155;(with_reducible refine HT.out.mono ?_);rintro e w2 h2;have HE2:=lh h2;obtain ⟨D',A',c',rfl,-⟩:=h2))
   go_ret
   exact HE2.out
  |false =>
   have HZ3:Hid (Z=En.brought x Y):=HZ2.out (.inl rfl)
   rw [<- HZ3.out] at HBG
   clear HZ2 HZ3 HTR2
   go_upto_region 12 with (go_at_call 22;(with_reducible refine HRD.out.mono ?_);rintro e w1 ⟨rfl,rfl⟩)
   go_region_with (first
    |(go_at_call 156;(with_reducible refine (HCR.out _ (Touch.drew (Touch.refl _ _))).mono ?_);rintro e w1 ⟨v,rfl,hc⟩)
    |(go_at_call 51;(with_reducible refine (HBG.out v w1 hc).mono ?_);rintro e w2 h2;have HE2:=lh h2;obtain ⟨D',A',c',rfl,-⟩:=h2))
   all_goals
    go_wp2
    go_ret
    exact HE2.out
 have b11:(kd==11)=false:=by simpa using h11
 by_cases h12:kd=12
 ·subst h12
  cases rd with
  |true =>
   have HT:=lh (HTR2.out rfl (by rfl))
   clear HTR2 HZ2
   go_wp2_with (first
    |(go_at_call 22;(with_reducible refine HRD.out.mono ?_);rintro e w1 ⟨rfl,rfl⟩)
    |(go_at_call 155;(with_reducible refine HT.out.mono ?_);rintro e w2 h2;have HE2:=lh h2;obtain ⟨D',A',c',rfl,-⟩:=h2))
   go_ret
   exact HE2.out
  |false =>
   have HZ3:Hid (Z=En.brought x Y):=HZ2.out (.inl rfl)
   rw [<- HZ3.out] at HBG
   clear HZ2 HZ3 HTR2
   go_upto_region 12 with (go_at_call 22;(with_reducible refine HRD.out.mono ?_);rintro e w1 ⟨rfl,rfl⟩)
   go_region_with (first
    |(go_at_call 156;(with_reducible refine (HCR.out _ (Touch.drew (Touch.refl _ _))).mono ?_);rintro e w1 ⟨v,rfl,hc⟩)
    |(go_at_call 51;(with_reducible refine (HBG.out v w1 hc).mono ?_);rintro e w2 h2;have HE2:=lh h2;obtain ⟨D',A',c',rfl,-⟩:=h2))
   all_goals
    go_wp2
    go_ret
    exact HE2.out
 have b12:(kd==12)=false:=by simpa using h12
 have hof:En.ofEp kd=false:=by unfold En.ofEp;rw [b8,b10,b11,b12];rfl
 have HZ3:Hid (Z=En.brought x Y):=HZ2.out (.inr hof)
 rw [<- HZ3.out] at HBG
 clear HZ2 HZ3 HTR2
 go_upto_region 12 with (go_at_call 22;(with_reducible refine HRD.out.mono ?_);rintro e w1 ⟨rfl,rfl⟩)
 go_region_with (first
  |(go_at_call 156;(with_reducible refine (HCR.out _ (Touch.drew (Touch.refl _ _))).mono ?_);rintro e w1 ⟨v,rfl,hc⟩)
  |(go_at_call 51;(with_reducible refine (HBG.out v w1 hc).mono ?_);rintro e w2 h2;have HE2:=lh h2;obtain ⟨D',A',c',rfl,-⟩:=h2))
 all_goals
  go_wp2
  go_ret
  exact HE2.out
end
set_option maxRecDepth 20000
section
variable {k:Nat} {D D':Nat->Nat} {w w' w1:World} {n cn pc un:Nat} {sp rp:Option Nat} {A B:Option Addr} {ca cb:Nat} {x:En.X}
theorem ncredit_to {y:En.X × List Cn.Sig} {c:Nat} {hi hi2:Int} (h1:EndTo k D D' w w1 n y.1) (hs:Sl sigE w1 A c y.2) (ha:∀ ad,A=some ad->w.heap.size<=ad.block/\D' ad.block=k+8) (hf:En.Fit y.1 hi hi2) (hl:y.2.length<=1000000) :
  Calls Tryz.prog 37 #[.pointer (some ⟨n,0,none⟩),.slice A y.2.length c] w1 (EndSigs k D w n (En.credit y.1 y.2)):=by
 obtain ⟨cn,pc,un,sp,rp,B1,cb1,B2,cb2,hi'⟩:=h1.at_
 refine (ncredit_any hi' (fun e he=>⟨_,_,(hf.ep e he).1⟩) A c y.2 hs hl (fun ad e=>?_)).mono ?_
 ·have:=(ha ad e).2;omega
 ·rintro e w2 ⟨A',c',rfl,g1,g2,g3⟩
  have hn:D' n=k:=hi'.b.2
  have hD2:=lab_lab k D' w1.heap.size 8 (by omega)
  refine ⟨_,A',c',rfl,⟨⟨_,_,_,_,_,_,_,_,_,g2⟩,h1.lab.trans hD2 h1.touch.size,h1.touch.trans g3 ?_⟩,g1.sl,?_⟩
  ·intro b hb e
   rcases e with rfl | e
   ·have:=h1.lab.1 _ hb
    unfold All
    omega
   ·obtain ⟨ad,h2,h3⟩:=Option.map_eq_some_iff.1 e
    have:=(ha ad h2).1
    omega
  ·intro ad e
   rcases g1.at_ with g | g
   ·rw [e] at g
    obtain ⟨ad0,h2,h3⟩:=Option.map_eq_some_iff.1 g.symm
    have h4:=ha ad0 h2
    rw [h3] at h4
    refine ⟨h4.1,?_⟩
    unfold lab
    split
    ·exact h4.2
    ·rfl
   ·have:=g ad e
    exact ⟨Nat.le_trans h1.touch.size this,lab_new this⟩
theorem nreceive_of (h:EndIn k D w n cn pc un sp rp A ca B cb x) {hi hi2:Int} (u:Cn.Pd) (l:List Int) (hu:UFit k D w u l) (HHR:∀ D0 w0,EndIn k D0 w0 n cn pc un sp rp A ca B cb x->UFit k D0 w0 u l->Calls Tryz.prog 94 #[.pointer (some ⟨n,0,none⟩),pduV u] w0 (EndSigs k D0 w0 n (En.hear x u l))) (HOK:En.Fit (En.hear x u l).1 hi hi2/\(En.hear x u l).2.length<=1000) :
  Calls Tryz.prog 46 #[.pointer (some ⟨n,0,none⟩),pduV u] w (EndSigs k D w n (En.receive x u l)):=by
 obtain ⟨w0,hw0⟩:=xq (w.alloc (.cells #[.int .i64 u.kind,.int .i64 u.sq,.int .u32 u.n,.int .u32 u.ps,.int .u32 u.mr,.slice u.lA u.ln u.lc,.bool u.self,.string u.data] 49))
 obtain ⟨b,hb⟩:=xq w.heap.size
 obtain ⟨D0,hD0⟩:=xq (lab D w.heap.size (k+8))
 have HF0:Hid (Fresh w w0):=by rw [hw0];exact (Touch.refl _ _).alloc _
 have HLAB:Hid (Lab k D D0 w.heap.size):=by rw [hD0];exact lab_lab k D _ 8 (by omega)
 have HBX:Blk w0 b 49 [.int .i64 u.kind,.int .i64 u.sq,.int .u32 u.n,.int .u32 u.ps,.int .u32 u.mr,.slice u.lA u.ln u.lc,.bool u.self,.string u.data]:=by rw [hw0,hb];exact Blk.new w _ _
 have H0:EndIn k D0 w0 n cn pc un sp rp A ca B cb x:=h.old HF0.out (fun b hb=>HLAB.out.1 b hb)
 have hu0:UFit k D0 w0 u l:=hu.to HLAB.out (HF0.out.mono (fun _ _ e=>e.elim))
 have y0:w0.cell? ⟨b,0,none⟩=some (.int .i64 u.kind):=HBX.cell 0
 have y1:w0.cell? ⟨b,1,none⟩=some (.int .i64 u.sq):=HBX.cell 1
 have y2:w0.cell? ⟨b,2,none⟩=some (.int .u32 u.n):=HBX.cell 2
 have y3:w0.cell? ⟨b,3,none⟩=some (.int .u32 u.ps):=HBX.cell 3
 have y4:w0.cell? ⟨b,4,none⟩=some (.int .u32 u.mr):=HBX.cell 4
 have y5:w0.cell? ⟨b,5,none⟩=some (.slice u.lA u.ln u.lc):=HBX.cell 5
 have y6:w0.cell? ⟨b,6,none⟩=some (.bool u.self):=HBX.cell 6
 have y7:w0.cell? ⟨b,7,none⟩=some (.string u.data):=HBX.cell 7
 obtain ⟨Z,hZ⟩:=xq (En.hear x u l)
 have HH:Hid (Calls Tryz.prog 94 #[.pointer (some ⟨n,0,none⟩),pduV u] w0 (EndSigs k D0 w0 n Z)):=by
  rw [hZ];exact HHR D0 w0 H0 hu0
 rw [<- hZ] at HOK
 have HCR:Hid (∀ D' A c w1,EndTo k D0 D' w0 w1 n Z.1->Sl sigE w1 A c Z.2->(∀ ad,A=some ad->w0.heap.size<=ad.block/\D' ad.block=k+8)->Calls Tryz.prog 37 #[.pointer (some ⟨n,0,none⟩),.slice A Z.2.length c] w1 (EndSigs k D0 w0 n (En.credit Z.1 Z.2))):=fun D' A c w1 h1 h2 h3=>ncredit_to h1 h2 h3 HOK.1 (by have:=HOK.2;omega)
 have HBK:Hid (∀ e w',EndSigs k D0 w0 n (En.credit Z.1 Z.2) e w'->EndSigs k D w n (En.receive x u l) e w'):=fun e w' hy=>by
  rw [hZ] at hy
  exact hy.back HLAB.out (HF0.out.mono (fun _ _ e=>e.elim))
 generalize En.credit Z.1 Z.2=Y at HCR HBK
 generalize En.receive x u l=R at HBK ⊢
 clear h hu hu0 hD0 HOK hZ H0 HBX HHR
 unfold pduV at HH ⊢
 go_enter Tryz.func46,Tryz.ntmps46
 go_upto_region 1 with (fail)
 rw [<- hw0,<- hb]
 clear hw0 hb
 go_wp2_with (first
  |(go_at_call 94;(with_reducible refine HH.out.mono ?_);rintro e w1 ⟨D1,A1,c1,rfl,h1,h2,h3⟩;have HC:=lh (HCR.out D1 A1 c1 w1 h1 h2 h3);clear h1 h2 h3)
  |(go_at_call 37;(with_reducible refine HC.out.mono ?_);rintro e w2 h2;have HE:=lh (HBK.out _ _ h2);obtain ⟨D',A',c',rfl,-⟩:=h2))
 go_ret
 exact HE.out
end
set_option maxRecDepth 20000
namespace En
theorem due_ok {x:X} {hi hi2:Int} (h:Fit x hi hi2) (t:Int):Fit (due x t).1 hi hi2/\(due x t).2.length<=1000:=by
 unfold due
 split
 ·exact ⟨h.brought (Cn.expire_ends _),brought_sg x (Cn.expire_ends _)⟩
 ·split
  ·exact ⟨h.brought (Cn.silent_ends _),brought_sg x (Cn.silent_ends _)⟩
  ·exact ⟨⟨h.nd,h.ks,h.b1,h.b2,h.ep,h.st⟩,by simp⟩
theorem over_mem (l:List Int) {t:Int} (h:t ∈ Tm.over l):0<=t/\t<5:=by
 obtain ⟨i,hi,rfl⟩:=List.mem_map.1 h
 have:=List.mem_range.1 (List.mem_filter.1 hi).1
 omega
end En
section
variable {k:Nat} {D D' D2:Nat->Nat} {w w' wr w2 w4:World} {n cn pc un:Nat} {sp rp:Option Nat} {A B Al A2 A4:Option Addr} {ca cb cl:Nat} {x X y:En.X}
theorem EndTo.kept {α:Type} {E:El α} {L:List α} (h2:EndTo k D' D2 wr w2 n y) (hs:Sl E wr Al cl L) (hb:∀ ad,Al=some ad->D' ad.block=k+8):Sl E w2 Al cl L:=hs.touch h2.touch (fun ad e=>by unfold All;rw [hb ad e];omega)
theorem nmore {L:List Cn.Sig} (h1:EndTo k D D' w wr n X) (hs:Sl sigE wr Al cl L) (hb:∀ ad,Al=some ad->w.heap.size<=ad.block/\D' ad.block=k+8) (h2:EndTo k D' D2 wr w2 n y) (t4:Touch (fun b=>Al.map Addr.block=some b) w2 w4) (a4:A4.map Addr.block=Al.map Addr.block\/A4.map Addr.block=some w2.heap.size) :
  ∃ D4,EndTo k D D4 w w4 n y/\∀ ad,A4=some ad->w.heap.size<=ad.block/\D4 ad.block=k+8:=by
 obtain ⟨cn,pc,un,sp,rp,B1,cb1,B2,cb2,hi⟩:=h2.at_
 have hold:∀ b,b<w2.heap.size->lab D2 w2.heap.size (k+8) b=D2 b:=fun b hb=>lab_old hb
 have hA2:∀ ad,Al=some ad->D2 ad.block=k+8:=fun ad e=>by rw [h2.lab.1 _ (hs.lt ad e)];exact (hb ad e).2
 have h12:=h1.then h2
 refine ⟨lab D2 w2.heap.size (k+8),⟨⟨_,_,_,_,_,_,_,_,_,hi.keep t4 (fun b e=>?_) hold⟩,h12.lab.trans (lab_lab k D2 _ 8 (by omega)) h12.touch.size,h12.touch.trans t4 (fun b hb' e=>?_)⟩,fun ad e=>?_⟩
 ·obtain ⟨ad,e1,rfl⟩:=Option.map_eq_some_iff.1 e
  have:=hA2 ad e1
  omega
 ·obtain ⟨ad,e1,rfl⟩:=Option.map_eq_some_iff.1 e
  have:=(hb ad e1).1
  omega
 ·rw [e] at a4
  rcases a4 with a4 | a4
  ·obtain ⟨ad0,e1,e2⟩:=Option.map_eq_some_iff.1 a4.symm
   have h3:=hb ad0 e1
   rw [e2] at h3
   have h4:=hA2 ad0 e1
   rw [e2] at h4
   refine ⟨h3.1,?_⟩
   unfold lab
   split
   ·exact h4
   ·rfl
  ·have a4:ad.block=w2.heap.size:=by injection a4
   exact ⟨by rw [a4];exact h12.touch.size,lab_new (by omega)⟩
theorem ntick_any (h:EndIn k D w n cn pc un sp rp A ca B cb x) {hi hi2:Int} (hf:En.Fit x hi hi2) :
  Calls Tryz.prog 26 #[.pointer (some ⟨n,0,none⟩)] w (EndSigs k D w n (En.tick x)):=by
 have c12:w.cell? ⟨n,12,none⟩=some (.pointer (some ⟨pc,0,none⟩)):=h.b.1.cell 12
 obtain ⟨T,hT⟩:=xq (Tm.over x.tm)
 have HTK:=lh (tick2_any pc 114 (by decide) x.tm [x.c.cc,x.c.poll,x.c.keep,x.c.silent,x.c.idle] w h.p.1)
 rw [<- hT] at HTK
 have HTB:Hid (∀ t ∈ T,0<=t/\t<5):=fun t ht=>En.over_mem x.tm (by rw [<- hT];exact ht)
 have hTL:T.length<=5:=by rw [hT];exact Tm.overTo_len _ _
 have HIN:=lh h
 have hf1:En.Fit { x with tm:=Tm.tick x.tm } hi hi2:=⟨hf.nd,hf.ks,hf.b1,hf.b2,hf.ep,hf.st⟩
 obtain ⟨Z,hZ⟩:=xq (En.dues T ({ x with tm:=Tm.tick x.tm },[]))
 have HY:Hid (En.tick x=En.credit Z.1 Z.2):=by
  show _=_
  rw [hZ,hT]
  rfl
 have HF1:=lh hf1
 have HZ:=lh hZ
 clear hf hf1 hT hZ h
 generalize hYY:En.tick x=Y at HY ⊢
 clear hYY
 go_enter Tryz.func26,Tryz.ntmps26
 go_wp2_with (go_at_call 50;(with_reducible refine HTK.out.mono ?_);rintro e w1 ⟨TA,tc,rfl,ts,tp,tt,tb⟩;have HTS:=lh ts;have HTP:=lh tp;have HTT:=lh tt;have HTA:=lh tb;clear ts tp tt tb)
 obtain ⟨D1,hD1⟩:=xq (lab D w.heap.size (k+8))
 have HLAB:Hid (Lab k D D1 w.heap.size):=by rw [hD1];exact lab_lab k D _ 8 (by omega)
 have hpc:=HIN.out.p.2
 have H1:Hid (EndIn k D1 w1 n cn pc un sp rp A ca B cb { x with tm:=Tm.tick x.tm }):=HIN.out.paced HTP.out HTT.out (fun b e=>by rw [e];exact hpc) (fun b hb=>HLAB.out.1 b hb)
 have HBK:Hid (∀ y e w',EndSigs k D1 w1 n y e w'->EndSigs k D w n y e w'):=fun y e w' hy=>hy.back HLAB.out (HTT.out.mono fun b _ e=>by rw [e];unfold All;omega)
 have HTA8:Hid (∀ ad,TA=some ad->D1 ad.block=k+8):=fun ad e=>by rw [hD1];exact lab_new (HTA.out ad e)
 have HLR:Hid (∀ b,w1.heap.size<=b->k<=D1 b/\D1 b<=k+8):=fun b hb=>HLAB.out.2 b (Nat.le_trans HTT.out.size hb)
 clear hD1 hpc HTA HTT HTP HTK HIN HLAB
 generalize { x with tm:=Tm.tick x.tm }=x1 at *
 go_loopw [3,14] (fun v3 v14 wr=>∃ (j:Nat) (Al:Option Addr) (cl:Nat) (X:En.X) (L:List Cn.Sig),j<=T.length/\v14=.int .i64 j/\v3=.slice Al L.length cl/\L.length<=1000*j/\Hid (∃ D',EndTo k D1 D' w1 wr n X/\Sl sigE wr Al cl L/\∀ ad,Al=some ad->w1.heap.size<=ad.block/\D' ad.block=k+8)/\Hid (En.Fit X hi hi2)/\Hid (Z=En.dues (T.drop j) (X,L))) (fun _ v14 _=>T.length-(intOf v14).toNat)
 case atStart=>exact ⟨0,none,0,x1,[],Nat.zero_le _,rfl,rfl,Nat.zero_le _,⟨D1,⟨⟨_,_,_,_,_,_,_,_,_,H1.out⟩,Lab.refl k D1 w1 HLR.out,Touch.refl _ _⟩,Sl.nil _ _,fun _ e=>nomatch e⟩,HF1,HZ⟩
 case round =>
  obtain ⟨j,Al,cl,X,L,hj,rfl,rfl,hL,HR,HF,HD⟩:=hrel
  obtain ⟨D',hE,hs,hb⟩:=HR.out
  clear HR
  by_cases hlt:j<T.length
  ·have hk1:(j:Int)<(T.length:Int):=by omega
   have hk0:(0:Int)<=(j:Int):=by omega
   obtain ⟨g,o,hTA,_,c0⟩:=(hE.kept HTS.out HTA8.out).int_at j hlt
   obtain ⟨t,ht⟩:=xq (T.getD j 0)
   rw [<- ht] at c0
   have htm:t ∈ T:=by rw [ht];simp [List.getD,List.getElem?_eq_getElem hlt]
   have htb:=HTB.out t htm
   have HD2:Hid (Z=En.dues (T.drop (j+1)) ((En.due X t).1,L++(En.due X t).2)):=by
    show _=_
    rw [HD.out,List.drop_eq_getElem_cons hlt,ht]
    simp only [List.getD,List.getElem?_eq_getElem hlt,Option.getD_some]
    rfl
   have hFK:=En.due_ok HF.out t
   have HF2:=lh hFK.1
   have hl2:=hFK.2
   clear hFK HD htm ht
   subst hTA
   obtain ⟨cn,pc,un,sp,rp,B1,cb1,B2,cb2,hin⟩:=hE.at_
   have HIN:=lh hin
   have HE:=lh hE
   have HS:=lh hs
   have HB:=lh hb
   have c11:wr.cell? ⟨n,11,none⟩=some (.pointer (some ⟨cn,0,none⟩)):=hin.b.1.cell 11
   have c12:wr.cell? ⟨n,12,none⟩=some (.pointer (some ⟨pc,0,none⟩)):=hin.b.1.cell 12
   have HBR:Hid (∀ y:Cn.SR,Cn.Ends X.conn y->∀ v wc,ConnPost wr cn y v wc->Calls Tryz.prog 51 #[.pointer (some ⟨n,0,none⟩),v] wc (EndSigs k D' wr n (En.brought X y))):=fun y hy v wc hc=>nbrought HIN.out hc HF.out.ctl (HF.out.ends hy)
   clear hin hE hs hb
   have HREL:Hid (∀ (y:En.X × List Cn.Sig) A4 c4 L4 w4,En.due X t=y->Hid (L4=L++y.2)->Sl sigE w4 A4 c4 L4->(∃ D4,EndTo k D1 D4 w1 w4 n y.1/\∀ ad,A4=some ad->w1.heap.size<=ad.block/\D4 ad.block=k+8)->∃ (j':Nat) (Al:Option Addr) (cl:Nat) (X:En.X) (L:List Cn.Sig),j'<=T.length/\(Value.int .i64 ((j:Int)+1))=.int .i64 j'/\Value.slice A4 L4.length c4=.slice Al L.length cl/\L.length<=1000*j'/\Hid (∃ D',EndTo k D1 D' w1 w4 n X/\Sl sigE w4 Al cl L/\∀ ad,Al=some ad->w1.heap.size<=ad.block/\D' ad.block=k+8)/\Hid (En.Fit X hi hi2)/\Hid (Z=En.dues (T.drop j') (X,L))):=fun y A4 c4 L4 w4 hy hL4 s4 hE4=>by
    obtain ⟨D4,h4,h5⟩:=hE4
    subst hy
    refine ⟨j+1,A4,c4,(En.due X t).1,L4,by omega,by go_num,rfl,?_,⟨D4,h4,s4,h5⟩,HF2,?_⟩
    ·rw [hL4.out,List.length_append];omega
    ·rw [hL4.out];exact HD2
   clear HD2 HF2
   by_cases h0:t=0
   ·subst h0
    have HEX:Hid (Calls Tryz.prog 52 #[.pointer (some ⟨cn,0,none⟩)] wr fun e w'=>∃ v,e=.returned v/\ConnPost wr cn (Cn.expireS X.conn) v w'):=expire_any HIN.out.c.1 HIN.out.c.2.1
    have HBE:=lh (HBR.out _ (Cn.expire_ends X.conn))
    have HRE:Hid (En.due X 0=En.brought X (Cn.expireS X.conn)):=rfl
    clear HBR HIN
    generalize Cn.expireS X.conn=S at HEX HBE HRE
    generalize En.brought X S=Q at HBE HRE
    have hl3:Q.2.length<=1000:=by rw [<- HRE.out];exact hl2
    clear hl2 HF
    go_wp2_with (first
     |(go_at_call 52;(with_reducible refine HEX.out.mono ?_);rintro e wc ⟨v,rfl,hc⟩;have HC:=lh (HBE.out v wc hc);clear hc)
     |(go_at_call 51;(with_reducible refine HC.out.mono ?_);rintro e w2 ⟨D2,A2,c2,rfl,g1,g2,g3⟩;have G1:=lh g1;have G2:=lh g2;clear g1 g2 g3)
     |(at_builtin;refine app_sig rfl rfl (l:=L) (l2:=Q.2) rfl rfl (G1.out.kept HS.out (fun ad e=>(HB.out ad e).2)) (Sl.rd G2.out) (by omega) ?_;intro A4 c4 L4 w4 hL4 s4 t4 a4;have HN:=lh (HREL.out Q A4 c4 L4 w4 HRE.out hL4 s4 (nmore HE.out HS.out HB.out G1.out t4 a4));clear hL4 s4 t4 a4))
    go_roundw
    case rel=>exact HN.out
    case measure=>simp [intOf];omega
   by_cases h3:t=3
   ·subst h3
    have HEX:Hid (Calls Tryz.prog 53 #[.pointer (some ⟨cn,0,none⟩)] wr fun e w'=>∃ v,e=.returned v/\ConnPost wr cn (Cn.silentS X.conn) v w'):=silent_any HIN.out.c.1 HIN.out.c.2.1
    have HBE:=lh (HBR.out _ (Cn.silent_ends X.conn))
    have HRE:Hid (En.due X 3=En.brought X (Cn.silentS X.conn)):=rfl
    clear HBR HIN
    generalize Cn.silentS X.conn=S at HEX HBE HRE
    generalize En.brought X S=Q at HBE HRE
    have hl3:Q.2.length<=1000:=by rw [<- HRE.out];exact hl2
    clear hl2 HF
    go_wp2_with (first
     |(go_at_call 53;(with_reducible refine HEX.out.mono ?_);rintro e wc ⟨v,rfl,hc⟩;have HC:=lh (HBE.out v wc hc);clear hc)
     |(go_at_call 51;(with_reducible refine HC.out.mono ?_);rintro e w2 ⟨D2,A2,c2,rfl,g1,g2,g3⟩;have G1:=lh g1;have G2:=lh g2;clear g1 g2 g3)
     |(at_builtin;refine app_sig rfl rfl (l:=L) (l2:=Q.2) rfl rfl (G1.out.kept HS.out (fun ad e=>(HB.out ad e).2)) (Sl.rd G2.out) (by omega) ?_;intro A4 c4 L4 w4 hL4 s4 t4 a4;have HN:=lh (HREL.out Q A4 c4 L4 w4 HRE.out hL4 s4 (nmore HE.out HS.out HB.out G1.out t4 a4));clear hL4 s4 t4 a4))
    go_roundw
    case rel=>exact HN.out
    case measure=>simp [intOf];omega
   have ht:t=1\/t=2\/t=4:=by omega
   have b0:(t==0)=false:=by simpa using h0
   have b3:(t==3)=false:=by simpa using h3
   have HAS:Hid (∀ q,Calls Tryz.prog 54 #[.pointer q,.int .i64 t] wr fun e w'=>e=.returned (.bool true)/\wr=w'):=fun q=>by
    have:=asks_any (w:=wr) q t
    rw [decide_eq_true ht] at this
    exact this
   have HRD:=lh (nready_any HIN.out)
   have HRE:Hid (En.due X t=({ X with poll:=X.poll || X.ep.isSome },[])):=by
    show _=_
    unfold En.due
    rw [if_neg h0,if_neg h3]
    rfl
   have c17:wr.cell? ⟨n,17,none⟩=some (.bool X.poll):=HIN.out.b.1.cell 17
   have f17:=HIN.out.b.1.frozen 17
   have HNIL:L++([]:List Cn.Sig)=L:=List.append_nil L
   have HEN:Hid (∀ w4 X2,Touch (· = n) wr w4->EndIn k D' w4 n cn pc un sp rp B1 cb1 B2 cb2 X2->EndTo k D1 D' w1 w4 n X2/\Sl sigE w4 Al cl L):=fun w4 X2 t4 h4=>by
    have t5:Touch (All D' k) wr w4:=t4.mono fun b _ e=>by rw [e];exact HIN.out.own
    have h5:EndTo k D' D' wr w4 n X2:=⟨⟨_,_,_,_,_,_,_,_,_,h4⟩,⟨fun _ _=>rfl,fun b hb=>HE.out.lab.2 b (Nat.le_trans HE.out.touch.size hb)⟩,t5⟩
    exact ⟨HE.out.then h5,h5.kept HS.out (fun ad e=>(HB.out ad e).2)⟩
   clear HBR hl2 HF
   obtain ⟨rd,hrd⟩:=qx X.ep.isSome
   rw [hrd] at HRD HRE
   clear hrd ht htb h0 h3
   cases rd with
   |true =>
    have HW:Hid (EndIn k D' (wr.setCell ⟨n,17,none⟩ (.bool true)) n cn pc un sp rp B1 cb1 B2 cb2 { X with poll:=X.poll || true }):=by
     have h0:=HIN.out
     exact h0.put (x':={ X with poll:=X.poll || true }) 17 (.bool true) (by cases X with | mk c1 c2 c3 c4 c5 c6 pl c8 c9 c10 c11=>cases pl <;> rfl) rfl ⟨rfl,rfl⟩ rfl h0.l h0.f h0.e
    have HN2:=HEN.out _ _ ((Touch.refl (· = n) wr).st rfl) HW.out
    have HN:=lh (HREL.out _ Al cl L _ HRE.out HNIL.symm HN2.2 ⟨D',HN2.1,HB.out⟩)
    clear HN2 HREL HEN HIN HE HS HB HW HRE HNIL
    go_wp2_with (first
     |(go_at_call 54;(with_reducible refine (HAS.out _).mono ?_);rintro e wc ⟨rfl,rfl⟩)
     |(go_at_call 22;(with_reducible refine HRD.out.mono ?_);rintro e wc ⟨rfl,rfl⟩))
    go_roundw
    case rel=>exact HN.out
    case measure=>simp [intOf];omega
   |false =>
    have HX:({ X with poll:=X.poll || false }:En.X)=X:=by cases X;simp
    have HN2:=HEN.out _ _ (Touch.refl (· = n) wr) HIN.out
    have HN:=lh (HREL.out _ Al cl L _ HRE.out HNIL.symm HN2.2 ⟨D',by rw [HX];exact HN2.1,HB.out⟩)
    clear HN2 HREL HEN HIN HE HS HB HRE HNIL HX
    go_wp2_with (first
     |(go_at_call 54;(with_reducible refine (HAS.out _).mono ?_);rintro e wc ⟨rfl,rfl⟩)
     |(go_at_call 22;(with_reducible refine HRD.out.mono ?_);rintro e wc ⟨rfl,rfl⟩))
    go_roundw
    case rel=>exact HN.out
    case measure=>simp [intOf];omega
  ·obtain rfl:j=T.length:=by omega
   rw [List.drop_length] at HD
   have hz:Z=(X,L):=HD.out
   subst hz
   have HCR:=lh (ncredit_to (y:=(X,L)) hE hs hb HF.out (by show L.length<=_;omega))
   clear hE hs hb HD HF
   go_wp2_with (go_at_call 37;(with_reducible refine HCR.out.mono ?_);rintro e w2 h2;have HEE:=lh (HBK.out _ _ _ h2);obtain ⟨D4,A4,c4,rfl,-⟩:=h2)
   go_ret
   rw [HY.out]
   exact HEE.out
end
set_option maxRecDepth 20000
def AskPost (k:Nat) (D:Nat->Nat) (w:World) (n:Nat) (y:En.X × List Cn.Sig × Int) (e:Ending) (w':World):Prop:=
 ∃ D' A c,e=.returned (.tuple #[.slice A y.2.1.length c,.int .i64 y.2.2])/\EndTo k D D' w w' n y.1/\Sl sigE w' A c y.2.1/\∀ ad,A=some ad->w.heap.size<=ad.block/\D' ad.block=k+8
set_option maxRecDepth 20000
theorem ConnPost.old {w w1 w2:World} {c:Nat} {y:Cn.SR} {v:Value} (h:ConnPost w c y v w1) (ht:Fresh w1 w2):ConnPost w c y v w2:=by
 obtain ⟨A1,c1,A2,c2,e,s1,s2,b1,b2⟩:=h.res
 exact ⟨ht.blk h.conn (fun e=>e),h.ok,h.few,⟨A1,c1,A2,c2,e,s1.touch ht (fun _ _ e=>e),s2.touch ht (fun _ _ e=>e),b1,b2⟩,h.touch.trans ht (fun _ _ e=>e.elim)⟩
section
variable {k:Nat} {D:Nat->Nat} {w:World} {n cn pc un:Nat} {sp rp:Option Nat} {A B:Option Addr} {ca cb:Nat} {x:En.X}
theorem nask_conn (h:EndIn k D w n cn pc un sp rp A ca B cb x) {hi hi2:Int} (hf:En.Fit x hi hi2) (kd:Int) (d:ByteArray) (m:Int) (hd:d.size<=maxLen) (hk:kd ≠ 7/\kd ≠ 8/\kd ≠ 9/\kd ≠ 10/\kd ≠ 11) (he:Cn.askErr x.conn kd d=0) :
  Calls Tryz.prog 36 #[.pointer (some ⟨n,0,none⟩),.agg #[.int .i64 kd,.string d,.int .i64 m]] w (AskPost k D w n (En.askC x kd d)):=by
 obtain ⟨w0,hw0⟩:=xq (w.alloc (.cells #[.int .i64 kd,.string d,.int .i64 m] 40))
 obtain ⟨b0,hb0⟩:=xq w.heap.size
 obtain ⟨D0,hD0⟩:=xq (lab D w.heap.size (k+8))
 have HF0:Hid (Fresh w w0):=by rw [hw0];exact (Touch.refl _ _).alloc _
 have HLAB:Hid (Lab k D D0 w.heap.size):=by rw [hD0];exact lab_lab k D _ 8 (by omega)
 have hDb:D0 b0=k+8:=by rw [hD0,hb0];exact lab_new (Nat.le_refl _)
 have hBX:Blk w0 b0 40 [.int .i64 kd,.string d,.int .i64 m]:=by rw [hw0,hb0];exact Blk.new w _ _
 have H0:Hid (EndIn k D0 w0 n cn pc un sp rp A ca B cb x):=h.old HF0.out (fun b hb=>HLAB.out.1 b hb)
 have hcn:=H0.out.c.2.2
 have HCN:Hid (cn<w0.heap.size):=H0.out.c.1.lt
 have KF:Hid (∀ wx,Touch (fun b=>b=cn\/w0.heap.size<=b) w0 wx->wx.cell? ⟨n,11,none⟩=some (.pointer (some ⟨cn,0,none⟩))/\wx.cell? ⟨b0,0,none⟩=some (.int .i64 kd)/\wx.cell? ⟨b0,1,none⟩=some (.string d)):=fun wx hw =>
  have h1:=hw.blk H0.out.b.1 (fun e=>by have:=H0.out.b.2;have h9:=H0.out.b.1.lt;rcases e with e | e;(subst e;omega);omega)
  have h2:=hw.blk hBX (fun e=>by have h9:=hBX.lt;rcases e with e | e;(subst e;omega);omega)
  ⟨h1.cell 11,h2.cell 0,h2.cell 1⟩
 obtain ⟨y,hy⟩:=xq (Cn.askS x.conn kd d)
 have hye:Cn.Ends x.conn y:=by rw [hy];exact Cn.ask_ends _ _ _
 have HP:Hid (∀ W,Fresh w0 W->Calls Tryz.prog 74 #[.pointer (some ⟨cn,0,none⟩),.int .i64 kd,.string d] W fun e w'=>∃ v,e=.returned (.tuple #[v,.int .i64 0])/\ConnPost W cn y v w'):=fun W hW=>by
  have hc:=H0.out.c
  refine (crequest_any (hW.blk hc.1 (fun e=>e)) hc.2.1 kd d hd).mono ?_
  rintro e w' ⟨v,h1,h2⟩
  rw [he] at h1
  rw [<- hy] at h2
  exact ⟨v,h1,h2⟩
 have HBR:Hid (∀ v w1,ConnPost w0 cn y v w1->Calls Tryz.prog 51 #[.pointer (some ⟨n,0,none⟩),v] w1 (EndSigs k D w n (En.brought x y))):=fun v w1 hc=>(nbrought H0.out hc hf.ctl (hf.ends hye)).mono fun _ _ hz=>hz.back HLAB.out (HF0.out.mono (fun _ _ e=>e.elim))
 have HY:Hid (En.askC x kd d=((En.brought x y).1,(En.brought x y).2,0)):=by
  show _=_
  unfold En.askC
  rw [if_pos he,hy]
 obtain ⟨a11,a0,a1⟩:=KF.out w0 (Touch.refl _ _)
 have FD:Fresh w0 w0.drew:=(Touch.refl _ _).drew
 have FD2:Touch (fun b=>b=cn\/w0.heap.size<=b) w0 w0.drew:=(Touch.refl _ _).drew
 have b7:(kd==7)=false:=by simpa using hk.1
 have b8:(kd==8)=false:=by simpa using hk.2.1
 have b9:(kd==9)=false:=by simpa using hk.2.2.1
 have b10:(kd==10)=false:=by simpa using hk.2.2.2.1
 have b11:(kd==11)=false:=by simpa using hk.2.2.2.2
 generalize En.askC x kd d=Y at HY ⊢
 generalize En.brought x y=Z at HY HBR
 clear h hBX H0 HF0 HLAB hDb hD0 hcn hy hye hk he hf
 go_enter Tryz.func36,Tryz.ntmps36
 go_upto_region 1 with (fail)
 rw [<- hw0,<- hb0]
 clear hw0 hb0
 go_upto_region 2 with (fail)
 go_region_held3 (fun wx=>wx.cell? ⟨n,11,none⟩=some (.pointer (some ⟨cn,0,none⟩))/\wx.cell? ⟨b0,0,none⟩=some (.int .i64 kd)/\wx.cell? ⟨b0,1,none⟩=some (.string d))
  ((with_reducible refine KF.out _ ?_;first | with_reducible assumption | exact ((Touch.refl _ w0).drew.alloc _) | exact ((Touch.refl _ w0).alloc _).drew | (refine Touch.alloc ?_ _;assumption) | (refine Touch.st (Touch.st (Touch.st (Touch.st (Touch.st (Touch.st ?_ (.inr (Nat.le_refl _))) (.inr (Nat.le_refl _))) (.inr (Nat.le_refl _))) (.inr (Nat.le_refl _))) (.inr (Nat.le_refl _))) (.inr (Nat.le_refl _));assumption)))
  (first
   |(go_simp;go_at_call 74;(with_reducible refine (HP.out w0.drew FD).mono ?_);rintro e w1 ⟨v,rfl,hc⟩
     obtain ⟨A1,c1,A2,c2,hv,-⟩:=hc.res
     subst hv
     have FT:Touch (fun b=>b=cn\/w0.heap.size<=b) w0 w1:=((Touch.refl _ w0).drew).trans hc.touch (fun _ _ e=>.inl e))
   |(go_simp;go_at_call 74;(refine (HP.out _ (((Touch.refl _ w0).alloc _).drew)).mono ?_);rintro e w1 ⟨v,rfl,hc⟩
     obtain ⟨A1,c1,A2,c2,hv,-⟩:=hc.res
     subst hv
     have FT:Touch (fun b=>b=cn\/w0.heap.size<=b) w0 w1:=(((Touch.refl _ w0).alloc _).drew).trans hc.touch (fun _ _ e=>.inl e)
     have BX:=hc.touch.blk (Blk.new w0 170 [.slice none 0 0,.slice none 0 0,.bool false,.bool false,.int .u32 0,.int .i64 0]) (fun e=>by have:=HCN.out;omega)
     have y0:=BX.cell 0
     have y1:=BX.cell 1
     have y2:=BX.cell 2
     have y3:=BX.cell 3
     have y4:=BX.cell 4
     have y5:=BX.cell 5
     have z0:=BX.frozen 0
     have z1:=BX.frozen 1
     have z2:=BX.frozen 2
     have z3:=BX.frozen 3
     have z4:=BX.frozen 4
     have z5:=BX.frozen 5
     simp only [List.getElem?_cons_zero,List.getElem?_cons_succ] at y0 y1 y2 y3 y4 y5))
 ·have HC:=lh (HBR.out _ _ ((hc.back FD HCN.out).old ((Touch.refl _ w1).alloc (.cells #[.slice A1 y.2.sigs.length c1,.slice A2 y.2.units.length c2,.bool y.2.begins,.bool y.2.ends,.int .u32 y.2.ms,.int .i64 y.2.timer] 170))))
  clear KF HP HBR FT FD FD2 a11 a0 a1 hc
  go_wp2_with (go_at_call 51;(with_reducible refine HC.out.mono ?_);rintro e w2 ⟨D2,A3,c3,rfl,g1,g2,g3⟩;have G1:=lh g1;have G2:=lh g2;have G3:=lh g3;clear g1 g2 g3)
  go_ret2
  rw [HY.out]
  exact ⟨D2,A3,c3,rfl,G1.out,G2.out,G3.out⟩
 ·have t6:Touch (· = w0.heap.size) w1 ((((((w1.setCell ⟨w0.heap.size,0,none⟩ (.slice A1 y.2.sigs.length c1)).setCell ⟨w0.heap.size,1,none⟩ (.slice A2 y.2.units.length c2)).setCell ⟨w0.heap.size,2,none⟩ (.bool y.2.begins)).setCell ⟨w0.heap.size,3,none⟩ (.bool y.2.ends)).setCell ⟨w0.heap.size,4,none⟩ (.int .u32 y.2.ms)).setCell ⟨w0.heap.size,5,none⟩ (.int .i64 y.2.timer)):=(((((((Touch.refl (· = w0.heap.size) w1).st rfl).st rfl).st rfl).st rfl).st rfl).st rfl)
  have HC:=lh (HBR.out _ _ (hc.stored (((Touch.refl _ w0).alloc _).drew) HCN.out (Nat.le_refl _) (by simp) t6))
  clear KF HP HBR FT FD FD2 a11 a0 a1 hc t6
  go_wp2_with (go_at_call 51;(with_reducible refine HC.out.mono ?_);rintro e w2 ⟨D2,A3,c3,rfl,g1,g2,g3⟩;have G1:=lh g1;have G2:=lh g2;have G3:=lh g3;clear g1 g2 g3)
  go_ret2
  rw [HY.out]
  exact ⟨D2,A3,c3,rfl,G1.out,G2.out,G3.out⟩
end
set_option maxRecDepth 20000
section
variable {k:Nat} {D D':Nat->Nat} {w w1 w':World} {n cn pc un:Nat} {sp rp:Option Nat} {A B:Option Addr} {ca cb:Nat} {x:En.X}
theorem AskPost.back {w0:World} {D0:Nat->Nat} {y:En.X × List Cn.Sig × Int} {e:Ending} (h:AskPost k D w n y e w') (hl:Lab k D0 D w0.heap.size) (ht:Touch (All D0 k) w0 w):AskPost k D0 w0 n y e w':=by
 obtain ⟨D',A,c,h1,h2,h3,h4⟩:=h
 exact ⟨D',A,c,h1,⟨h2.at_,hl.trans h2.lab ht.size,ht.then hl h2.touch⟩,h3,fun ad e=>⟨Nat.le_trans ht.size (h4 ad e).1,(h4 ad e).2⟩⟩
theorem En.ask_sg (hl:x.left.length<=1000000) (kd:Int) (d:ByteArray) (m:Int):(En.ask x kd d m).2.1.length<=1000000:=by
 unfold En.ask
 repeat' split
 ·unfold En.putS
  split
  ·simp
  ·split <;> simp
 ·unfold En.putU;split <;> simp
 ·unfold En.putU;split <;> simp
 ·simp
 ·simpa using hl
 ·unfold En.askC
  split
  ·exact Nat.le_trans (En.brought_sg x (Cn.ask_ends _ _ _)) (by decide)
  ·simp
theorem nrequest_of (h:EndIn k D w n cn pc un sp rp A ca B cb x) {hi hi2:Int} (hf:En.Fit x hi hi2) (hl:x.left.length<=1000000) (kd:Int) (d:ByteArray) (m:Int) (HP:∀ D W,EndIn k D W n cn pc un sp rp A ca B cb x->Ru.may x.conn.state kd=true->Calls Tryz.prog 36 #[.pointer (some ⟨n,0,none⟩),.agg #[.int .i64 kd,.string d,.int .i64 m]] W (AskPost k D W n (En.ask x kd d m))) :
  Calls Tryz.prog 15 #[.pointer (some ⟨n,0,none⟩),.agg #[.int .i64 kd,.string d,.int .i64 m]] w (AskPost k D w n (En.request x kd d m)):=by
 obtain ⟨w0,hw0⟩:=xq (w.alloc (.cells #[.int .i64 kd,.string d,.int .i64 m] 40))
 obtain ⟨b0,hb0⟩:=xq w.heap.size
 obtain ⟨D0,hD0⟩:=xq (lab D w.heap.size (k+8))
 have HF0:Hid (Fresh w w0):=by rw [hw0];exact (Touch.refl _ _).alloc _
 have HLAB:Hid (Lab k D D0 w.heap.size):=by rw [hD0];exact lab_lab k D _ 8 (by omega)
 have hBX:Blk w0 b0 40 [.int .i64 kd,.string d,.int .i64 m]:=by rw [hw0,hb0];exact Blk.new w _ _
 have H0:Hid (EndIn k D0 w0 n cn pc un sp rp A ca B cb x):=h.old HF0.out (fun b hb=>HLAB.out.1 b hb)
 have KF:Hid (∀ wx,Fresh w0 wx->wx.cell? ⟨n,11,none⟩=some (.pointer (some ⟨cn,0,none⟩))/\wx.cell? ⟨b0,0,none⟩=some (.int .i64 kd)/\wx.cell? ⟨b0,1,none⟩=some (.string d)/\wx.cell? ⟨b0,2,none⟩=some (.int .i64 m)):=fun wx hw =>
  have h1:=hw.blk H0.out.b.1 (fun e=>e)
  have h2:=hw.blk hBX (fun e=>e)
  ⟨h1.cell 11,h2.cell 0,h2.cell 1,h2.cell 2⟩
 obtain ⟨V,hV⟩:∃ V:Value,V=.agg #[.int .i64 x.conn.state,.int .i64 x.conn.sq,.int .i64 x.conn.peer,.int .i64 x.conn.cc,.int .u32 x.conn.ms]:=⟨_,rfl⟩
 have hfd:∀ W,(Instr.field 55 V 0).run Tryz.prog W=.ok (.int .i64 x.conn.state) W:=fun W=>by rw [hV];exact field_state _ _ _ _ _ W
 have HV:Hid (∀ W,Fresh w0 W->Calls Tryz.prog 20 #[.pointer (some ⟨cn,0,none⟩)] W fun e w'=>e=.returned V/\Fresh W w'):=fun W hW=>by
  rw [hV];exact vars_any (hW.blk H0.out.c.1 (fun e=>e))
 clear hV
 have HE0:Hid (∀ W er,Fresh w0 W->AskPost k D w n (x,[],er) (.returned (.tuple #[.slice none 0 0,.int .i64 er])) W):=fun W er hW =>
  ⟨D0,none,0,rfl,⟨⟨_,_,_,_,_,_,_,_,_,H0.out.old hW (fun _ _=>rfl)⟩,HLAB.out,(HF0.out.mono (fun _ _ e=>e.elim)).trans hW (fun _ _ e=>e.elim)⟩,Sl.nil _ _,fun _ e=>nomatch e⟩
 have HAK:Hid (∀ W,Fresh w0 W->Ru.may x.conn.state kd=true->Calls Tryz.prog 36 #[.pointer (some ⟨n,0,none⟩),.agg #[.int .i64 kd,.string d,.int .i64 m]] W (AskPost k D w n (En.ask x kd d m))):=fun W hW hm =>
  (HP D0 W (H0.out.old hW (fun _ _=>rfl)) hm).mono fun _ _ hz=>hz.back HLAB.out ((HF0.out.mono (fun _ _ e=>e.elim)).trans hW (fun _ _ e=>e.elim))
 have hak:=En.ask_ok hf kd d m
 have hsg:=En.ask_sg (x:=x) hl kd d m
 have HRQ:Hid (En.request x kd d m=if Ev.err kd d m=0 then (if Ru.may x.conn.state kd then (if (En.ask x kd d m).2.2=0 then ((En.credit (En.ask x kd d m).1 (En.ask x kd d m).2.1).1,(En.credit (En.ask x kd d m).1 (En.ask x kd d m).2.1).2,0) else ((En.ask x kd d m).1,[],(En.ask x kd d m).2.2)) else (x,[],8)) else (x,[],Ev.err kd d m)):=rfl
 generalize En.ask x kd d m=Y at HAK hak hsg HRQ
 have HCR:Hid (∀ D' A c w1,EndTo k D D' w w1 n Y.1->Sl sigE w1 A c Y.2.1->(∀ ad,A=some ad->w.heap.size<=ad.block/\D' ad.block=k+8)->Calls Tryz.prog 37 #[.pointer (some ⟨n,0,none⟩),.slice A Y.2.1.length c] w1 (EndSigs k D w n (En.credit Y.1 Y.2.1))):=fun D' A c w1 h1 h2 h3=>ncredit_to (y:=(Y.1,Y.2.1)) h1 h2 h3 hak hsg
 generalize En.request x kd d m=R at HRQ ⊢
 obtain ⟨er,her⟩:=qx (Ev.err kd d m)
 obtain ⟨my,hmy⟩:=qx (Ru.may x.conn.state kd)
 have HCK:Hid (Calls Tryz.prog 34 #[.agg #[.int .i64 kd,.string d,.int .i64 m]] w0 fun e w'=>e=.returned (.int .i64 er)/\Fresh w0 w'):=by
  have:=evcheck_any kd d m w0
  rw [her] at this
  exact this
 have HMY:Hid (∀ W,Calls Tryz.prog 35 #[.int .i64 x.conn.state,.int .i64 kd] W fun e w'=>e=.returned (.bool my)/\Fresh W w'):=fun W=>by
  have:=may_any x.conn.state kd W
  rw [hmy] at this
  exact this
 rw [her,hmy] at HRQ
 rw [hmy] at HAK
 obtain ⟨a11,a0,a1,a2⟩:=KF.out w0 (Touch.refl _ _)
 clear h hBX H0 HF0 HLAB hD0 hf hl hak hsg her hmy HP
 go_enter Tryz.func15,Tryz.ntmps15
 go_upto_region 1 with (fail)
 rw [<- hw0,<- hb0]
 clear hw0 hb0
 go_upto_region 2 with (go_at_call 34;(with_reducible refine HCK.out.mono ?_);rintro e w1 ⟨rfl,F1⟩)
 have HF1:=lh F1
 clear a11 a0 a1 a2 F1 HCK
 by_cases he:er=0
 ·subst he
  have HRQ2:Hid (R=if my then (if Y.2.2=0 then ((En.credit Y.1 Y.2.1).1,(En.credit Y.1 Y.2.1).2,0) else (Y.1,[],Y.2.2)) else (x,[],8)):=HRQ.out.trans (if_pos rfl)
  clear HRQ
  obtain ⟨a11,a0,a1,a2⟩:=KF.out w1 HF1.out
  have FD:Fresh w0 w1.drew:=HF1.out.drew
  go_upto_region 4 with (fail)
  go_region_held3 (fun wx=>wx.cell? ⟨n,11,none⟩=some (.pointer (some ⟨cn,0,none⟩))/\wx.cell? ⟨b0,0,none⟩=some (.int .i64 kd))
   ((with_reducible refine ⟨(KF.out _ ?_).1,(KF.out _ ?_).2.1⟩) <;> first | with_reducible assumption)
   (first
    |(go_simp;go_at_call 20;(with_reducible refine (HV.out _ FD).mono ?_);rintro e w2 ⟨rfl,f2⟩
      have F2:Fresh w0 w2:=FD.trans f2 (fun _ _ e=>e))
    |(go_simp;go_at_call 35;(with_reducible refine (HMY.out _).mono ?_);rintro e w3 ⟨rfl,f3⟩
      have F3:Fresh w0 w3:=F2.trans f3 (fun _ _ e=>e)))
  all_goals
   have HF3:=lh F3
   clear F3 F2 f2 f3 FD HF1 a11 a0 a1 a2
   obtain ⟨a11,a0,a1,a2⟩:=KF.out w3 HF3.out
   cases my with
   |false =>
    have hR:R=(x,[],8):=HRQ2.out.trans (if_neg (by decide))
    subst hR
    have HZ:=lh (HE0.out w3 8 HF3.out)
    clear HRQ2 HCR HAK HE0 HV HMY KF HF3
    go_wp2
    go_ret2
    exact HZ.out
   |true =>
    have HRQ3:Hid (R=if Y.2.2=0 then ((En.credit Y.1 Y.2.1).1,(En.credit Y.1 Y.2.1).2,0) else (Y.1,[],Y.2.2)):=HRQ2.out.trans (if_pos rfl)
    have HA:=lh (HAK.out w3 HF3.out rfl)
    obtain ⟨Y1,L,e2⟩:=Y
    have HRQ4:Hid (R=if e2=0 then ((En.credit Y1 L).1,(En.credit Y1 L).2,0) else (Y1,[],e2)):=HRQ3.out
    have HC2:Hid (∀ D' A c w1,EndTo k D D' w w1 n Y1->Sl sigE w1 A c L->(∀ ad,A=some ad->w.heap.size<=ad.block/\D' ad.block=k+8)->Calls Tryz.prog 37 #[.pointer (some ⟨n,0,none⟩),.slice A L.length c] w1 (EndSigs k D w n (En.credit Y1 L))):=HCR.out
    clear HRQ3 HRQ2 HCR HAK HE0 HV HMY KF HF3 hfd
    generalize En.credit Y1 L=Q at HRQ4 HC2
    by_cases h2:e2=0
    ·subst h2
     have hR:R=(Q.1,Q.2,0):=HRQ4.out.trans (if_pos rfl)
     subst hR
     clear HRQ4
     go_wp2_with (first
      |(go_at_call 36;(with_reducible refine HA.out.mono ?_);rintro e w4 ⟨D4,A4,c4,rfl,g1,g2,g3⟩;have HD:=lh (HC2.out D4 A4 c4 w4 g1 g2 g3);clear g1 g2 g3)
      |(go_at_call 37;(with_reducible refine HD.out.mono ?_);rintro e w5 ⟨D5,A5,c5,rfl,g1,g2,g3⟩;have G1:=lh g1;have G2:=lh g2;have G3:=lh g3;clear g1 g2 g3))
     go_ret2
     exact ⟨D5,A5,c5,rfl,G1.out,G2.out,G3.out⟩
    ·have be:(e2 != 0)=true:=by simpa using h2
     have hR:R=(Y1,[],e2):=HRQ4.out.trans (if_neg h2)
     subst hR
     clear HRQ4 h2 HC2
     go_wp2_with (first
      |(go_at_call 36;(with_reducible refine HA.out.mono ?_);rintro e w4 ⟨D4,A4,c4,rfl,g1,g2,g3⟩;have G1:=lh g1;clear g1 g2 g3))
     go_ret2
     exact ⟨D4,none,0,rfl,G1.out,Sl.nil _ _,fun _ e=>nomatch e⟩
 ·have be:(er != 0)=true:=by simpa using he
  have hR:R=(x,[],er):=by rw [HRQ.out,if_neg he]
  subst hR
  have HZ:=lh (HE0.out w1 er HF1.out)
  clear he HRQ HCR HAK HE0 HV HMY KF HF1
  go_wp2
  go_ret2
  exact HZ.out
theorem nrequest_conn (h:EndIn k D w n cn pc un sp rp A ca B cb x) {hi hi2:Int} (hf:En.Fit x hi hi2) (hl:x.left.length<=1000000) (kd:Int) (d:ByteArray) (m:Int) (hd:d.size<=maxLen) (hk:kd<7) (he:Cn.askErr x.conn kd d=0) :
  Calls Tryz.prog 15 #[.pointer (some ⟨n,0,none⟩),.agg #[.int .i64 kd,.string d,.int .i64 m]] w (AskPost k D w n (En.request x kd d m)):=
 nrequest_of h hf hl kd d m fun _ _ h0 _=>by
  have e:En.ask x kd d m=En.askC x kd d:=by
   unfold En.ask
   rw [if_neg (by omega),if_neg (by omega),if_neg (by omega),if_neg (by omega),if_neg (by omega)]
  rw [e]
  exact nask_conn h0 hf kd d m hd ⟨by omega,by omega,by omega,by omega,by omega⟩ he
end
end Go.Proofs.YtlbopdfobgjjaaaGreatDoor

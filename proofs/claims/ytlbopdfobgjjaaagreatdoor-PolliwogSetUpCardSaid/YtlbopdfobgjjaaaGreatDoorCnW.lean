/-
  conn: its calls: Fail, Silent, Expire, Receive, Request · A connection's results, plain: an epoch ends only out of Ready; begins only where it ends or is none. No program is named · conn: Request · polliwoglaw14: awake; a result in its box.
-/
import Derived.Test.YtlbopdfobgjjaaaGreatDoorCnH
import Derived.Shelf.Abstract
import Derived.Outline
set_option maxHeartbeats 4000000
namespace Go.Proofs.YtlbopdfobgjjaaaGreatDoor
open Go.RowKit Go.Shelf
theorem Blk.st6 {w:World} {g:Nat} {t:TypeId} {a0 a1 a2 a3 a4 a5:Value} (h:Blk w g t [a0,a1,a2,a3,a4,a5]) (v0 v1 v2 v3 v4 v5:Value) :
  Blk ((((((w.setCell ⟨g,0,none⟩ (v0)).setCell ⟨g,1,none⟩ (v1)).setCell ⟨g,2,none⟩ (v2)).setCell ⟨g,3,none⟩ (v3)).setCell ⟨g,4,none⟩ (v4)).setCell ⟨g,5,none⟩ (v5)) g t [v0,v1,v2,v3,v4,v5]/\Touch (· = g) w ((((((w.setCell ⟨g,0,none⟩ (v0)).setCell ⟨g,1,none⟩ (v1)).setCell ⟨g,2,none⟩ (v2)).setCell ⟨g,3,none⟩ (v3)).setCell ⟨g,4,none⟩ (v4)).setCell ⟨g,5,none⟩ (v5)):=
 ⟨(((((h.set 0 v0).set 1 v1).set 2 v2).set 3 v3).set 4 v4).set 5 v5,((((((Touch.refl _ _).st (by exact rfl)).st (by exact rfl)).st (by exact rfl)).st (by exact rfl)).st (by exact rfl)).st (by exact rfl)⟩
theorem ConnPost.stored {w W w1 w2:World} {c g:Nat} {y:Cn.SR} {v:Value} (h:ConnPost W c y v w1) (ht0:Fresh w W) (hc:c<w.heap.size) (hg:w.heap.size<=g) (hW:g<W.heap.size) (ht:Touch (· = g) w1 w2):ConnPost w c y v w2:=by
 obtain ⟨A1,c1,A2,c2,e,s1,s2,b1,b2⟩:=h.res
 have hz:=ht0.size
 refine ⟨ht.blk h.conn (by intro e;have e:c=g:=e;omega),h.ok,h.few,⟨A1,c1,A2,c2,e,s1.touch ht (fun ad e e'=>?_),s2.touch ht (fun ad e e'=>?_),fun ad e=>Nat.le_trans hz (b1 ad e),fun ad e=>Nat.le_trans hz (b2 ad e)⟩,?_⟩
 ·have:=b1 ad e;have e':ad.block=g:=e';omega
 ·have:=b2 ad e;have e':ad.block=g:=e';omega
 ·refine ((ht0.mono fun _ _ e=>e.elim).trans h.touch (fun _ _ e=>e)).trans (ht.mono (T:=fun k=>k=g) fun _ _ e=>e) (fun k hk e=>?_)
  have e:k=g:=e;omega
theorem ConnPost.none {w w':World} {c:Nat} {s:Cn.S} (h:ConnAt w c s) (ho:Cn.Ok s) (ht:Fresh w w'):ConnPost w c (s,Cn.r0) (.agg #[.slice none 0 0,.slice none 0 0,.bool false,.bool false,.int .u32 0,.int .i64 0]) w':=
 ⟨ht.blk h (fun e=>e),ho,⟨Nat.zero_le _,Nat.zero_le _⟩,⟨Option.none,0,Option.none,0,rfl,Sl.nil _ _,Sl.nil _ _,(fun _ e=>nomatch e),(fun _ e=>nomatch e)⟩,ht.mono fun _ _ e=>e.elim⟩
namespace Cn
def failS (s:S) (code:Int):SR:=if s.state=10 then fail (s,r0) code else (s,r0)
def silentS (s:S):SR:=if s.state=10 then silent (s,r0) else (s,r0)
def expireS (s:S):SR:=expire (s,r0)
def hearS (s:S) (p:Pd):SR:=hear (Ru.of_ s.state p.kind) (Ru.letter p.kind) (s,r0) p
def bigAsk (kind:Int) (d:ByteArray):Bool:=decide (64<(d.size:Int)) && (kind==1 || kind==3 || kind==4)
def askErr (s:S) (kind:Int) (d:ByteArray):Int:=if kind<1\/6<kind then 10 else if bigAsk kind d then 6 else if Ru.may s.state kind then 0 else 8
def askS (s:S) (kind:Int) (d:ByteArray):SR:=if askErr s kind d=0 then ask (s,r0) kind d else (s,r0)
end Cn
theorem silent_any {w:World} {c:Nat} {s:Cn.S} (h:ConnAt w c s) (ho:Cn.Ok s) :
  Calls Tryz.prog 53 #[.pointer (some ⟨c,0,none⟩)] w fun e w'=>∃ v,e=.returned v/\ConnPost w c (Cn.silentS s) v w':=by
 have HC:=lh h
 have HO:=lh ho
 have HLT:Hid (c<w.heap.size):=Blk.lt h
 have HS2:Hid (∀ W,Fresh w W->W.cell? ⟨c,2,none⟩=some (.int .i64 s.state)):=fun W hf=>Blk.cell (hf.blk h (fun e=>e)) 2
 clear h ho
 have HF:Hid (Fresh w (w.alloc (.cells #[.slice none 0 0,.slice none 0 0,.bool false,.bool false,.int .u32 0,.int .i64 0] 170))):=(Touch.refl _ w).alloc _
 have HR:Hid (Blk (w.alloc (.cells #[.slice none 0 0,.slice none 0 0,.bool false,.bool false,.int .u32 0,.int .i64 0] 170)) w.heap.size 170 [.slice none 0 0,.slice none 0 0,.bool false,.bool false,.int .u32 0,.int .i64 0]):=Blk.new _ _ _
 have HGG:Hid (w.heap.size<=w.heap.size):=Nat.le_refl _
 have HGW:Hid (w.heap.size<(w.alloc (.cells #[.slice none 0 0,.slice none 0 0,.bool false,.bool false,.int .u32 0,.int .i64 0] 170)).heap.size):=by simp [Hid]
 have s2:=HS2.out _ HF.out
 by_cases e1:s.state=10
 ·have b1:(s.state != 10)=false:=by simpa using e1
  have HE:Hid (Cn.silentS s=(Cn.silent (s,Cn.r0))):=by unfold Hid Cn.silentS;rw [if_pos e1]
  clear e1
  rw [HE.out]
  go_enter Tryz.func53,Tryz.ntmps53
  go_upto_region 1 with (fail)
  generalize (w.alloc (.cells #[.slice none 0 0,.slice none 0 0,.bool false,.bool false,.int .u32 0,.int .i64 0] 170))=W at *
  have HCW:Hid (ConnAt W c s):=HF.out.blk HC.out (fun e=>e)
  go_wp2_with fail
  refine (done_any (m:=3) HCW.out HO.out 113 #[] (by omega) (enters_of Tryz.func113 (by kernel_rfl) rfl) (y:=(Cn.silent (s,Cn.r0))) (fun W0 a w1 hf1 hf2 hi=>(silentcl_any hi (by omega)).mono fun e w' h=>⟨h.1,h.2.1.wide (by omega),h.2.2⟩)).mono ?_
  rintro e w2 ⟨v,rfl,hp⟩
  have HP:=lh hp
  obtain ⟨A1,c1,A2,c2,rfl,_,_,_,_⟩:=hp.res
  have hbr:=hp.touch.blk HR.out (by intro e;have e:w.heap.size=c:=e;have:=HLT.out;omega)
  clear hp
  have HBR:=lh hbr
  have r0:=HBR.out.cell 0
  have r1:=HBR.out.cell 1
  have r2:=HBR.out.cell 2
  have r3:=HBR.out.cell 3
  have r4:=HBR.out.cell 4
  have r5:=HBR.out.cell 5
  have f0:=HBR.out.frozen 0
  have f1:=HBR.out.frozen 1
  have f2:=HBR.out.frozen 2
  have f3:=HBR.out.frozen 3
  have f4:=HBR.out.frozen 4
  have f5:=HBR.out.frozen 5
  simp only [List.getElem?_cons_zero,List.getElem?_cons_succ] at r0 r1 r2 r3 r4 r5
  clear hbr
  go_wp2
  obtain ⟨hb6,ht6⟩:=HBR.out.st6 (.slice A1 (Cn.silent (s,Cn.r0)).2.sigs.length c1) (.slice A2 (Cn.silent (s,Cn.r0)).2.units.length c2) (.bool (Cn.silent (s,Cn.r0)).2.begins) (.bool (Cn.silent (s,Cn.r0)).2.ends) (.int .u32 (Cn.silent (s,Cn.r0)).2.ms) (.int .i64 (Cn.silent (s,Cn.r0)).2.timer)
  have HX:=lh (HP.out.stored HF.out HLT.out HGG.out HGW.out ht6)
  generalize ((((((w2.setCell ⟨w.heap.size,0,none⟩ (.slice A1 (Cn.silent (s,Cn.r0)).2.sigs.length c1)).setCell ⟨w.heap.size,1,none⟩ (.slice A2 (Cn.silent (s,Cn.r0)).2.units.length c2)).setCell ⟨w.heap.size,2,none⟩ (.bool (Cn.silent (s,Cn.r0)).2.begins)).setCell ⟨w.heap.size,3,none⟩ (.bool (Cn.silent (s,Cn.r0)).2.ends)).setCell ⟨w.heap.size,4,none⟩ (.int .u32 (Cn.silent (s,Cn.r0)).2.ms)).setCell ⟨w.heap.size,5,none⟩ (.int .i64 (Cn.silent (s,Cn.r0)).2.timer))=w6 at *
  have z0:=hb6.cell 0
  have z1:=hb6.cell 1
  have z2:=hb6.cell 2
  have z3:=hb6.cell 3
  have z4:=hb6.cell 4
  have z5:=hb6.cell 5
  simp only [List.getElem?_cons_zero,List.getElem?_cons_succ] at z0 z1 z2 z3 z4 z5
  exact bodyPost_ret (v:=_) (by simp [results,Tryz.results53,go_sem,z0,z1,z2,z3,z4,z5]) rfl ⟨_,rfl,HX.out⟩
 ·have b1:(s.state != 10)=true:=by simpa using e1
  have HE:Hid (Cn.silentS s=(s,Cn.r0)):=by unfold Hid Cn.silentS;rw [if_neg e1]
  have HX:=lh (ConnPost.none HC.out HO.out HF.out)
  clear e1
  rw [HE.out]
  go_enter Tryz.func53,Tryz.ntmps53
  go_wp2
  exact bodyPost_ret (v:=_) (by simp [results,Tryz.results53,go_sem]) rfl ⟨_,rfl,HX.out⟩
theorem expire_any {w:World} {c:Nat} {s:Cn.S} (h:ConnAt w c s) (ho:Cn.Ok s) :
  Calls Tryz.prog 52 #[.pointer (some ⟨c,0,none⟩)] w fun e w'=>∃ v,e=.returned v/\ConnPost w c (Cn.expireS s) v w':=by
 have HC:=lh h
 have HO:=lh ho
 have HLT:Hid (c<w.heap.size):=Blk.lt h
 have HS2:Hid (∀ W,Fresh w W->W.cell? ⟨c,2,none⟩=some (.int .i64 s.state)):=fun W hf=>Blk.cell (hf.blk h (fun e=>e)) 2
 clear h ho
 have HF:Hid (Fresh w (w.alloc (.cells #[.slice none 0 0,.slice none 0 0,.bool false,.bool false,.int .u32 0,.int .i64 0] 170))):=(Touch.refl _ w).alloc _
 have HR:Hid (Blk (w.alloc (.cells #[.slice none 0 0,.slice none 0 0,.bool false,.bool false,.int .u32 0,.int .i64 0] 170)) w.heap.size 170 [.slice none 0 0,.slice none 0 0,.bool false,.bool false,.int .u32 0,.int .i64 0]):=Blk.new _ _ _
 have HGG:Hid (w.heap.size<=w.heap.size):=Nat.le_refl _
 have HGW:Hid (w.heap.size<(w.alloc (.cells #[.slice none 0 0,.slice none 0 0,.bool false,.bool false,.int .u32 0,.int .i64 0] 170)).heap.size):=by simp [Hid]
 have s2:=HS2.out _ HF.out
 have HE:Hid (Cn.expireS s=(Cn.expire (s,Cn.r0))):=rfl
 rw [HE.out]
 go_enter Tryz.func52,Tryz.ntmps52
 go_upto_region 1 with (fail)
 generalize (w.alloc (.cells #[.slice none 0 0,.slice none 0 0,.bool false,.bool false,.int .u32 0,.int .i64 0] 170))=W at *
 have HCW:Hid (ConnAt W c s):=HF.out.blk HC.out (fun e=>e)
 go_wp2_with fail
 refine (done_any (m:=3) HCW.out HO.out 107 #[] (by omega) (enters_of Tryz.func107 (by kernel_rfl) rfl) (y:=(Cn.expire (s,Cn.r0))) (fun W0 a w1 hf1 hf2 hi=>(expirecl_any hi (by omega)).mono fun e w' h=>⟨h.1,h.2.1.wide (by omega),h.2.2⟩)).mono ?_
 rintro e w2 ⟨v,rfl,hp⟩
 have HP:=lh hp
 obtain ⟨A1,c1,A2,c2,rfl,_,_,_,_⟩:=hp.res
 have hbr:=hp.touch.blk HR.out (by intro e;have e:w.heap.size=c:=e;have:=HLT.out;omega)
 clear hp
 have HBR:=lh hbr
 have r0:=HBR.out.cell 0
 have r1:=HBR.out.cell 1
 have r2:=HBR.out.cell 2
 have r3:=HBR.out.cell 3
 have r4:=HBR.out.cell 4
 have r5:=HBR.out.cell 5
 have f0:=HBR.out.frozen 0
 have f1:=HBR.out.frozen 1
 have f2:=HBR.out.frozen 2
 have f3:=HBR.out.frozen 3
 have f4:=HBR.out.frozen 4
 have f5:=HBR.out.frozen 5
 simp only [List.getElem?_cons_zero,List.getElem?_cons_succ] at r0 r1 r2 r3 r4 r5
 clear hbr
 go_wp2
 obtain ⟨hb6,ht6⟩:=HBR.out.st6 (.slice A1 (Cn.expire (s,Cn.r0)).2.sigs.length c1) (.slice A2 (Cn.expire (s,Cn.r0)).2.units.length c2) (.bool (Cn.expire (s,Cn.r0)).2.begins) (.bool (Cn.expire (s,Cn.r0)).2.ends) (.int .u32 (Cn.expire (s,Cn.r0)).2.ms) (.int .i64 (Cn.expire (s,Cn.r0)).2.timer)
 have HX:=lh (HP.out.stored HF.out HLT.out HGG.out HGW.out ht6)
 generalize ((((((w2.setCell ⟨w.heap.size,0,none⟩ (.slice A1 (Cn.expire (s,Cn.r0)).2.sigs.length c1)).setCell ⟨w.heap.size,1,none⟩ (.slice A2 (Cn.expire (s,Cn.r0)).2.units.length c2)).setCell ⟨w.heap.size,2,none⟩ (.bool (Cn.expire (s,Cn.r0)).2.begins)).setCell ⟨w.heap.size,3,none⟩ (.bool (Cn.expire (s,Cn.r0)).2.ends)).setCell ⟨w.heap.size,4,none⟩ (.int .u32 (Cn.expire (s,Cn.r0)).2.ms)).setCell ⟨w.heap.size,5,none⟩ (.int .i64 (Cn.expire (s,Cn.r0)).2.timer))=w6 at *
 have z0:=hb6.cell 0
 have z1:=hb6.cell 1
 have z2:=hb6.cell 2
 have z3:=hb6.cell 3
 have z4:=hb6.cell 4
 have z5:=hb6.cell 5
 simp only [List.getElem?_cons_zero,List.getElem?_cons_succ] at z0 z1 z2 z3 z4 z5
 exact bodyPost_ret (v:=_) (by simp [results,Tryz.results52,go_sem,z0,z1,z2,z3,z4,z5]) rfl ⟨_,rfl,HX.out⟩
theorem cfail_any {w:World} {c:Nat} {s:Cn.S} (h:ConnAt w c s) (ho:Cn.Ok s) (code:Int) :
  Calls Tryz.prog 214 #[.pointer (some ⟨c,0,none⟩),.int .u8 code] w fun e w'=>∃ v,e=.returned v/\ConnPost w c (Cn.failS s code) v w':=by
 have HC:=lh h
 have HO:=lh ho
 have HLT:Hid (c<w.heap.size):=Blk.lt h
 have HS2:Hid (∀ W,Fresh w W->W.cell? ⟨c,2,none⟩=some (.int .i64 s.state)):=fun W hf=>Blk.cell (hf.blk h (fun e=>e)) 2
 clear h ho
 have HF:Hid (Fresh w ((w.alloc (.cells #[.int .u8 code] 5)).alloc (.cells #[.slice none 0 0,.slice none 0 0,.bool false,.bool false,.int .u32 0,.int .i64 0] 170))):=((Touch.refl _ w).alloc _).alloc _
 have HR:Hid (Blk ((w.alloc (.cells #[.int .u8 code] 5)).alloc (.cells #[.slice none 0 0,.slice none 0 0,.bool false,.bool false,.int .u32 0,.int .i64 0] 170)) (w.heap.size+1) 170 [.slice none 0 0,.slice none 0 0,.bool false,.bool false,.int .u32 0,.int .i64 0]):=by
  have:=Blk.new (w.alloc (.cells #[.int .u8 code] 5)) 170 [.slice none 0 0,.slice none 0 0,.bool false,.bool false,.int .u32 0,.int .i64 0]
  rwa [show (w.alloc (.cells #[.int .u8 code] 5)).heap.size=w.heap.size+1 by simp] at this
 have HBC:Hid (Blk ((w.alloc (.cells #[.int .u8 code] 5)).alloc (.cells #[.slice none 0 0,.slice none 0 0,.bool false,.bool false,.int .u32 0,.int .i64 0] 170)) w.heap.size 5 [.int .u8 code]):=(Blk.new w _ _).alloc _
 have HGG:Hid (w.heap.size<=w.heap.size+1):=Nat.le_succ _
 have HGW:Hid (w.heap.size+1<((w.alloc (.cells #[.int .u8 code] 5)).alloc (.cells #[.slice none 0 0,.slice none 0 0,.bool false,.bool false,.int .u32 0,.int .i64 0] 170)).heap.size):=by simp [Hid]
 have s2:=HS2.out _ HF.out
 by_cases e1:s.state=10
 ·have b1:(s.state != 10)=false:=by simpa using e1
  have HE:Hid (Cn.failS s code=(Cn.fail (s,Cn.r0) code)):=by unfold Hid Cn.failS;rw [if_pos e1]
  clear e1
  rw [HE.out]
  go_enter Tryz.func214,Tryz.ntmps214
  go_upto_region 1 with (fail)
  generalize ((w.alloc (.cells #[.int .u8 code] 5)).alloc (.cells #[.slice none 0 0,.slice none 0 0,.bool false,.bool false,.int .u32 0,.int .i64 0] 170))=W at *
  have HCW:Hid (ConnAt W c s):=HF.out.blk HC.out (fun e=>e)
  go_wp2_with fail
  refine (done_any (m:=2) HCW.out HO.out 237 #[.pointer (some ⟨w.heap.size,0,none⟩)] (by omega) (enters_of Tryz.func237 (by kernel_rfl) rfl) (y:=(Cn.fail (s,Cn.r0) code)) (fun W0 a w1 hf1 hf2 hi=>(failcl_any hi (by omega) (hf2.blk (hf1.blk HBC.out (fun e=>e)) (fun e=>e)) ⟨Nat.lt_of_lt_of_le HBC.out.lt hf1.size,by have:=HLT.out;omega⟩).mono fun e w' h=>⟨h.1,h.2.1.wide (by omega),h.2.2⟩)).mono ?_
  rintro e w2 ⟨v,rfl,hp⟩
  have HP:=lh hp
  obtain ⟨A1,c1,A2,c2,rfl,_,_,_,_⟩:=hp.res
  have hbr:=hp.touch.blk HR.out (by intro e;have e:w.heap.size+1=c:=e;have:=HLT.out;omega)
  clear hp
  have HBR:=lh hbr
  have r0:=HBR.out.cell 0
  have r1:=HBR.out.cell 1
  have r2:=HBR.out.cell 2
  have r3:=HBR.out.cell 3
  have r4:=HBR.out.cell 4
  have r5:=HBR.out.cell 5
  have f0:=HBR.out.frozen 0
  have f1:=HBR.out.frozen 1
  have f2:=HBR.out.frozen 2
  have f3:=HBR.out.frozen 3
  have f4:=HBR.out.frozen 4
  have f5:=HBR.out.frozen 5
  simp only [List.getElem?_cons_zero,List.getElem?_cons_succ] at r0 r1 r2 r3 r4 r5
  clear hbr
  go_wp2
  obtain ⟨hb6,ht6⟩:=HBR.out.st6 (.slice A1 (Cn.fail (s,Cn.r0) code).2.sigs.length c1) (.slice A2 (Cn.fail (s,Cn.r0) code).2.units.length c2) (.bool (Cn.fail (s,Cn.r0) code).2.begins) (.bool (Cn.fail (s,Cn.r0) code).2.ends) (.int .u32 (Cn.fail (s,Cn.r0) code).2.ms) (.int .i64 (Cn.fail (s,Cn.r0) code).2.timer)
  have HX:=lh (HP.out.stored HF.out HLT.out HGG.out HGW.out ht6)
  generalize ((((((w2.setCell ⟨w.heap.size+1,0,none⟩ (.slice A1 (Cn.fail (s,Cn.r0) code).2.sigs.length c1)).setCell ⟨w.heap.size+1,1,none⟩ (.slice A2 (Cn.fail (s,Cn.r0) code).2.units.length c2)).setCell ⟨w.heap.size+1,2,none⟩ (.bool (Cn.fail (s,Cn.r0) code).2.begins)).setCell ⟨w.heap.size+1,3,none⟩ (.bool (Cn.fail (s,Cn.r0) code).2.ends)).setCell ⟨w.heap.size+1,4,none⟩ (.int .u32 (Cn.fail (s,Cn.r0) code).2.ms)).setCell ⟨w.heap.size+1,5,none⟩ (.int .i64 (Cn.fail (s,Cn.r0) code).2.timer))=w6 at *
  have z0:=hb6.cell 0
  have z1:=hb6.cell 1
  have z2:=hb6.cell 2
  have z3:=hb6.cell 3
  have z4:=hb6.cell 4
  have z5:=hb6.cell 5
  simp only [List.getElem?_cons_zero,List.getElem?_cons_succ] at z0 z1 z2 z3 z4 z5
  exact bodyPost_ret (v:=_) (by simp [results,Tryz.results214,go_sem,z0,z1,z2,z3,z4,z5]) rfl ⟨_,rfl,HX.out⟩
 ·have b1:(s.state != 10)=true:=by simpa using e1
  have HE:Hid (Cn.failS s code=(s,Cn.r0)):=by unfold Hid Cn.failS;rw [if_neg e1]
  have HX:=lh (ConnPost.none HC.out HO.out HF.out)
  clear e1
  rw [HE.out]
  go_enter Tryz.func214,Tryz.ntmps214
  go_wp2
  exact bodyPost_ret (v:=_) (by simp [results,Tryz.results214,go_sem]) rfl ⟨_,rfl,HX.out⟩
theorem creceive_any {w:World} {c:Nat} {s:Cn.S} (h:ConnAt w c s) (ho:Cn.Ok s) (p:Cn.Pd) :
  Calls Tryz.prog 156 #[.pointer (some ⟨c,0,none⟩),pduV p] w fun e w'=>∃ v,e=.returned v/\ConnPost w c (Cn.hearS s p) v w':=by
 have HC:=lh h
 have HO:=lh ho
 have HLT:Hid (c<w.heap.size):=Blk.lt h
 have HS2:Hid (∀ W,Fresh w W->W.cell? ⟨c,2,none⟩=some (.int .i64 s.state)):=fun W hf=>Blk.cell (hf.blk h (fun e=>e)) 2
 clear h ho
 unfold pduV
 have HF:Hid (Fresh w (((w.alloc (.cells #[.pointer (some ⟨c,0,none⟩)] 96)).alloc (.cells #[.int .i64 p.kind,.int .i64 p.sq,.int .u32 p.n,.int .u32 p.ps,.int .u32 p.mr,.slice p.lA p.ln p.lc,.bool p.self,.string p.data] 49)).alloc (.cells #[.slice none 0 0,.slice none 0 0,.bool false,.bool false,.int .u32 0,.int .i64 0] 170))):=(((Touch.refl _ w).alloc _).alloc _).alloc _
 have HR:Hid (Blk (((w.alloc (.cells #[.pointer (some ⟨c,0,none⟩)] 96)).alloc (.cells #[.int .i64 p.kind,.int .i64 p.sq,.int .u32 p.n,.int .u32 p.ps,.int .u32 p.mr,.slice p.lA p.ln p.lc,.bool p.self,.string p.data] 49)).alloc (.cells #[.slice none 0 0,.slice none 0 0,.bool false,.bool false,.int .u32 0,.int .i64 0] 170)) (w.heap.size+1+1) 170 [.slice none 0 0,.slice none 0 0,.bool false,.bool false,.int .u32 0,.int .i64 0]):=by
  have:=Blk.new ((w.alloc (.cells #[.pointer (some ⟨c,0,none⟩)] 96)).alloc (.cells #[.int .i64 p.kind,.int .i64 p.sq,.int .u32 p.n,.int .u32 p.ps,.int .u32 p.mr,.slice p.lA p.ln p.lc,.bool p.self,.string p.data] 49)) 170 [.slice none 0 0,.slice none 0 0,.bool false,.bool false,.int .u32 0,.int .i64 0]
  rwa [show ((w.alloc (.cells #[.pointer (some ⟨c,0,none⟩)] 96)).alloc (.cells #[.int .i64 p.kind,.int .i64 p.sq,.int .u32 p.n,.int .u32 p.ps,.int .u32 p.mr,.slice p.lA p.ln p.lc,.bool p.self,.string p.data] 49)).heap.size=w.heap.size+1+1 by simp] at this
 have HBC:Hid (Blk (((w.alloc (.cells #[.pointer (some ⟨c,0,none⟩)] 96)).alloc (.cells #[.int .i64 p.kind,.int .i64 p.sq,.int .u32 p.n,.int .u32 p.ps,.int .u32 p.mr,.slice p.lA p.ln p.lc,.bool p.self,.string p.data] 49)).alloc (.cells #[.slice none 0 0,.slice none 0 0,.bool false,.bool false,.int .u32 0,.int .i64 0] 170)) w.heap.size 96 [.pointer (some ⟨c,0,none⟩)]):=((Blk.new w _ _).alloc _).alloc _
 have HBP:Hid (Blk (((w.alloc (.cells #[.pointer (some ⟨c,0,none⟩)] 96)).alloc (.cells #[.int .i64 p.kind,.int .i64 p.sq,.int .u32 p.n,.int .u32 p.ps,.int .u32 p.mr,.slice p.lA p.ln p.lc,.bool p.self,.string p.data] 49)).alloc (.cells #[.slice none 0 0,.slice none 0 0,.bool false,.bool false,.int .u32 0,.int .i64 0] 170)) (w.heap.size+1) 49 (pduE.enc p)):=by
  have:=(Blk.new (w.alloc (.cells #[.pointer (some ⟨c,0,none⟩)] 96)) 49 (pduE.enc p)).alloc (.cells #[.slice none 0 0,.slice none 0 0,.bool false,.bool false,.int .u32 0,.int .i64 0] 170)
  rwa [show (w.alloc (.cells #[.pointer (some ⟨c,0,none⟩)] 96)).heap.size=w.heap.size+1 by simp] at this
 have HGG:Hid (w.heap.size<=w.heap.size+1+1):=by unfold Hid;omega
 have HGW:Hid (w.heap.size+1+1<(((w.alloc (.cells #[.pointer (some ⟨c,0,none⟩)] 96)).alloc (.cells #[.int .i64 p.kind,.int .i64 p.sq,.int .u32 p.n,.int .u32 p.ps,.int .u32 p.mr,.slice p.lA p.ln p.lc,.bool p.self,.string p.data] 49)).alloc (.cells #[.slice none 0 0,.slice none 0 0,.bool false,.bool false,.int .u32 0,.int .i64 0] 170)).heap.size):=by simp [Hid]
 have c0:(((w.alloc (.cells #[.pointer (some ⟨c,0,none⟩)] 96)).alloc (.cells #[.int .i64 p.kind,.int .i64 p.sq,.int .u32 p.n,.int .u32 p.ps,.int .u32 p.mr,.slice p.lA p.ln p.lc,.bool p.self,.string p.data] 49)).alloc (.cells #[.slice none 0 0,.slice none 0 0,.bool false,.bool false,.int .u32 0,.int .i64 0] 170)).cell? ⟨w.heap.size,0,none⟩=some (.pointer (some ⟨c,0,none⟩)):=HBC.out.cell 0
 go_enter Tryz.func156,Tryz.ntmps156
 go_upto_region 1 with (fail)
 generalize (((w.alloc (.cells #[.pointer (some ⟨c,0,none⟩)] 96)).alloc (.cells #[.int .i64 p.kind,.int .i64 p.sq,.int .u32 p.n,.int .u32 p.ps,.int .u32 p.mr,.slice p.lA p.ln p.lc,.bool p.self,.string p.data] 49)).alloc (.cells #[.slice none 0 0,.slice none 0 0,.bool false,.bool false,.int .u32 0,.int .i64 0] 170))=W at *
 have HCW:Hid (ConnAt W c s):=HF.out.blk HC.out (fun e=>e)
 go_wp2_with fail
 refine (done_any (m:=7) HCW.out HO.out 194 #[.pointer (some ⟨w.heap.size,0,none⟩),.pointer (some ⟨w.heap.size+1,0,none⟩)] (by omega) (enters_of Tryz.func194 (by kernel_rfl) rfl) (y:=(Cn.hearS s p)) (fun W0 a w1 hf1 hf2 hi=>(hearcl_any hi (by omega) (hf2.blk (hf1.blk HBC.out (fun e=>e)) (fun e=>e)) (hf2.blk (hf1.blk HBP.out (fun e=>e)) (fun e=>e)) ⟨⟨Nat.lt_of_lt_of_le HBC.out.lt hf1.size,by have:=HLT.out;omega⟩,⟨Nat.lt_of_lt_of_le HBP.out.lt hf1.size,by have:=HLT.out;omega⟩⟩).mono fun e w' h=>⟨h.1,h.2.1.wide (by omega),h.2.2⟩)).mono ?_
 rintro e w2 ⟨v,rfl,hp⟩
 have HP:=lh hp
 obtain ⟨A1,c1,A2,c2,rfl,_,_,_,_⟩:=hp.res
 have hbr:=hp.touch.blk HR.out (by intro e;have e:w.heap.size+1+1=c:=e;have:=HLT.out;omega)
 clear hp
 have HBR:=lh hbr
 have r0:=HBR.out.cell 0
 have r1:=HBR.out.cell 1
 have r2:=HBR.out.cell 2
 have r3:=HBR.out.cell 3
 have r4:=HBR.out.cell 4
 have r5:=HBR.out.cell 5
 have f0:=HBR.out.frozen 0
 have f1:=HBR.out.frozen 1
 have f2:=HBR.out.frozen 2
 have f3:=HBR.out.frozen 3
 have f4:=HBR.out.frozen 4
 have f5:=HBR.out.frozen 5
 simp only [List.getElem?_cons_zero,List.getElem?_cons_succ] at r0 r1 r2 r3 r4 r5
 clear hbr
 go_wp2
 obtain ⟨hb6,ht6⟩:=HBR.out.st6 (.slice A1 (Cn.hearS s p).2.sigs.length c1) (.slice A2 (Cn.hearS s p).2.units.length c2) (.bool (Cn.hearS s p).2.begins) (.bool (Cn.hearS s p).2.ends) (.int .u32 (Cn.hearS s p).2.ms) (.int .i64 (Cn.hearS s p).2.timer)
 have HX:=lh (HP.out.stored HF.out HLT.out HGG.out HGW.out ht6)
 generalize ((((((w2.setCell ⟨w.heap.size+1+1,0,none⟩ (.slice A1 (Cn.hearS s p).2.sigs.length c1)).setCell ⟨w.heap.size+1+1,1,none⟩ (.slice A2 (Cn.hearS s p).2.units.length c2)).setCell ⟨w.heap.size+1+1,2,none⟩ (.bool (Cn.hearS s p).2.begins)).setCell ⟨w.heap.size+1+1,3,none⟩ (.bool (Cn.hearS s p).2.ends)).setCell ⟨w.heap.size+1+1,4,none⟩ (.int .u32 (Cn.hearS s p).2.ms)).setCell ⟨w.heap.size+1+1,5,none⟩ (.int .i64 (Cn.hearS s p).2.timer))=w6 at *
 have z0:=hb6.cell 0
 have z1:=hb6.cell 1
 have z2:=hb6.cell 2
 have z3:=hb6.cell 3
 have z4:=hb6.cell 4
 have z5:=hb6.cell 5
 simp only [List.getElem?_cons_zero,List.getElem?_cons_succ] at z0 z1 z2 z3 z4 z5
 exact bodyPost_ret (v:=_) (by simp [results,Tryz.results156,go_sem,z0,z1,z2,z3,z4,z5]) rfl ⟨_,rfl,HX.out⟩
namespace Cn
theorem backs_k (p:Pd) (kind:Int):∀ (l:List Int) (x:SR),(backs x p kind l).1=x.1/\(backs x p kind l).2.ends=x.2.ends
 |[],x=>⟨rfl,rfl⟩
 |s::l,x=>by
  unfold backs
  rw [List.foldl_cons]
  have:=backs_k p kind l (if s=x.1.state then out x (unit_ kind p.sq false no) else x)
  unfold backs at this
  rw [this.1,this.2]
  split <;> exact ⟨rfl,rfl⟩
theorem mem_out {x:SR} {p:Pd} (h:∀ u ∈ x.2.units,1<=u.kind/\u.kind<=15) (hp:1<=p.kind/\p.kind<=15):∀ u ∈ (out x p).2.units,1<=u.kind/\u.kind<=15:=by
 intro u hu
 rcases List.mem_append.1 (show u ∈ x.2.units++[crd x.1 p] from hu) with hu | hu
 ·exact h u hu
 ·rw [List.mem_singleton.1 hu]
  unfold crd
  split
  ·exact hp
  ·exact hp
theorem mem_backs (p:Pd) (kind:Int) (hk:1<=kind/\kind<=15):∀ (l:List Int) (x:SR),(∀ u ∈ x.2.units,1<=u.kind/\u.kind<=15)->∀ u ∈ (backs x p kind l).2.units,1<=u.kind/\u.kind<=15
 |[],x,h=>h
 |s::l,x,h=>by
  unfold backs
  rw [List.foldl_cons]
  have:=mem_backs p kind hk l (if s=x.1.state then out x (unit_ kind p.sq false no) else x)
  unfold backs at this
  refine this ?_
  split
  ·exact mem_out h hk
  ·exact h
theorem backs_b (p:Pd) (kind:Int):∀ (l:List Int) (x:SR),(backs x p kind l).2.begins=x.2.begins
 |[],x=>rfl
 |s::l,x=>by
  unfold backs
  rw [List.foldl_cons]
  have:=backs_b p kind l (if s=x.1.state then out x (unit_ kind p.sq false no) else x)
  unfold backs at this
  rw [this]
  split <;> rfl
theorem backs_s (p:Pd) (kind:Int):∀ (l:List Int) (x:SR),(backs x p kind l).2.sigs=x.2.sigs
 |[],x=>rfl
 |s::l,x=>by
  unfold backs
  rw [List.foldl_cons]
  have:=backs_s p kind l (if s=x.1.state then out x (unit_ kind p.sq false no) else x)
  unfold backs at this
  rw [this]
  split <;> rfl
theorem akind_k (st:Int):1<=akind st/\akind st<=15:=by unfold akind;omega
structure Same0 (s:S) (m:Nat) (x:SR):Prop where
 st:x.1.state=s.state
 en:x.2.ends=false
 bg:x.2.begins=false
 un:∀ u ∈ x.2.units,1<=u.kind/\u.kind<=15
 sg:x.2.sigs.length<=m
theorem Same0.told {s:S} {x:SR} {m:Nat} (h:Same0 s m x) (g:Sig):(tell x g).2.sigs.length<=m+1:=by
 show (x.2.sigs++[g]).length<=_
 have:=h.sg
 rw [List.length_append,List.length_singleton]
 omega
theorem Same0.tell {s:S} {x:SR} {m:Nat} (h:Same0 s m x) (g:Sig):Same0 s (m+1) (tell x g):=⟨h.st,h.en,h.bg,h.un,h.told g⟩
theorem Same0.out {s:S} {x:SR} {m:Nat} (h:Same0 s m x) (kind sq:Int) (self:Bool) (d:ByteArray) (hk:1<=kind/\kind<=15:=by decide):Same0 s m (out x (unit_ kind sq self d)):=⟨h.st,h.en,h.bg,mem_out h.un hk,h.sg⟩
theorem Same0.report {s:S} {x:SR} {m:Nat} (h:Same0 s m x) (c:Int):Same0 s (m+1) (report x c):=h.tell _
theorem Same0.quit {s:S} {x:SR} {m:Nat} (h:Same0 s m x):Same0 s m (quit x):=h.out 3 _ _ _
theorem Same0.backs {s:S} {x:SR} {m:Nat} (h:Same0 s m x) (p:Pd) (kind:Int) (l:List Int) (hk:1<=kind/\kind<=15:=by decide):Same0 s m (backs x p kind l):=⟨by rw [(backs_k p kind l x).1];exact h.st,by rw [(backs_k p kind l x).2];exact h.en,by rw [backs_b];exact h.bg,mem_backs p kind hk l x h.un,by rw [backs_s];exact h.sg⟩
theorem Same0.heard {s:S} {x:SR} {m:Nat} (h:Same0 s m x) (p:Pd):Same0 s m (heard x p):=⟨h.st,h.en,h.bg,h.un,h.sg⟩
theorem Same0.setMs {s:S} {x:SR} {m:Nat} (h:Same0 s m x) (p:Pd):Same0 s m (setMs x p):=⟨h.st,h.en,h.bg,h.un,h.sg⟩
structure Ends (s:S) (y:SR):Prop where
 en:y.2.ends=true->s.state=10
 st:(y.1.state==10)=(y.2.begins || (s.state==10 && !y.2.ends))
 un:∀ u ∈ y.2.units,1<=u.kind/\u.kind<=15
 sg:y.2.sigs.length<=8
theorem Same0.ends {s:S} {x:SR} {m:Nat} (h:Same0 s m x) (hm:m<=8:=by decide):Ends s x:=⟨fun e=>(by rw [h.en] at e;cases e),by rw [h.st,h.en,h.bg];simp,h.un,Nat.le_trans h.sg hm⟩
theorem Same0.en_to {s:S} {x:SR} {m:Nat} (h:Same0 s m x) (st:Int):(Cn.to x st).2.ends=(s.state==10):=by
 show (x.2.ends || x.1.state==10)=_
 rw [h.en,h.st,Bool.false_or]
theorem Same0.goes {s:S} {x:SR} {m:Nat} (h:Same0 s m x) (st:Int) (hs:(st==10)=false:=by decide) (hm:m<=8:=by decide):Ends s (Cn.to x st):=⟨fun e=>by
 rw [h.en_to] at e
 simpa using e,by
 rw [h.en_to]
 show (st==10)=(x.2.begins || _)
 rw [hs,h.bg]
 cases s.state==10 <;> rfl,h.un,Nat.le_trans h.sg hm⟩
theorem Same0.stop {s:S} {x:SR} {m:Nat} (h:Same0 s m x) (st:Int) (hs:(st==10)=false:=by decide) (hm:m<=8:=by decide):Ends s (stop x st):=⟨(h.goes st hs hm).en,(h.goes st hs hm).st,(h.goes st hs hm).un,(h.goes st hs hm).sg⟩
theorem Same0.ready {s:S} {x:SR} {m:Nat} (h:Same0 s m x) (hm:m<=8:=by decide):Ends s (ready x):=⟨(h.goes 9 rfl hm).en,rfl,h.un,Nat.le_trans h.sg hm⟩
theorem Ends.again {s:S} {x:SR} (h:Ends s x):Ends s (again x):=⟨h.en,h.st,mem_out h.un (akind_k _),h.sg⟩
theorem Same0.begin_ {s:S} {x:SR} {m:Nat} (h:Same0 s m x) (st:Int) (d:ByteArray) (hs:(st==10)=false:=by decide) (hm:m<=8:=by decide):Ends s (begin_ x st d):=
 have g:=h.goes st hs hm
 Ends.again (x:=({ (Cn.to x st).1 with sq:=((Cn.to x st).1.sq+1)%256,cc:=1,data:=d },(Cn.to x st).2)) ⟨g.en,g.st,g.un,g.sg⟩
theorem Same0.leave {s:S} {x:SR} {m:Nat} (h:Same0 s m x) (d:ByteArray) (hm:m<=8:=by decide):Ends s (leave x d):=
 have g:=h.goes 4 rfl hm
 Ends.again (x:=({ (Cn.to x 4).1 with cc:=1,data:=d },(Cn.to x 4).2)) ⟨g.en,g.st,g.un,g.sg⟩
theorem same0 (s:S):Same0 s 0 (s,r0):=⟨rfl,rfl,rfl,(fun _ h=>nomatch h),Nat.le_refl _⟩
theorem Same0.ask {s:S} {x:SR} (h:Same0 s 0 x) (kind:Int) (d:ByteArray):Ends s (ask x kind d):=by
 unfold Cn.ask
 repeat' split
 ·exact h.begin_ _ _
 ·exact (h.out _ _ _ _).ready
 ·exact (h.out _ _ _ _).goes _
 ·exact h.leave _
 ·exact h.begin_ _ _
 ·exact (h.out _ _ _ _).ready
 ·exact (h.out _ _ _ _).ready
 ·exact h.ready
 ·exact h.ends
theorem Same0.handle {s:S} {x:SR} (h:Same0 s 0 x) (p:Pd):Ends s (handle x p):=by
 unfold Cn.handle
 split
 ·split
  ·exact ((h.backs p 7 [1]).backs p 2 [5,6,7,8,9,10]).ends
  ·unfold newBegin
   dsimp only
   repeat' split
   ·exact ((h.heard p).tell _).goes _
   ·exact (((h.heard p).backs p 2 [2]).tell _).ready
   ·exact (((h.heard p).tell _).tell _).stop _
   ·exact (((h.heard p).tell _).tell _).stop _
 ·split
  ·unfold end_
   dsimp only
   repeat' split
   ·exact (h.out _ _ _ _).ends
   ·exact ((h.out _ _ _ _).tell _).stop _
   ·exact ((h.out _ _ _ _).tell _).stop _
  ·split
   ·split
    ·exact (h.backs p 6 [7,8,9,10]).ends
    ·unfold resync
     dsimp only
     repeat' split
     ·exact (((h.heard p).out _ _ _ _).tell _).ready
     ·exact (h.heard p).ends
     ·exact ((h.heard p).tell _).stop _
   ·split
    ·split
     ·exact (h.backs p 15 [8,10]).ends
     ·unfold recover
      dsimp only
      repeat' split
      ·exact (((h.heard p).backs p 15 [7,8]).tell _).stop _
      ·exact (((h.heard p).backs p 15 [7,8]).tell _).goes _
      ·exact ((h.heard p).backs p 15 [7,8]).ends
    ·split
     ·unfold answer
      repeat' split
      ·exact ((h.setMs p).tell _).ready
      ·exact ((h.setMs p).tell _).ready
      ·exact ((h.setMs p).tell _).stop _
      ·exact (h.tell _).stop _
      ·exact (h.tell _).stop _
      ·exact h.ends
     ·exact h.ends
theorem hear_ends (s:S) (p:Pd):Ends s (hearS s p):=by
 unfold hearS hear
 have h:=same0 s
 repeat' split
 ·exact h.handle p
 ·exact (h.report _).ends
 ·exact (h.report _).quit.ends
 ·exact ((h.report _).tell _).stop _
 ·exact h.ends
theorem fail_ends (s:S) (c:Int):Ends s (failS s c):=by
 unfold failS
 split
 ·exact ((same0 s).report _).begin_ _ _
 ·exact (same0 s).ends
theorem silent_ends (s:S):Ends s (silentS s):=by
 unfold silentS
 split
 ·exact ((((same0 s).report _).quit).tell _).goes _
 ·exact (same0 s).ends
theorem expire_ends (s:S):Ends s (expireS s):=by
 unfold expireS expire
 have h:=same0 s
 repeat' split
 ·exact Ends.again (x:=({ s with cc:=s.cc+1 },r0)) ⟨h.ends.en,h.ends.st,h.ends.un,h.ends.sg⟩
 ·exact ((h.report _).tell _).stop _
 ·exact (((h.report _).quit).tell _).stop _
 ·exact h.ends
theorem ask_ends (s:S) (kind:Int) (d:ByteArray):Ends s (askS s kind d):=by
 unfold askS
 split
 ·exact (same0 s).ask kind d
 ·exact (same0 s).ends
end Cn
open Go.RowKit Go.Shelf
theorem crequest_any {w:World} {c:Nat} {s:Cn.S} (h:ConnAt w c s) (ho:Cn.Ok s) (kind:Int) (d:ByteArray) (_hd:d.size<=maxLen) :
  Calls Tryz.prog 74 #[.pointer (some ⟨c,0,none⟩),.int .i64 kind,.string d] w fun e w'=>∃ v,e=.returned (.tuple #[v,.int .i64 (Cn.askErr s kind d)])/\ConnPost w c (Cn.askS s kind d) v w':=by
 have HC:=lh h
 have HO:=lh ho
 have HLT:Hid (c<w.heap.size):=Blk.lt h
 have HS2:Hid (∀ W,Fresh w W->W.cell? ⟨c,2,none⟩=some (.int .i64 s.state)):=fun W hf=>Blk.cell (hf.blk h (fun e=>e)) 2
 unfold maxLen at _hd
 clear h ho
 have HF:Hid (Fresh w (((w.alloc (.cells #[.int .i64 kind] 3)).alloc (.cells #[.string d] 9)).alloc (.cells #[.slice none 0 0,.slice none 0 0,.bool false,.bool false,.int .u32 0,.int .i64 0] 170))):=(((Touch.refl _ w).alloc _).alloc _).alloc _
 have HR:Hid (Blk (((w.alloc (.cells #[.int .i64 kind] 3)).alloc (.cells #[.string d] 9)).alloc (.cells #[.slice none 0 0,.slice none 0 0,.bool false,.bool false,.int .u32 0,.int .i64 0] 170)) (w.heap.size+1+1) 170 [.slice none 0 0,.slice none 0 0,.bool false,.bool false,.int .u32 0,.int .i64 0]):=by
  have:=Blk.new ((w.alloc (.cells #[.int .i64 kind] 3)).alloc (.cells #[.string d] 9)) 170 [.slice none 0 0,.slice none 0 0,.bool false,.bool false,.int .u32 0,.int .i64 0]
  rwa [show ((w.alloc (.cells #[.int .i64 kind] 3)).alloc (.cells #[.string d] 9)).heap.size=w.heap.size+1+1 by simp] at this
 have HBC:Hid (Blk (((w.alloc (.cells #[.int .i64 kind] 3)).alloc (.cells #[.string d] 9)).alloc (.cells #[.slice none 0 0,.slice none 0 0,.bool false,.bool false,.int .u32 0,.int .i64 0] 170)) w.heap.size 3 [.int .i64 kind]):=((Blk.new w _ _).alloc _).alloc _
 have HBP:Hid (Blk (((w.alloc (.cells #[.int .i64 kind] 3)).alloc (.cells #[.string d] 9)).alloc (.cells #[.slice none 0 0,.slice none 0 0,.bool false,.bool false,.int .u32 0,.int .i64 0] 170)) (w.heap.size+1) 9 [.string d]):=by
  have:=(Blk.new (w.alloc (.cells #[.int .i64 kind] 3)) 9 [.string d]).alloc (.cells #[.slice none 0 0,.slice none 0 0,.bool false,.bool false,.int .u32 0,.int .i64 0] 170)
  rwa [show (w.alloc (.cells #[.int .i64 kind] 3)).heap.size=w.heap.size+1 by simp] at this
 have HGG:Hid (w.heap.size<=w.heap.size+1+1):=by unfold Hid;omega
 have HGW:Hid (w.heap.size+1+1<(((w.alloc (.cells #[.int .i64 kind] 3)).alloc (.cells #[.string d] 9)).alloc (.cells #[.slice none 0 0,.slice none 0 0,.bool false,.bool false,.int .u32 0,.int .i64 0] 170)).heap.size):=by simp [Hid]
 by_cases hk:kind<1\/6<kind
 ·have HE:Hid (Cn.askErr s kind d=10):=by unfold Hid Cn.askErr;rw [if_pos hk]
  have HE2:Hid (Cn.askS s kind d=(s,Cn.r0)):=by unfold Hid Cn.askS;rw [HE.out,if_neg (by decide)]
  rw [HE.out,HE2.out]
  have HX:=lh (ConnPost.none HC.out HO.out HF.out)
  clear HR HBC HBP
  by_cases h1:kind<1
  ·have hb1:decide (kind<1)=true:=decide_eq_true h1
   go_enter Tryz.func74,Tryz.ntmps74
   go_wp2
   exact bodyPost_ret (v:=_) (by simp [results,Tryz.results74,go_sem]) rfl ⟨_,rfl,HX.out⟩
  ·have h2:6<kind:=by omega
   have hb1:decide (kind<1)=false:=decide_eq_false h1
   have hb2:decide (6<kind)=true:=decide_eq_true h2
   go_enter Tryz.func74,Tryz.ntmps74
   go_wp2
   exact bodyPost_ret (v:=_) (by simp [results,Tryz.results74,go_sem]) rfl ⟨_,rfl,HX.out⟩
 ·have HN:Hid (¬ (kind<1\/6<kind)):=hk
  have hb1:decide (kind<1)=false:=decide_eq_false (by omega)
  have hb2:decide (6<kind)=false:=decide_eq_false (by omega)
  cases hbig:Cn.bigAsk kind d with
  |true =>
   have HE:Hid (Cn.askErr s kind d=6):=by unfold Hid Cn.askErr;rw [if_neg hk,hbig];rfl
   have HE2:Hid (Cn.askS s kind d=(s,Cn.r0)):=by unfold Hid Cn.askS;rw [HE.out,if_neg (by decide)]
   rw [HE.out,HE2.out]
   have HX:=lh (ConnPost.none HC.out HO.out HF.out)
   clear HR HBC HBP
   have h64:decide (64<(d.size:Int))=true:=by unfold Cn.bigAsk at hbig;simp only [Bool.and_eq_true] at hbig;exact hbig.1
   have hkk:kind=1\/kind=3\/kind=4:=by unfold Cn.bigAsk at hbig;simp at hbig;omega
   clear hbig hk
   rcases hkk with e | e | e <;> subst e
   all_goals
    clear HE HE2 HN
    go_enter Tryz.func74,Tryz.ntmps74
    go_wp2
    exact bodyPost_ret (v:=_) (by simp [results,Tryz.results74,go_sem]) rfl ⟨_,rfl,HX.out⟩
  |false =>
   have hcase:decide (64<(d.size:Int))=false\/(decide (64<(d.size:Int))=true/\(kind==1)=false/\(kind==3)=false/\(kind==4)=false):=by
    unfold Cn.bigAsk at hbig
    cases e1:decide (64<(d.size:Int)) with
    |false=>exact .inl rfl
    |true =>
     rw [e1] at hbig
     simp only [Bool.true_and,Bool.or_eq_false_iff] at hbig
     exact .inr ⟨rfl,hbig.1.1,hbig.1.2,hbig.2⟩
   obtain ⟨q,hq⟩:=qx (Ru.may s.state kind)
   have HMAY:Hid (∀ W,Calls Tryz.prog 35 #[.int .i64 s.state,.int .i64 kind] W fun e w'=>e=.returned (.bool q)/\Fresh W w'):=fun W=>by rw [<- hq];exact may_any s.state kind W
   have HE:Hid (Cn.askErr s kind d=if q then 0 else 8):=by unfold Hid Cn.askErr;rw [if_neg hk,hbig,hq];rfl
   rw [HE.out]
   have HKE:Hid (∀ W,Fresh (((w.alloc (.cells #[.int .i64 kind] 3)).alloc (.cells #[.string d] 9)).alloc (.cells #[.slice none 0 0,.slice none 0 0,.bool false,.bool false,.int .u32 0,.int .i64 0] 170)) W->W.cell? ⟨c,2,none⟩=some (.int .i64 s.state)/\W.cell? ⟨w.heap.size,0,none⟩=some (.int .i64 kind)):=fun W hf=>⟨HS2.out W (HF.out.trans hf (fun _ _ e=>e)),(hf.blk HBC.out (fun e=>e)).cell 0⟩
   have hf1:Fresh (((w.alloc (.cells #[.int .i64 kind] 3)).alloc (.cells #[.string d] 9)).alloc (.cells #[.slice none 0 0,.slice none 0 0,.bool false,.bool false,.int .u32 0,.int .i64 0] 170)) (((w.alloc (.cells #[.int .i64 kind] 3)).alloc (.cells #[.string d] 9)).alloc (.cells #[.slice none 0 0,.slice none 0 0,.bool false,.bool false,.int .u32 0,.int .i64 0] 170)).drew:=(Touch.refl _ _).drew
   have HED:=lh hbig
   clear hbig hq hk
   cases q
   all_goals
    first
     |(have HE2:Hid (Cn.askS s kind d=(s,Cn.r0)):=by { unfold Hid Cn.askS;rw [HE.out,if_neg (by decide)] }
       rw [HE2.out,if_neg (by decide)])
     |(have HE2:Hid (Cn.askS s kind d=Cn.ask (s,Cn.r0) kind d):=by { unfold Hid Cn.askS;rw [HE.out,if_pos (by rfl)] }
       rw [HE2.out,if_pos rfl])
    clear HE HE2
   all_goals rcases hcase with h64 | ⟨h64,k1,k3,k4⟩
   all_goals
    go_enter Tryz.func74,Tryz.ntmps74
    go_upto_region 5 with (fail)
    go_region_held3 (fun wx=>wx.cell? ⟨c,2,none⟩=some (.int .i64 s.state)/\wx.cell? ⟨w.heap.size,0,none⟩=some (.int .i64 kind))
     (first
      |with_reducible exact HKE.out _ (by with_reducible assumption)
      |with_reducible assumption)
     (first
      |(go_simp;go_at_call 35;with_reducible refine (HMAY.out _).mono ?_;rintro e' w' ⟨rfl,hO⟩;have hf2:Fresh (((w.alloc (.cells #[.int .i64 kind] 3)).alloc (.cells #[.string d] 9)).alloc (.cells #[.slice none 0 0,.slice none 0 0,.bool false,.bool false,.int .u32 0,.int .i64 0] 170)) w':=hf1.trans hO (fun _ _ h=>h);clear hO))
    have HFW:Hid (Fresh w w'):=HF.out.trans hf2 (fun _ _ e=>e)
    have HRW:=lh (hf2.blk HR.out (fun e=>e))
    have HCW1:=lh (hf2.blk HBC.out (fun e=>e))
    have HPW1:=lh (hf2.blk HBP.out (fun e=>e))
    clear HKE hf1 hf2 HF HR HBC HBP HGW HMAY
    rename_i hH
    clear hH
    have HF:=HFW
    have HR:=HRW
    have HBC:=HCW1
    have HBP:=HPW1
    have HGW:Hid (w.heap.size+1+1<w'.heap.size):=HR.out.lt
    have HCW:Hid (ConnAt w' c s):=HF.out.blk HC.out (fun e=>e)
    clear HFW HRW HCW1 HPW1
    generalize w'=W at *
   iterate 2
    ·have HP:=lh (ConnPost.none (w:=W) HCW.out HO.out (Touch.refl _ W))
     have r0:=HR.out.cell 0
     have r1:=HR.out.cell 1
     have r2:=HR.out.cell 2
     have r3:=HR.out.cell 3
     have r4:=HR.out.cell 4
     have r5:=HR.out.cell 5
     have f0:=HR.out.frozen 0
     have f1:=HR.out.frozen 1
     have f2:=HR.out.frozen 2
     have f3:=HR.out.frozen 3
     have f4:=HR.out.frozen 4
     have f5:=HR.out.frozen 5
     simp only [List.getElem?_cons_zero,List.getElem?_cons_succ] at r0 r1 r2 r3 r4 r5
     go_wp2
     obtain ⟨hb6,ht6⟩:=HR.out.st6 (.slice none 0 0) (.slice none 0 0) (.bool false) (.bool false) (.int .u32 0) (.int .i64 0)
     have HX:=lh (HP.out.stored HF.out HLT.out HGG.out HGW.out ht6)
     generalize ((((((W.setCell ⟨w.heap.size+1+1,0,none⟩ (.slice none 0 0)).setCell ⟨w.heap.size+1+1,1,none⟩ (.slice none 0 0)).setCell ⟨w.heap.size+1+1,2,none⟩ (.bool false)).setCell ⟨w.heap.size+1+1,3,none⟩ (.bool false)).setCell ⟨w.heap.size+1+1,4,none⟩ (.int .u32 0)).setCell ⟨w.heap.size+1+1,5,none⟩ (.int .i64 0))=w6 at *
     have z0:=hb6.cell 0
     have z1:=hb6.cell 1
     have z2:=hb6.cell 2
     have z3:=hb6.cell 3
     have z4:=hb6.cell 4
     have z5:=hb6.cell 5
     simp only [List.getElem?_cons_zero,List.getElem?_cons_succ] at z0 z1 z2 z3 z4 z5
     exact bodyPost_ret (v:=_) (by simp [results,Tryz.results74,go_sem,z0,z1,z2,z3,z4,z5]) rfl ⟨_,rfl,HX.out⟩
   iterate 2
    ·have:=HN
     go_wp2_with fail
     refine (done_any (m:=1) HCW.out HO.out 127 #[.pointer (some ⟨w.heap.size,0,none⟩),.pointer (some ⟨w.heap.size+1,0,none⟩)] (by omega) (enters_of Tryz.func127 (by kernel_rfl) rfl) (y:=(Cn.ask (s,Cn.r0) kind d)) (fun W0 a w1 hf1 hf2 hi=>(askcl_any hi (by omega) (hf2.blk (hf1.blk HBC.out (fun e=>e)) (fun e=>e)) (hf2.blk (hf1.blk HBP.out (fun e=>e)) (fun e=>e))).mono fun e w' h=>⟨h.1,h.2.1.wide (by omega),h.2.2⟩)).mono ?_
     rintro e w2 ⟨v,rfl,hp⟩
     have HP:=lh hp
     obtain ⟨A1,c1,A2,c2,rfl,_,_,_,_⟩:=hp.res
     have hbr:=hp.touch.blk HR.out (by intro e;have e:w.heap.size+1+1=c:=e;have:=HLT.out;omega)
     clear hp
     have HBR:=lh hbr
     have r0:=HBR.out.cell 0
     have r1:=HBR.out.cell 1
     have r2:=HBR.out.cell 2
     have r3:=HBR.out.cell 3
     have r4:=HBR.out.cell 4
     have r5:=HBR.out.cell 5
     have f0:=HBR.out.frozen 0
     have f1:=HBR.out.frozen 1
     have f2:=HBR.out.frozen 2
     have f3:=HBR.out.frozen 3
     have f4:=HBR.out.frozen 4
     have f5:=HBR.out.frozen 5
     simp only [List.getElem?_cons_zero,List.getElem?_cons_succ] at r0 r1 r2 r3 r4 r5
     clear hbr
     go_wp2
     obtain ⟨hb6,ht6⟩:=HBR.out.st6 (.slice A1 (Cn.ask (s,Cn.r0) kind d).2.sigs.length c1) (.slice A2 (Cn.ask (s,Cn.r0) kind d).2.units.length c2) (.bool (Cn.ask (s,Cn.r0) kind d).2.begins) (.bool (Cn.ask (s,Cn.r0) kind d).2.ends) (.int .u32 (Cn.ask (s,Cn.r0) kind d).2.ms) (.int .i64 (Cn.ask (s,Cn.r0) kind d).2.timer)
     have HX:=lh (HP.out.stored HF.out HLT.out HGG.out HGW.out ht6)
     generalize ((((((w2.setCell ⟨w.heap.size+1+1,0,none⟩ (.slice A1 (Cn.ask (s,Cn.r0) kind d).2.sigs.length c1)).setCell ⟨w.heap.size+1+1,1,none⟩ (.slice A2 (Cn.ask (s,Cn.r0) kind d).2.units.length c2)).setCell ⟨w.heap.size+1+1,2,none⟩ (.bool (Cn.ask (s,Cn.r0) kind d).2.begins)).setCell ⟨w.heap.size+1+1,3,none⟩ (.bool (Cn.ask (s,Cn.r0) kind d).2.ends)).setCell ⟨w.heap.size+1+1,4,none⟩ (.int .u32 (Cn.ask (s,Cn.r0) kind d).2.ms)).setCell ⟨w.heap.size+1+1,5,none⟩ (.int .i64 (Cn.ask (s,Cn.r0) kind d).2.timer))=w6 at *
     have z0:=hb6.cell 0
     have z1:=hb6.cell 1
     have z2:=hb6.cell 2
     have z3:=hb6.cell 3
     have z4:=hb6.cell 4
     have z5:=hb6.cell 5
     simp only [List.getElem?_cons_zero,List.getElem?_cons_succ] at z0 z1 z2 z3 z4 z5
     exact bodyPost_ret (v:=_) (by simp [results,Tryz.results74,go_sem,z0,z1,z2,z3,z4,z5]) rfl ⟨_,rfl,HX.out⟩
open Go.RowKit Go.Shelf
namespace Cn
end Cn
theorem field_state (a b c d e:Int) (W:World):(Instr.field 55 (.agg #[.int .i64 a,.int .i64 b,.int .i64 c,.int .i64 d,.int .u32 e]) 0).run Tryz.prog W=.ok (.int .i64 a) W:=by kernel_rfl
end Go.Proofs.YtlbopdfobgjjaaaGreatDoor

/-
  The document's sender: what goes again, number by number. Plain.
-/
import Derived.Test.YtlbopdfobgjjaaaGreatDoorSndD
import Derived.Test.YtlbopdfobgjjaaaGreatDoorSnd
import Derived.Deep.RegionLaw
import Derived.Test.YtlbopdfobgjjaaaGreatDoorDetP
import Derived.IntWalk
import Derived.Shelf.SlSortCmp.NoneTotal
import Derived.Test.YtlbopdfobgjjaaaGreatDoorLay
import Derived.Test.YtlbopdfobgjjaaaGreatDoorRow2
import Derived.Deep.DeepCutAuto
set_option maxHeartbeats 8000000
namespace Go.Proofs.YtlbopdfobgjjaaaGreatDoor
theorem rise_len:∀ (l:List Int) (a b:Int),l.Pairwise (· < ·)->(∀ n ∈ l,a<=n/\n<b)->(l.length:Int)<=max 0 (b-a)
 |[],_,_,_,_=>by simp;omega
 |y::r,a,b,h,hb=>by
  have h1:=List.pairwise_cons.1 h
  have h2:=hb y (List.mem_cons_self ..)
  have:=rise_len r (y+1) b h1.2 fun n hn=>⟨by have:=h1.1 n hn;omega,(hb n (List.mem_cons_of_mem _ hn)).2⟩
  simp
  omega
theorem Sf.Ok.again_len {x:Sf.S} {lo hi:Int} (h:Sf.Ok x lo hi):x.again.length<=x.kept.length:=by
 have:=rise_len x.again x.a x.s h.sorted h.ags
 have:=h.klen
 omega
namespace Sf
theorem opn_keeps (x:S) (m:Int):(opn x m).a=x.a/\(opn x m).s=x.s/\(opn x m).last=x.last:=by
 unfold opn
 split <;> exact ⟨rfl,rfl,rfl⟩
end Sf
open Go.RowKit
theorem Sd.mapV_del (m:List (Int × (ByteArray × Int))) (k:Int):mdel (Sd.mapV m) k=Sd.mapV (mdel m k):=mdel_lift Sd.itemV m k
theorem SendIn.mapped {w w':World} {p g:Nat} {b:Option Nat} {k:Nat} {A:Option Addr} {c:Nat} {st:Sd.S} {m:List (Int × (ByteArray × Int))} (h:SendIn w p g b k A c st) (hm:MapAt numK w' k (Sd.mapV m)) (ht:Touch (· = k) w w') :
  SendIn w' p g b k A c { st with m:=m }:=
 ⟨ht.blk h.blk (fun e=>h.ne_k e.symm),h.ring.touch ht (fun e=>h.k_ne_g e.symm) (fun x e e2=>h.k_ne_b (by rw [e,e2])),hm,h.ag.touch ht (fun ad e=>h.A_ne_k ad e)⟩
theorem SendIn.agained {w:World} {p g:Nat} {b:Option Nat} {k:Nat} {A A':Option Addr} {c c':Nat} {st:Sd.S} {l:List Int} (h:SendIn w p g b k A c st) (hs:Sl numE w A' c' l) (hA:∀ ad,A'=some ad->ad.block ≠ p) :
  SendIn (w.setCell ⟨p,9,none⟩ (.slice A' l.length c')) p g b k A' c' { st with again:=l }:=by
 have ht:=Touch.set1 w p 9 (.slice A' l.length c')
 exact ⟨h.blk.set 9 _,h.ring.touch ht (fun e=>h.ne_g e.symm) (fun z e e2=>h.ne_b (by rw [e,e2])),h.map.setCell (by exact h.ne_k) _,hs.setCell (p:=⟨p,9,none⟩) hA _⟩
set_option maxRecDepth 4000 in
theorem sack_any (p:Nat) (F:Nat->Prop) (x:Sf.S) (lo hi:Int) (hok:Sf.Ok x lo hi) (r:Int) (w:World) (h:SendAt w p F (Sf.prog x)) (hr:Sf.at_ x r<=x.s) :
  Calls Tryz.prog 217 #[.pointer (some ⟨p,0,none⟩),.int .u32 r] w fun e w'=>e=.returned (.tuple #[])/\SendAt w' p (Grown F w) (Sf.prog (Sf.ack x (Sf.at_ x r)))/\Touch F w w':=by
 obtain ⟨g,b,k,A,c,h1,hF⟩:=h.open_
 obtain ⟨hb1,hb2,hb3⟩:=Sf.Ok.at_bd x r
 have hk:=hok.klen
 have hl:=hok.kl
 have hag:x.again.length<=4000:=by have:=hok.again_len;omega
 have HPA:=lh (hok.prog_ack hb1 hr)
 obtain ⟨J,hJ⟩:∃ J:Nat,(Sf.at_ x r-x.a).toNat=J:=⟨_,rfl⟩
 rw [hJ] at HPA
 have hJk:J<=x.kept.length:=by omega
 have HG:=lh (fun j (hj:j<J)=>hok.gone_succ j (by omega))
 have hre:(x.a+(J:Int))%16777216=r%16777216:=by omega
 have hJ2:J<=4000:=by omega
 have HI0:Hid (SendIn w p g b k A c { Sf.prog x with m:=Sf.gone x 0 }):=by rw [Sf.gone_zero];exact h1
 have hpl:=h1.blk.lt
 have ca:∀ o,(w.alloc o).cell? ⟨p,1,none⟩=some (.int .u32 (x.a%16777216)):=fun o=>(h1.blk.alloc o).cell 1
 have HF:=lh hF
 have HLOW:=lh (low_any r)
 have HB0:Hid (Blk (w.alloc (.cells #[.pointer (some ⟨p,0,none⟩)] 98)) w.heap.size 98 [.pointer (some ⟨p,0,none⟩)]):=Blk.new w _ [_]
 have HI1:=lh (HI0.out.touch ((Touch.refl (fun _=>False) w).alloc (.cells #[.pointer (some ⟨p,0,none⟩)] 98)) (fun h=>h) (fun h=>h) (fun _ _ h=>h) (fun h=>h) (fun _ _ h=>h))
 have HT1:Hid (Touch F w (w.alloc (.cells #[.pointer (some ⟨p,0,none⟩)] 98))):=(Touch.refl F w).alloc _
 have HPW:Hid (p<w.heap.size/\k<w.heap.size/\p ≠ k):=⟨hpl,h1.map.lt,fun e=>h1.ne_k e.symm⟩
 clear h h1 hF hok hb1 hb2 hb3 hr hJ hk hl HI0 hpl
 go_enter Tryz.func217,Tryz.ntmps217
 go_wp2_with fail
 go_loopw [4] (fun s4 wr=>∃ j:Nat,j<=J/\s4=.int .u32 ((x.a+(j:Int))%16777216)/\Hid (SendIn wr p g b k A c { Sf.prog x with m:=Sf.gone x j })/\Hid (Touch F w wr)/\Hid (Blk wr w.heap.size 98 [.pointer (some ⟨p,0,none⟩)])) (fun s4 _=>((x.a+(J:Int)-intOf s4)%16777216).toNat)
 case atStart=>exact ⟨0,by omega,by simp,HI1,HT1,HB0⟩
 case round =>
  clear HI1 HT1 HB0 ca
  obtain ⟨j,hj,rfl,HI,HT,HB⟩:=hrel
  have cb:wr.cell? ⟨w.heap.size,0,none⟩=some (.pointer (some ⟨p,0,none⟩)):=HB.out.cell 0
  by_cases hlt:j<J
  ·have hne:((x.a+(j:Int))%16777216 != r%16777216)=true:=by simp;omega
   have c8:wr.cell? ⟨p,8,none⟩=some (.map (some k)):=HI.out.blk.cell 8
   have HGj:=lh (HG.out j hlt)
   have hnx:((x.a+(j:Int))%16777216+1)%16777216=(x.a+((j+1:Nat):Int))%16777216:=by omega
   have hms:((x.a+(J:Int)-(x.a+((j+1:Nat):Int))%16777216)%16777216).toNat<((x.a+(J:Int)-(x.a+(j:Int))%16777216)%16777216).toNat:=by omega
   have HSA:=lh (sadd_any ((x.a+(j:Int))%16777216) 1)
   rw [hnx] at HSA
   generalize hn0:(x.a+(j:Int))%16777216=n0 at *
   clear hn0 hnx hre HPA HG
   go_wp2_with fail
   refine (HLOW.out _).mono ?_
   rintro e w1 ⟨rfl,rfl⟩
   simp only
   go_wp2_with (refine wpList_delM rfl rfl (K:=numK) (k:=n0) rfl rfl HI.out.map Tryz.underlying158 rfl ?_;intro w2 hm ht)
   rw [Sd.mapV_del,HGj.out] at hm
   have I2:=lh (HI.out.mapped hm ht)
   have T2:Hid (Touch F w w2):=HT.out.trans ht (fun y _ e=>e ▸ HF.out.k)
   have B2:Hid (Blk w2 w.heap.size 98 [.pointer (some ⟨p,0,none⟩)]):=ht.blk HB.out (fun e=>by have:=HPW.out.2.1;omega)
   clear hm ht HI HT HB cb c8
   go_wp2_with fail
   refine (HSA.out _).mono ?_
   rintro e w3 ⟨rfl,rfl⟩
   simp only
   go_wp2
   go_roundw
   case rel=>exact ⟨j+1,hlt,rfl,I2,T2,B2⟩
   case measure=>simp only [intOf];exact hms
  ·obtain rfl:j=J:=by omega
   have hne:((x.a+(j:Int))%16777216 != r%16777216)=false:=by rw [hre];simp
   clear HG
   go_wp2_with fail
   refine (HLOW.out _).mono ?_
   rintro e w1 ⟨rfl,rfl⟩
   simp only
   go_wp2_with fail
   have fz:=HI.out.blk.frozen 1
   refine wp_region_qtail 5 (by kernel_rfl) (by kernel_rfl) rfl (by kernel_rfl) (by kernel_rfl) ?_
   simp only [List.take_succ_cons,List.take_zero,List.drop_succ_cons,List.drop_zero,List.map_cons,List.map_nil,List.cons_append,List.nil_append,blankOp]
   repeat (quiet_step (((go_at_call 116;refine Calls.quiet_of_same (HLOW.out _)))))
   refine wpQuiet_nil ?_
   intro _ hw'
   obtain ⟨nq,hw''⟩:=hw'
   subst hw''
   have I2:=lh (HI.out.drewN nq)
   have T2:Hid (Touch F w (w1.drewN nq)):=HT.out.drewN nq
   have B2:Hid (Blk (w1.drewN nq) w.heap.size 98 [.pointer (some ⟨p,0,none⟩)]):=HB.out
   clear HI HT HB cb fz
   generalize w1.drewN nq=w2 at *
   have fz:=I2.out.blk.frozen 1
   have c1:w2.cell? ⟨p,1,none⟩=some (.int .u32 (x.a%16777216)):=I2.out.blk.cell 1
   have I3:Hid (SendIn (w2.setCell ⟨p,1,none⟩ (.int .u32 (r%16777216))) p g b k A c { Sf.prog x with a:=r%16777216,m:=Sf.gone x j }):=I2.out.scalar 1 _ rfl rfl rfl rfl rfl
   have T3:Hid (Touch F w (w2.setCell ⟨p,1,none⟩ (.int .u32 (r%16777216)))):=T2.out.st HF.out.p
   have B3:Hid (Blk (w2.setCell ⟨p,1,none⟩ (.int .u32 (r%16777216))) w.heap.size 98 [.pointer (some ⟨p,0,none⟩)]):=B2.out.far (by have:=HPW.out.1;simp;omega) _
   clear I2 T2 B2
   obtain ⟨L,hL⟩:=qx ((Sf.prog x).again)
   have hLl:L.length<=4000:=by rw [<- hL];show (Sf.pa x.again).length<=_;simpa [Sf.pa] using hag
   have HLe:=lh hL
   have c9:(w2.setCell ⟨p,1,none⟩ (.int .u32 (r%16777216))).cell? ⟨p,9,none⟩=some (.slice A L.length c):=by rw [<- hL];exact I3.out.blk.cell 9
   have S3:Hid (Rd numE (w2.setCell ⟨p,1,none⟩ (.int .u32 (r%16777216))) A c L):=by unfold Hid;rw [<- hL];exact I3.out.ag.rd
   clear hL
   go_upto_region 6 with (fail)
   clear fz c1
   generalize w2.setCell ⟨p,1,none⟩ (.int .u32 (r%16777216))=w3 at *
   have cb:w3.cell? ⟨w.heap.size,0,none⟩=some (.pointer (some ⟨p,0,none⟩)):=B3.out.cell 0
   have HCL:Hid (∀ W,Fresh w3 W->Calls Tryz.prog 48 #[.slice A L.length c] W fun e w'=>∃ A' c',e=.returned (.slice A' L.length c')/\Mine numE W w' A' c' L):=fun W hf =>
    cloneNum_any A c L W (S3.out.touch hf (fun _ _ _ h=>h)) (by omega)
   have HDEL:Hid (∀ W A' c',Fresh w3 W->Sl numE W A' c' L->(∀ ad,A'=some ad->w3.heap.size<=ad.block)->Calls Tryz.prog 239 #[.slice A' L.length c',.func (.func 240) #[] #[.pointer (some ⟨w.heap.size,0,none⟩)]] W (DelPost W A' c' (L.filter fun n=>!!(mget (Sf.gone x j) n).isSome))):=fun W A' c' hf hs hb =>
    sdel_any w.heap.size (fun n=>!(mget (Sf.gone x j) n).isSome) A' c' L W hs (by omega) fun W' n ht=>by
     have hT:Touch (fun y=>w3.heap.size<=y) w3 W':=(hf.mono (fun _ _ h=>h.elim)).trans ht fun y hy e=>by
      cases A' with
      |none=>cases e
      |some ad=>have:=hb ad rfl;simp at e;omega
     have h8:w3.cell? ⟨p,8,none⟩=some (.map (some k)):=I3.out.blk.cell 8
     have hlt1:=B3.out.lt
     have hlt2:=I3.out.blk.lt
     have hlt3:=I3.out.map.lt
     exact sackcl_any w.heap.size p k (Sf.gone x j) n W' ((hT.blk B3.out (by omega)).cell 0) ((hT.blk I3.out.blk (by omega)).cell 8) (I3.out.map.touch hT (by omega))
   have HFIN:Hid (∀ W A' c',Touch (fun y=>w3.heap.size<=y) w3 W->Sl numE W A' c' (L.filter fun n=>!!(mget (Sf.gone x j) n).isSome)->(∀ ad,A'=some ad->w3.heap.size<=ad.block) ->
     SendAt (W.setCell ⟨p,9,none⟩ (.slice A' (L.filter fun n=>!!(mget (Sf.gone x j) n).isSome).length c')) p (Grown F w) (Sf.prog (Sf.ack x (Sf.at_ x r)))/\Touch F w (W.setCell ⟨p,9,none⟩ (.slice A' (L.filter fun n=>!!(mget (Sf.gone x j) n).isSome).length c'))):=fun W A' c' hT hs hb=>by
    have hlt2:=I3.out.blk.lt
    have hi:=(I3.out.touch hT (by omega) (by have:=I3.out.ring.lt;omega) (fun y e=>by have:=I3.out.ring.ltb y e;omega) (by have:=I3.out.map.lt;omega) (fun ad e=>by have:=I3.out.ag.lt ad e;omega)).agained hs (fun ad e=>by have:=hb ad e;omega)
    have e1:(L.filter fun n=>!!(mget (Sf.gone x j) n).isSome)=(Sf.pa x.again).filter fun n=>(mget (Sf.gone x j) n).isSome:=by
     rw [<- HLe.out]
     simp only [Bool.not_not]
     rfl
    refine ⟨?_,(T3.out.trans hT (fun y hy e=>by have:=T3.out.size;omega)).st HF.out.p⟩
    rw [<- HPA.out]
    have hr3:r%16777216=Sf.at_ x r%16777216:=(Sf.Ok.at_bd x r).2.2.symm
    rw [<- hr3,<- e1]
    exact SendAt.mk' hi ⟨.inl HF.out.p,.inl HF.out.g,fun y e=>.inl (HF.out.b y e),.inl HF.out.k,fun ad e=>.inr (by have:=hb ad e;have:=T3.out.size;show w.heap.size<=_;omega)⟩
   have KB:Hid (∀ W,Touch (fun y=>w3.heap.size<=y) w3 W->W.cell? ⟨w.heap.size,0,none⟩=some (.pointer (some ⟨p,0,none⟩))/\W.frozen? ⟨p,9,none⟩=false/\W.cell? ⟨p,9,none⟩=some (.slice A L.length c)):=fun W hT=>by
    have hlt1:=B3.out.lt
    have hlt2:=I3.out.blk.lt
    exact ⟨(hT.blk B3.out (by omega)).cell 0,(hT.blk I3.out.blk (by omega)).frozen 9,by have:=(hT.blk I3.out.blk (by omega)).cell 9;rw [<- HLe.out];exact this⟩
   generalize (L.filter fun n=>!!(mget (Sf.gone x j) n).isSome)=M at *
   have HSZ:Hid (w.heap.size<w3.heap.size):=B3.out.lt
   clear I3 B3 S3 T3 HPA HLe HLOW HF HPW hne hre hag
   go_region_law (first
    |(go_simp;go_at_call 48;(with_reducible refine (HCL.out _ (by first | exact Touch.refl _ _ | exact (Touch.refl _ _).drew)).mono ?_);rintro e' w4 ⟨A4,c4,rfl,m4⟩;have f4:Fresh w3 w4:=Touch.trans (by first | exact Touch.refl _ _ | exact (Touch.refl _ _).drew) m4.fresh (fun _ _ h=>h);have b4:∀ ad,A4=some ad->w3.heap.size<=ad.block:=m4.base;obtain ⟨cb4,_,_⟩:=KB.out w4 (f4.mono (fun _ _ h=>h.elim));have s4:=m4.sl;clear m4;try simp only)
    |(go_simp;go_at_call 239;(with_reducible refine (HDEL.out _ _ _ f4 s4 b4).mono ?_);rintro e' w5 ⟨rfl,s5,t5⟩;have T5:Touch (fun y=>w3.heap.size<=y) w3 w5:=(f4.mono (fun _ _ h=>h.elim)).trans t5 (fun y hy e=>by cases A4 with | none=>cases e | some ad=>have:=b4 ad rfl;simp at e;omega);obtain ⟨cb5,fz5,cc5⟩:=KB.out w5 T5;try simp only))
   all_goals
    go_end0
    exact ⟨rfl,HFIN.out _ _ _ T5 s5 b4⟩
theorem sidx_any (y:Int) (A:Option Addr) (c:Nat) (l:List Int) (w:World) (h:Rd numE w A c l) (hl:l.length<=1000000) :
  Calls Tryz.prog 260 #[.slice A l.length c,.int .u32 y] w fun e w'=>Fresh w w'/\((e=.returned (.int .i64 (-1))/\y ∉ l)\/∃ k:Nat,k<l.length/\e=.returned (.int .i64 k)/\y ∈ l):=by
 have H:=lh h
 clear h
 go_enter Tryz.func260,Tryz.ntmps260
 go_wp2_with fail
 go_loopw [8] (fun s8 wr=>∃ k:Nat,k<=l.length/\s8=.int .i64 k/\Hid (y ∉ l.take k)/\Hid (Fresh w wr)) (fun s8 _=>l.length-(intOf s8).toNat)
 case atStart=>exact ⟨0,by omega,rfl,by unfold Hid;simp,Touch.refl _ _⟩
 case round =>
  obtain ⟨k,hk,rfl,HB,HF⟩:=hrel
  by_cases hlt:k<l.length
  ·have hk1:(k:Int)<(l.length:Int):=by omega
   have hk0:(0:Int)<=(k:Int):=by omega
   obtain ⟨g,o,rfl,_,c0⟩:=(H.out.touch HF.out (fun _ _ _ h=>h)).num_at k hlt
   have HT:Hid (l.take (k+1)=l.take k++[l.getD k 0]):=by
    unfold Hid
    rw [List.take_succ_eq_append_getElem hlt]
    simp [List.getD,List.getElem?_eq_getElem hlt]
   have HM:Hid (l.getD k 0 ∈ l):=by
    unfold Hid
    simp [List.getD,List.getElem?_eq_getElem hlt]
   generalize hz:l.getD k 0=z at *
   by_cases hyz:y=z
   ·subst hyz
    have ht:(y==y)=true:=by simp
    go_wp2
    go_ret
    exact ⟨HF.out,.inr ⟨k,hlt,rfl,HM.out⟩⟩
   ·have ht:(y==z)=false:=by simpa using hyz
    have HB2:Hid (y ∉ l.take (k+1)):=by
     unfold Hid
     rw [HT.out,List.mem_append,List.mem_singleton]
     exact fun hh=>hh.elim HB.out hyz
    clear HB HM hyz
    go_wp2
    go_roundw
    case rel=>exact ⟨k+1,hlt,by go_num,HB2,HF⟩
    case measure=>simp [intOf];omega
  ·obtain rfl:k=l.length:=by omega
   have HB2:Hid (y ∉ l):=by have:=HB.out;rw [List.take_length] at this;exact this
   clear HB
   go_wp2
   go_ret
   exact ⟨HF.out,.inl ⟨rfl,HB2.out⟩⟩
theorem scont_any (y:Int) (A:Option Addr) (c:Nat) (l:List Int) (w:World) (h:Rd numE w A c l) (hl:l.length<=1000000) :
  Calls Tryz.prog 242 #[.slice A l.length c,.int .u32 y] w fun e w'=>e=.returned (.bool (decide (y ∈ l)))/\Fresh w w':=by
 have HI:=lh (sidx_any y A c l w h hl)
 clear h
 by_cases hy:y ∈ l
 ·rw [decide_eq_true hy]
  go_enter Tryz.func242,Tryz.ntmps242
  go_wp2_with fail
  refine HI.out.mono ?_
  rintro e w1 ⟨f1,hcase⟩
  have F1:=lh f1
  rcases hcase with ⟨rfl,hall⟩ | ⟨k,hk,rfl,_⟩
  ·exact absurd hy hall
  ·have hk0:(0:Int)<=(k:Int):=by omega
   clear HI f1
   simp only
   go_wp2
   go_ret
   exact ⟨rfl,F1.out⟩
 ·rw [decide_eq_false hy]
  go_enter Tryz.func242,Tryz.ntmps242
  go_wp2_with fail
  refine HI.out.mono ?_
  rintro e w1 ⟨f1,hcase⟩
  have F1:=lh f1
  rcases hcase with ⟨rfl,hall⟩ | ⟨k,hk,rfl,hin⟩
  ·clear HI f1
   simp only
   go_wp2
   go_ret
   exact ⟨rfl,F1.out⟩
  ·exact absurd hin hy
theorem srcl_any (s p:Nat) (a x y:Int) (w:World) (cs:w.cell? ⟨s,0,none⟩=some (.pointer (some ⟨p,0,none⟩))) (c1:w.cell? ⟨p,1,none⟩=some (.int .u32 a)) :
  Calls Tryz.prog 244 #[.int .u32 x,.int .u32 y,.pointer (some ⟨s,0,none⟩)] w fun e w'=>e=.returned (.int .i64 ((x-a)%16777216-(y-a)%16777216))/\∃ n,w'=w.drewN n:=by
 have HW:IntKind.i64.wrap ((x-a)%16777216-(y-a)%16777216)=(x-a)%16777216-(y-a)%16777216:=IntWalk.i64_in _ (by omega)
 go_enter Tryz.func244,Tryz.ntmps244
 go_upto_region 1 with (fail)
 go_quiet ((go_at_call 161;refine Calls.quiet_of_same (to_any _ _ _)))
 go_wp2
 go_ret
 exact ⟨rfl,_,rfl⟩
open Go.RowKit Go.Sort Go.Shelf Go.Lib
def farOf (a x y:Int):Int:=(x-a)%16777216-(y-a)%16777216
theorem ltFar (a x y:Int):ltOf (farOf a) x y=decide ((x-a)%16777216<(y-a)%16777216):=by
 unfold ltOf farOf
 congr 1
 apply propext
 omega
theorem swoFar (a:Int):SWO (ltOf (farOf a)) where
 irrefl x:=by rw [ltFar];simp
 trans x y z h1 h2:=by rw [ltFar] at *;simp at *;omega
 ntrans x y z h1 h2:=by rw [ltFar] at *;simp at *;omega
theorem flat1 (d:Array Int):flatK numE.enc numE.size d=d.map (Value.int .u32):=by
 apply Array.ext
 ·simp [flatK,numE]
 ·intro i h1 h2
  have hi:i<d.size:=by simpa using h2
  simp [flatK,numE,Nat.mod_one,hi]
theorem sortWorld1 (w:World) (g o n:Nat) (d:Array Int) (os:Array Obj):sortWorld (Value.int .u32) w g o n d os=sortWorldK numE.enc numE.size w g o n d os:=by
 unfold sortWorld sortWorldK putRowK putRow
 rw [flat1]
 congr 2
 funext c
 unfold putCells
 congr 1
 funext k x
 have hs:(d.map (Value.int .u32)).size=d.size:=by simp
 rw [hs]
 by_cases h:o<=k/\k<o+d.size
 ·rw [if_pos h,if_pos h]
  have hk:k-o<d.size:=by omega
  simp [hk]
 ·rw [if_neg h,if_neg h]
def SortNPost (a:Int) (l:List Int) (A:Option Addr) (c:Nat) (w:World) (e:Ending) (w':World):Prop:=
 e=.returned (.tuple #[])/\∃ l',List.Perm l' l/\l'.Pairwise (fun u v=>(u-a)%16777216<=(v-a)%16777216)/\Sl numE w' A c l'/\Touch (fun k=>A.map Addr.block=some k) w w'
theorem ssort_any (s p:Nat) (a:Int) (cs:List Value) (A:Option Addr) (c:Nat) (l:List Int) (w:World) (h:Sl numE w A c l) (hl:l.length<=1000000)
  (bs:Blk w s 98 [.pointer (some ⟨p,0,none⟩)]) (bp:Blk w p 160 cs) (hc:cs[1]?=some (.int .u32 a)) :
  Calls Tryz.prog 243 #[.slice A l.length c,.func (.func 244) #[] #[.pointer (some ⟨s,0,none⟩)]] w (SortNPost a l A c w):=by
 cases A with
 |none =>
  obtain rfl:c=0:=h.2.2.1 rfl
  obtain rfl:l=[]:=List.eq_nil_of_length_eq_zero (by have:=h.1;omega)
  have hcon:=AnyF.slices_SortFunc_none ({ Tryz.sortNum with }:SlLaysF0.n6 Tryz.prog Tryz.sortNum_ren) none 0 (.func (.func 244) #[] #[.pointer (some ⟨s,0,none⟩)]) w
  refine hcon.mono ?_
  rintro e w' ⟨rfl,rfl⟩
  exact ⟨rfl,[],List.Perm.refl _,List.Pairwise.nil,h,Touch.refl _ _⟩
 |some ad =>
  obtain ⟨g,o,sp⟩:=ad
  obtain rfl:sp=none:=(h.2.2.2 _ rfl).1
  have hgs:g ≠ s:=h.blk_ne bs (by decide) _ rfl
  have hgp:g ≠ p:=h.blk_ne bp (by decide) _ rfl
  have eg:∀ args w,(callFunc 244 args).run Tryz.prog w=.ok (.enter 244 args) w:=enters_of Tryz.func244 (by kernel_rfl) rfl
  have hH:Holds (Value.int .u32) w g o l.toArray:=fun j hj=>by
   refine ⟨?_,h.frozen g o rfl _⟩
   have hj':j<l.length:=by simpa using hj
   obtain ⟨g',o',e1,_,c0⟩:=h.num_at j hj'
   cases e1
   rw [c0]
   simp [hj',List.getD]
  have hcmp:CmpLays1 Tryz.prog 244 #[.pointer (some ⟨s,0,none⟩)] (Value.int .u32) (farOf a) g o l.toArray.size w:=fun m os dk _ x y=>by
   rw [sortWorld1]
   have ht:=sorted_touch (E:=numE) (w:=w) (g:=g) (o:=o) m dk os
   refine (srcl_any s p a x y _ ((ht.blk bs hgs.symm).cell 0) (((ht.blk bp hgp.symm).cell 1).trans hc)).mono ?_
   rintro e w' ⟨rfl,n,rfl⟩
   exact ⟨rfl,n,#[],by rw [grow_empty]⟩
  have hcon:=Any.slices_SortFunc Tryz.sortNum (Value.int .u32) (fun _=>rfl) (farOf a) (swoFar a) 244 #[.pointer (some ⟨s,0,none⟩)] g o c l.toArray w eg hcmp hH (h.lt _ rfl) (by simp;omega)
  refine hcon.mono ?_
  rintro e w' ⟨rfl,d',n,os,hp,hs,rfl⟩
  have hsz:d'.size=l.length:=by simpa using hp.1
  rw [sortWorld1]
  refine ⟨rfl,d'.toList,by simpa using permIn_list hp,?_,Sl.sorted h (l':=d'.toList) (by simpa using hsz) n os,(sorted_touch n d' os).mono fun k _ e=>by simp [e]⟩
  rw [List.pairwise_iff_getElem]
  intro i j hi hj hij
  have:=hs i j (by omega) hij (by simpa [hsz] using hj)
  rw [ltFar] at this
  have hi':i<d'.size:=by simpa using hi
  have hj':j<d'.size:=by simpa using hj
  rw [getElem!_pos d' i hi',getElem!_pos d' j hj'] at this
  simp at this
  simpa using this
theorem Sl.apart {α β:Type} {E:El α} {E':El β} {w:World} {A B:Option Addr} {c d:Nat} {l:List α} {m:List β} (h:Sl E w A c l) (h':Sl E' w B d m) (hne:E.e ≠ E'.e):∀ ad ad',A=some ad->B=some ad'->ad.block ≠ ad'.block:=fun ad ad' e e'=>by
 obtain ⟨_,cs,hb,_⟩:=h'.2.2.2 ad' e'
 exact h.blk_ne hb hne ad e
theorem SendIn.old {w w':World} {p g:Nat} {b:Option Nat} {k:Nat} {A:Option Addr} {c:Nat} {st:Sd.S} (h:SendIn w p g b k A c st) (ht:Fresh w w'):SendIn w' p g b k A c st:=
 h.touch ht (fun h=>h) (fun h=>h) (fun _ _ h=>h) (fun h=>h) (fun _ _ h=>h)
theorem SendIn.rerow {w w':World} {p g:Nat} {b:Option Nat} {k:Nat} {A:Option Addr} {c:Nat} {st:Sd.S} {l:List Int} (h:SendIn w p g b k A c st) (hs:Sl numE w' A c l) (hl:l.length=st.again.length) (ht:Touch (fun k=>A.map Addr.block=some k) w w'):SendIn w' p g b k A c { st with again:=l }:=by
 have hg:∀ x,A.map Addr.block=some x->∃ ad,A=some ad/\ad.block=x:=fun x e=>by
  cases A with
  |none=>cases e
  |some ad=>exact ⟨ad,rfl,by simpa using e⟩
 refine ⟨?_,?_,?_,hs⟩
 ·have:=ht.blk h.blk (fun e=>by obtain ⟨ad,e1,e2⟩:=hg _ e;exact h.ne_A ad e1 e2)
  refine this.eq_cells ?_
  unfold sendCells
  rw [hl]
 ·exact h.ring.touch ht (fun e=>by obtain ⟨ad,e1,e2⟩:=hg _ e;exact h.A_ne_g ad e1 e2) (fun x hx e=>by obtain ⟨ad,e1,e2⟩:=hg _ e;exact h.A_ne_b ad e1 (by rw [hx,e2]))
 ·exact h.map.touch ht (fun e=>by obtain ⟨ad,e1,e2⟩:=hg _ e;exact h.A_ne_k ad e1 e2)
theorem SendIn.apped {w w1 w2:World} {p g:Nat} {b:Option Nat} {k:Nat} {A A2:Option Addr} {c c2:Nat} {st:Sd.S} {l:List Int} (h:SendIn w p g b k A c st) (hf:Fresh w w1) (ht:Touch (fun k=>A.map Addr.block=some k) w1 w2) (hs:Sl numE w2 A2 c2 l) :
  w2.cell? ⟨p,9,none⟩=some (.slice A st.again.length c)/\w2.frozen? ⟨p,9,none⟩=false/\SendIn (w2.setCell ⟨p,9,none⟩ (.slice A2 l.length c2)) p g b k A2 c2 { st with again:=l }:=by
 have h1:=h.old hf
 have hg:∀ x,A.map Addr.block=some x->∃ ad,A=some ad/\ad.block=x:=fun x e=>by
  cases A with
  |none=>cases e
  |some ad=>exact ⟨ad,rfl,by simpa using e⟩
 have b2:=ht.blk h1.blk (fun e=>by obtain ⟨ad,e1,e2⟩:=hg _ e;exact h1.ne_A ad e1 e2)
 have r2:=h1.ring.touch ht (fun e=>by obtain ⟨ad,e1,e2⟩:=hg _ e;exact h1.A_ne_g ad e1 e2) (fun x hx e=>by obtain ⟨ad,e1,e2⟩:=hg _ e;exact h1.A_ne_b ad e1 (by rw [hx,e2]))
 have m2:=h1.map.touch ht (fun e=>by obtain ⟨ad,e1,e2⟩:=hg _ e;exact h1.A_ne_k ad e1 e2)
 have ht9:=Touch.set1 w2 p 9 (.slice A2 l.length c2)
 exact ⟨b2.cell 9,b2.frozen 9,⟨b2.set 9 _,r2.touch ht9 (fun e=>h.ne_g e.symm) (fun z e e2=>h.ne_b (by rw [e,e2])),m2.setCell (by exact m2.blk_ne b2) _,hs.setCell (p:=⟨p,9,none⟩) (hs.blk_ne b2 (by decide)) _⟩⟩
def RepPost (p:Nat) (F:Nat->Prop) (y:Sf.S) (P:Option Int) (T:List Int) (w:World) (e:Ending) (w':World):Prop:=
 e=.returned (.int .i64 (Sf.rep y P T).2)/\SendAt w' p (Grown F w) (Sf.prog (Sf.rep y P T).1)/\Touch F w w'
set_option maxRecDepth 8000 in
theorem srep_any (p:Nat) (F:Nat->Prop) (y:Sf.S) (lo hi:Int) (hok:Sf.Ok y lo hi) (P:Option Int) (gf:Nat) (cb:Array Value) (C:Option Addr) (d:Nat) (S:List (Int × Int)) (w:World) (h:SendAt w p F (Sf.prog y)) (hFw:∀ x,F x->x<w.heap.size)
  (hS:Rd spanE w C d S) (hgd:Sp.Good S) (T:List Int) (hT:Sp.nums S=T) (hr:Sp.Rising T) (hb:∀ i ∈ T,0<=i/\i<y.s-y.a)
  (eg:∀ args w,(callFunc gf args).run Tryz.prog w=.ok (.enter gf args) w)
  (hmay:∀ W n,Touch F w W->y.a<=n->n<y.s->Calls Tryz.prog gf (#[.int .u32 (y.last.getD (n-y.a).toNat 0%16777216)]++cb) W fun e w'=>e=.returned (.bool (Sf.may y P n))/\Fresh W w') :
  Calls Tryz.prog 218 #[.pointer (some ⟨p,0,none⟩),.slice C S.length d,.func (.func gf) #[] cb] w (RepPost p F y P T w):=by
 obtain ⟨g,b,k,A,c,h1,hF⟩:=h.open_
 have hk:=hok.klen
 have hl:=hok.kl
 have hal:=hok.again_len
 have hTl:T.length<=4000:=by have:=rise_len T 0 (y.s-y.a) hr hb;omega
 have hz:∀ W,(zeroValue 247).run Tryz.prog W=.ok (.agg #[.string ByteArray.empty,.int .u32 0]) W:=fun W=>by kernel_rfl
 have HOK:=lh hok
 have HF:=lh hF
 have HFW:=lh hFw
 have HR:=lh hr
 have HBD:=lh hb
 have HMAY:=lh hmay
 have HI0:Hid (SendIn (w.alloc (.cells #[.pointer (some ⟨p,0,none⟩)] 98)) p g b k A c (Sf.prog y)):=h1.old ((Touch.refl _ w).alloc _)
 have HT0:Hid (Touch F w (w.alloc (.cells #[.pointer (some ⟨p,0,none⟩)] 98))):=(Touch.refl F w).alloc _
 have HB0:Hid (Blk (w.alloc (.cells #[.pointer (some ⟨p,0,none⟩)] 98)) w.heap.size 98 [.pointer (some ⟨p,0,none⟩)]):=Blk.new w _ [_]
 have HL:Hid (Calls Tryz.prog 241 #[.slice C S.length d] (w.alloc (.cells #[.pointer (some ⟨p,0,none⟩)] 98)) fun e w'=>∃ B f,e=.returned (.slice B T.length f)/\Mine intE (w.alloc (.cells #[.pointer (some ⟨p,0,none⟩)] 98)) w' B f T):=by
  have:=list_any C d S (w.alloc (.cells #[.pointer (some ⟨p,0,none⟩)] 98)) (hS.touch ((Touch.refl (fun _=>False) w).alloc _) (fun _ _ _ h=>h)) hgd (by rw [hT];omega)
  rw [hT] at this
  exact this
 have HPW:Hid (p<w.heap.size/\p ≠ k/\Sf.pa y.again=(Sf.prog y).again):=⟨h1.blk.lt,fun e=>h1.ne_k e.symm,rfl⟩
 clear h h1 hF hFw hr hb hmay hok hS hgd hT hk
 go_enter Tryz.func218,Tryz.ntmps218
 go_wp2_with fail
 refine HL.out.mono ?_
 rintro e w1 ⟨B,f,rfl,m1⟩
 have S1:=lh m1.sl
 have hTc:T.length<=f:=m1.sl.1
 have hTm:=m1.sl.2.1
 unfold maxLen at hTm
 have I1:=lh (HI0.out.old m1.fresh)
 have T1:Hid (Touch F w w1):=HT0.out.trans m1.fresh (fun _ _ h=>h.elim)
 have B1:=lh (m1.fresh.blk HB0.out (fun h=>h))
 clear m1 HL HI0 HT0 HB0
 simp only
 go_wp2_with fail
 go_loopw [7,14] (fun s7 s14 wr=>∃ (j:Nat) (A':Option Addr) (c':Nat) (M:List Int),j<=T.length/\s14=.int .i64 j/\s7=.int .i64 ((Sf.more y P (T.take j)).length:Int)/\Hid (M=Sf.pa (y.again++Sf.more y P (T.take j)))/\Hid (SendIn wr p g b k A' c' { Sf.prog y with again:=M })/\Hid (Touch F w wr)/\Hid (Blk wr w.heap.size 98 [.pointer (some ⟨p,0,none⟩)])/\Hid (Sl intE wr B f T)/\Hid (∀ ad,A'=some ad->F ad.block\/w.heap.size<ad.block)) (fun _ s14 _=>T.length-(intOf s14).toNat)
 case atStart=>exact ⟨0,A,c,Sf.pa y.again,by omega,rfl,by simp [Sf.more],by unfold Hid;simp [Sf.more],by unfold Hid;exact I1.out,T1,B1,S1,fun ad e=>.inl (HF.out.A ad e)⟩
 case round =>
  clear I1 T1 B1 S1
  obtain ⟨j,A',c',M,hj,rfl,rfl,HM,HI,HT,HB,HS,HA⟩:=hrel
  have hMl:M.length<=8000:=by
   rw [HM.out]
   have:=Sf.more_len y P (T.take j)
   simp [Sf.pa]
   simp at this
   omega
  have hcbx:wr.cell? ⟨w.heap.size,0,none⟩=some (.pointer (some ⟨p,0,none⟩)):=HB.out.cell 0
  have c1:wr.cell? ⟨p,1,none⟩=some (.int .u32 (y.a%16777216)):=HI.out.blk.cell 1
  have c8:wr.cell? ⟨p,8,none⟩=some (.map (some k)):=HI.out.blk.cell 8
  have c9:wr.cell? ⟨p,9,none⟩=some (.slice A' M.length c'):=HI.out.blk.cell 9
  by_cases hlt:j<T.length
  ·have hj1:(j:Int)<(T.length:Int):=by omega
   have hj0:(0:Int)<=(j:Int):=by omega
   obtain ⟨gB,oB,rfl,_,cT⟩:=HS.out.rd.int_at j hlt
   have hin:T.getD j 0 ∈ T:=by simp [List.getD,List.getElem?_eq_getElem hlt]
   have hbd:=HBD.out _ hin
   have HMS:=lh (Sf.more_succ y P T j hlt)
   have HCI:=lh (HOK.out.contains (p:=P) HR.out HBD.out j hlt)
   rw [<- HM.out] at HCI
   obtain ⟨i,hi⟩:=qx (T.getD j 0)
   rw [hi] at hbd HMS cT HCI
   have HLK:Hid (mget (Sd.mapV (Sf.prog y).m) ((y.a+i)%16777216)=some (Sd.itemV (y.kept.getD (y.a+i-y.a).toNat default,y.last.getD (y.a+i-y.a).toNat 0%16777216))):=by
    unfold Hid
    rw [Sd.mapV_get,HOK.out.look (by omega) (by omega)]
    rfl
   have HMY:Hid (∀ W,Touch F w W->Calls Tryz.prog gf (#[.int .u32 (y.last.getD (y.a+i-y.a).toNat 0%16777216)]++cb) W fun e w'=>e=.returned (.bool (Sf.may y P (y.a+i)))/\Fresh W w'):=fun W hW=>HMAY.out W (y.a+i) hW (by omega) (by omega)
   have HSA:Hid (∀ W,Calls Tryz.prog 62 #[.int .u32 (y.a%16777216),.int .i64 i] W fun e w'=>e=.returned (.int .u32 ((y.a+i)%16777216))/\w'=W):=fun W=>by
    have:=sadd_any (y.a%16777216) i W
    rw [show (y.a%16777216+i)%16777216=(y.a+i)%16777216 by omega] at this
    exact this
   have HCT:Hid (∀ W,Fresh wr W->Calls Tryz.prog 242 #[.slice A' M.length c',.int .u32 ((y.a+i)%16777216)] W fun e w'=>e=.returned (.bool (decide ((y.a+i)%16777216 ∈ M)))/\Fresh W w'):=fun W hW =>
    scont_any _ A' c' M W ((HI.out.ag.touch hW (fun _ _ h=>h)).rd) (by omega)
   rw [HCI.out] at HCT
   have HMA:Hid (M++[(y.a+i)%16777216]=Sf.pa (y.again++(Sf.more y P (T.take j)++[y.a+i]))):=by
    unfold Hid
    rw [HM.out]
    simp [Sf.pa]
   have hLl:(Sf.more y P (T.take j)).length<=8000:=by
    have:=Sf.more_len y P (T.take j)
    simp at this
    omega
   clear HCI hi hin hbd
   generalize Sf.more y P (T.take j)=L at *
   generalize y.last.getD (y.a+i-y.a).toNat 0%16777216=q at *
   generalize y.kept.getD (y.a+i-y.a).toNat default=v at *
   generalize (y.a+i)%16777216=n0 at *
   generalize Sf.may y P (y.a+i)=z1 at *
   generalize decide (y.a+i ∈ y.again)=z2 at *
   have hfd:∀ W,(Instr.field 247 (Value.agg #[Value.string v,Value.int .u32 q]) 1).run Tryz.prog W=.ok (.int .u32 q) W:=fun W=>by kernel_rfl
   go_wp2_with fail
   refine (HSA.out _).mono ?_
   rintro e w2 ⟨rfl,rfl⟩
   simp only
   go_wp2_with (refine wpList_lookM rfl rfl (K:=numK) (k:=n0) rfl rfl HI.out.map Tryz.underlying158 (hz _) ?_;rw [if_neg (by decide),HLK.out];simp only [Option.getD_some,Sd.itemV])
   refine (HMY.out _ HT.out).mono ?_
   rintro e w3 ⟨rfl,f3⟩
   have I3:=lh (HI.out.old f3)
   have T3:Hid (Touch F w w3):=HT.out.trans f3 (fun _ _ h=>h.elim)
   have B3:=lh (f3.blk HB.out (fun h=>h))
   have S3:Hid (Sl intE w3 (some ⟨gB,oB,none⟩) f T):=HS.out.touch f3 (fun _ _ h=>h)
   have d9:w3.cell? ⟨p,9,none⟩=some (.slice A' M.length c'):=I3.out.blk.cell 9
   have db:w3.cell? ⟨w.heap.size,0,none⟩=some (.pointer (some ⟨p,0,none⟩)):=B3.out.cell 0
   have F3:=lh f3
   clear f3 HI HT HB HS c1 c8 c9 hcbx cT HMY HSA HLK
   simp only
   cases z1 with
   |false =>
    have HMS2:Hid (Sf.more y P (T.take (j+1))=L):=by unfold Hid;rw [HMS.out];rfl
    clear HMS HCT HMA F3
    go_wp2
    go_roundw
    case rel=>exact ⟨j+1,A',c',M,hlt,by go_num,by rw [HMS2.out],by unfold Hid;rw [HMS2.out];exact HM.out,I3,T3,B3,S3,HA⟩
    case measure=>simp [intOf];omega
   |true =>
    go_wp2_with fail
    refine (HCT.out _ F3.out).mono ?_
    rintro e w4 ⟨rfl,f4⟩
    have I4:=lh (I3.out.old f4)
    have T4:Hid (Touch F w w4):=T3.out.trans f4 (fun _ _ h=>h.elim)
    have B4:=lh (f4.blk B3.out (fun h=>h))
    have S4:Hid (Sl intE w4 (some ⟨gB,oB,none⟩) f T):=S3.out.touch f4 (fun _ _ h=>h)
    clear f4 I3 T3 B3 S3 d9 db HCT F3
    simp only
    cases z2 with
    |true =>
     have HMS2:Hid (Sf.more y P (T.take (j+1))=L):=by unfold Hid;rw [HMS.out];rfl
     clear HMS HMA
     go_wp2
     go_roundw
     case rel=>exact ⟨j+1,A',c',M,hlt,by go_num,by rw [HMS2.out],by unfold Hid;rw [HMS2.out];exact HM.out,I4,T4,B4,S4,HA⟩
     case measure=>simp [intOf];omega
    |false =>
     have HMS2:Hid (Sf.more y P (T.take (j+1))=L++[y.a+i]):=by unfold Hid;rw [HMS.out];rfl
     have e9:∀ o,(w4.alloc o).cell? ⟨p,9,none⟩=some (.slice A' M.length c'):=fun o=>(I4.out.blk.alloc o).cell 9
     have eb:∀ o,(w4.alloc o).cell? ⟨w.heap.size,0,none⟩=some (.pointer (some ⟨p,0,none⟩)):=fun o=>(B4.out.alloc o).cell 0
     have b9:w4.cell? ⟨p,9,none⟩=some (.slice A' M.length c'):=I4.out.blk.cell 9
     have bb:w4.cell? ⟨w.heap.size,0,none⟩=some (.pointer (some ⟨p,0,none⟩)):=B4.out.cell 0
     have HNB:Hid (∀ x,A'.map Addr.block=some x->x ≠ w.heap.size/\(x<w.heap.size->F x)):=fun x e=>by
      cases A' with
      |none=>cases e
      |some ad =>
       have h1:=HA.out ad rfl
       simp at e
       subst e
       rcases h1 with h1 | h1
       ·have:=HFW.out _ h1
        exact ⟨by omega,fun _=>h1⟩
       ·exact ⟨by omega,fun _=>by omega⟩
     clear HMS
     go_upto_region 7 with (fail)
     go_region_law (first
      |(refine stp_num rfl rfl (l:=M) (l2:=[n0]) rfl rfl (by exact I4.out.ag.alloc _) (by exact Sl.rd (Sl.lit numE w4 _ rfl _ _ rfl _ rfl (by decide))) (by simp;omega) ?_;intro A5 c5 L5 w5 hL5 hs5 ht5 hA5
        obtain ⟨q9,z9,I5⟩:=I4.out.apped (((Touch.refl (fun _=>False) w4).alloc _).drew) ht5 hs5
        have B5:=ht5.blk ((B4.out.alloc (.cells #[.int .u32 n0] 46)).drew) (fun e=>(HNB.out _ e).1 rfl)
        have qb:w5.cell? ⟨w.heap.size,0,none⟩=some (.pointer (some ⟨p,0,none⟩)):=B5.cell 0))
     all_goals
      have I6:Hid (SendIn (w5.setCell ⟨p,9,none⟩ (.slice A5 L5.length c5)) p g b k A5 c5 { Sf.prog y with again:=L5 }):=I5
      have T6:Hid (Touch F w (w5.setCell ⟨p,9,none⟩ (.slice A5 L5.length c5))):=Touch.st (((T4.out.alloc _).drew).trans ht5 (fun x hx e=>(HNB.out x e).2 hx)) HF.out.p
      have B6:Hid (Blk (w5.setCell ⟨p,9,none⟩ (.slice A5 L5.length c5)) w.heap.size 98 [.pointer (some ⟨p,0,none⟩)]):=B5.far (by have:=HPW.out.1;simp;omega) _
      have S6:Hid (Sl intE (w5.setCell ⟨p,9,none⟩ (.slice A5 L5.length c5)) (some ⟨gB,oB,none⟩) f T):=by
       have h1:=((S4.out.alloc (.cells #[.int .u32 n0] 46)).drew).touch ht5 (fun ad e e2=>by
        cases A' with
        |none=>cases e2
        |some ad' =>
         simp at e2
         exact S4.out.apart I4.out.ag (by decide) ad ad' e rfl e2.symm)
       exact h1.setCell (p:=⟨p,9,none⟩) (fun ad e e2=>S4.out.blk_ne I4.out.blk (by decide) ad e e2) _
      have HA6:Hid (∀ ad,A5=some ad->F ad.block\/w.heap.size<ad.block):=fun ad e=>by
       subst e
       rcases hA5 with e | e
       ·cases A' with
        |none=>cases e
        |some ad'=>have:=HA.out ad' rfl;simp at e;rw [e];exact this
       ·have:=B4.out.lt
        simp at e
        exact .inr (by omega)
      have HM6:Hid (L5=Sf.pa (y.again++(L++[y.a+i]))):=by unfold Hid;rw [hL5.out,HMA.out]
      clear hs5 ht5 hA5 hL5 q9 z9 qb I5 B5 I4 T4 B4 S4 HA HMA HM HNB e9 eb b9 bb
      generalize w5.setCell ⟨p,9,none⟩ (.slice A5 L5.length c5)=w6 at *
      go_wp2
      go_roundw
      case rel=>exact ⟨j+1,A5,c5,L5,hlt,by go_num,by rw [HMS2.out,List.length_append];go_num,by unfold Hid;rw [HMS2.out];exact HM6.out,I6,T6,B6,S6,HA6⟩
      case measure=>simp [intOf];omega
  ·obtain rfl:j=T.length:=by omega
   have hj1:¬ ((T.length:Nat):Int)<(T.length:Int):=by omega
   have HSO:=lh (ssort_any w.heap.size p (y.a%16777216) _ A' c' M wr HI.out.ag (by omega) HB.out HI.out.blk rfl)
   have HM2:Hid (M=Sf.pa (y.again++Sf.more y P T)):=by have:=HM.out;rw [List.take_length] at this;exact this
   clear HM c1 c8
   go_wp2_with fail
   refine HSO.out.mono ?_
   rintro e w3 ⟨rfl,M2,hp,hs,hsl,ht⟩
   have HMQ:Hid (M2=Sf.pa (Sf.merge y (Sf.more y P T))):=HOK.out.sorted_is HR.out HBD.out (by rw [<- HM2.out];exact hp) hs
   have I3:=lh (HI.out.rerow hsl hp.length_eq ht)
   have T3:Hid (Touch F w w3):=HT.out.trans ht (fun x hx e=>by
    cases A' with
    |none=>cases e
    |some ad =>
     simp at e
     subst e
     rcases HA.out ad rfl with h1 | h1
     ·exact h1
     ·omega)
   clear hp hs hsl ht HSO HI HT HB HS
   simp only
   go_wp2
   go_ret
   refine ⟨rfl,?_,T3.out⟩
   have h3:=I3.out
   rw [HMQ.out] at h3
   exact SendAt.mk' h3 ⟨.inl HF.out.p,.inl HF.out.g,fun x e=>.inl (HF.out.b x e),.inl HF.out.k,fun ad e=>(HA.out ad e).elim .inl (fun h=>.inr (Nat.le_of_lt h))⟩
theorem sahead_any (x y:Int) (w:World):Calls Tryz.prog 220 #[.int .u32 x,.int .u32 y] w fun e w'=>e=.returned (.bool (decide (0<(y-x)%16777216) && decide ((y-x)%16777216<8388608)))/\w'=w:=by
 have H1:=lh (to_any x y)
 generalize hd:(y-x)%16777216=d at *
 have hd0:0<=d:=by omega
 clear hd
 by_cases h0:0<d
 ·rw [decide_eq_true h0]
  go_enter Tryz.func220,Tryz.ntmps220
  go_wp2_with fail
  refine (H1.out _).mono ?_
  rintro e w1 ⟨rfl,rfl⟩
  simp only
  go_wp2_with fail
  refine (H1.out _).mono ?_
  rintro e w1 ⟨rfl,rfl⟩
  simp only
  go_wp2
  go_ret
  exact ⟨by simp,rfl⟩
 ·rw [decide_eq_false h0]
  go_enter Tryz.func220,Tryz.ntmps220
  go_wp2_with fail
  refine (H1.out _).mono ?_
  rintro e w1 ⟨rfl,rfl⟩
  simp only
  go_wp2
  go_ret
  exact ⟨by simp,rfl⟩
theorem sstcl_any (s:Nat) (ps q:Int) (w:World) (cs:w.cell? ⟨s,0,none⟩=some (.int .u32 ps)) :
  Calls Tryz.prog 219 #[.int .u32 q,.pointer (some ⟨s,0,none⟩)] w fun e w'=>e=.returned (.bool (decide (0<(ps-q)%16777216) && decide ((ps-q)%16777216<8388608)))/\w'=w:=by
 have H1:=lh (sahead_any q ps)
 generalize (decide (0<(ps-q)%16777216) && decide ((ps-q)%16777216<8388608))=z at *
 go_enter Tryz.func219,Tryz.ntmps219
 go_wp2_with fail
 refine (H1.out _).mono ?_
 rintro e w1 ⟨rfl,rfl⟩
 simp only
 go_wp2
 go_ret
 exact ⟨rfl,rfl⟩
theorem SendAt.cut {w:World} {p:Nat} {F:Nat->Prop} {st:Sd.S} (h:SendAt w p F st):SendAt w p (fun x=>F x/\x<w.heap.size) st:=by
 obtain ⟨g,b,k,A,c,h1,f⟩:=h.open_
 exact SendAt.mk' h1 ⟨⟨f.p,h1.blk.lt⟩,⟨f.g,h1.ring.lt⟩,fun x e=>⟨f.b x e,h1.ring.ltb x e⟩,⟨f.k,h1.map.lt⟩,fun ad e=>⟨f.A ad e,h1.ag.lt ad e⟩⟩
namespace Sf
theorem told_nums {x:S} {lo hi:Int} (hok:Ok x lo hi) {r:Int} {l:List Int} (hk:toldOk x r l=true) {T:List (Int × Int)} (h:Sp.IsOf (Gp.prs (Gp.ats (at_ x r) l)) T):Sp.nums T=told x (at_ x r) l:=by
 obtain ⟨h1,h2,h3,h4,h5⟩:=hok.told hk
 have hs:Sp.Small (Gp.prs (Gp.ats (at_ x r) l)):=by
  have h6:=h5
  unfold Gp.okSet at h6
  simp only [Bool.and_eq_true,decide_eq_true_eq] at h6
  exact (Gp.up_small _ (by have:=hok.kl;have:=hok.klen;omega) _ (-1) (by omega) h6.2).1
 refine Sp.Rising.uniq (Sp.nums_rising T h.1) h1 fun n=>?_
 unfold told
 rw [Sp.mem_nums,Sp.mem_nums,h.mem_small hs]
end Sf
def StatPost (p:Nat) (F:Nat->Prop) (z:Sf.S × Int × Int) (w:World) (e:Ending) (w':World):Prop:=
 e=.returned (.tuple #[.int .i64 z.2.1,.int .i64 z.2.2])/\SendAt w' p (Grown F w) (Sf.prog z.1)/\Touch F w w'
set_option maxRecDepth 8000 in
theorem sstat_any (p:Nat) (F:Nat->Prop) (x:Sf.S) (lo hi:Int) (hok:Sf.Ok x lo hi) (r mr ps:Int) (A:Option Addr) (c:Nat) (l:List Int) (w:World) (h:SendAt w p F (Sf.prog x)) (hr:Rd numE w A c l) (hl:l.length<=1000000) (hmr:0<=mr/\mr<16777216) :
  Calls Tryz.prog 190 #[.pointer (some ⟨p,0,none⟩),.int .u32 r,.int .u32 mr,.int .u32 ps,.slice A l.length c] w (StatPost p F (Sf.stat x r mr ps l) w):=by
 have hpw:p<w.heap.size:=by obtain ⟨g,b,k,A,c,h1,f⟩:=h.open_;exact h1.blk.lt
 have t0:Fresh w (w.alloc (.cells #[.int .u32 ps] 46)):=(Touch.refl _ w).alloc _
 have HH:=lh (h.cut.old t0)
 have HB:=lh (Blk.new w 46 [.int .u32 ps])
 have HT0:=lh t0
 have HRD:Hid (Rd numE (w.alloc (.cells #[.int .u32 ps] 46)) A c l):=hr.touch t0 (fun _ _ _ h=>h)
 have HWI:Hid (∀ W,Calls Tryz.prog 215 #[.int .u32 (x.pa%16777216),.int .u32 ps,.int .u32 (x.ps%16777216)] W fun e w'=>e=.returned (.bool (decide (Sf.pollAt x ps<=x.ps)))/\w'=W):=fun W=>by
  rw [<- hok.withinP ps]
  exact swithin_any _ _ _ W
 have HOK:=lh hok
 have HMR:=lh hmr
 clear h hr hok hmr t0
 go_enter Tryz.func190,Tryz.ntmps190
 go_upto_region 1 with (fail)
 generalize w.alloc (.cells #[.int .u32 ps] 46)=w1 at *
 have HZ:Hid (w.heap.size<w1.heap.size):=HB.out.lt
 obtain ⟨g,b,k,A0,c0,hin,_⟩:=HH.out.open_
 have k3:w1.cell? ⟨p,3,none⟩=some (.int .u32 (x.ps%16777216)):=hin.blk.cell 3
 have k4:w1.cell? ⟨p,4,none⟩=some (.int .u32 (x.pa%16777216)):=hin.blk.cell 4
 have kb:w1.cell? ⟨w.heap.size,0,none⟩=some (.int .u32 ps):=HB.out.cell 0
 clear hin
 by_cases hp:Sf.pollAt x ps<=x.ps
 ·rw [decide_eq_true hp] at HWI
  go_quiet ((go_at_call 215;refine Calls.quiet_of_same (HWI.out _)))
  have H2:=lh (HH.out.drewN nq)
  have B2:Hid (Blk (w1.drewN nq) w.heap.size 46 [.int .u32 ps]):=HB.out
  have T2:Hid (Fresh w (w1.drewN nq)):=HT0.out.drewN nq
  have R2:Hid (Rd numE (w1.drewN nq) A c l):=HRD.out
  have Z2:Hid (w.heap.size<(w1.drewN nq).heap.size):=HZ.out
  clear HH HB HT0 HRD HZ k3 k4 kb HWI
  generalize w1.drewN nq=w2 at *
  have HTO:=lh (stold_any p _ x lo hi HOK.out r A c l w2 H2.out R2.out hl)
  go_wp2_with fail
  refine HTO.out.mono ?_
  intro e w3 hpo
  cases ht:Sf.toldOk x r l with
  |false =>
   obtain ⟨rfl,f⟩:=hpo.2 ht
   have HT:=lh f
   have HST:Hid (Sf.stat x r mr ps l=(x,0,13)):=by unfold Hid Sf.stat;rw [if_neg (by omega),if_pos ht]
   clear hpo f ht HTO
   simp only
   go_wp2
   go_ret2
   rw [HST.out]
   exact ⟨rfl,(H2.out.old HT.out).mono (fun x h=>.inl h.1),(T2.out.trans HT.out (fun _ _ h=>h)).mono (fun _ _ h=>h.elim)⟩
  |true =>
   obtain ⟨C,gc,S,rfl,m,ho⟩:=hpo.1 ht
   obtain ⟨t1,t2,t3,t4,t5⟩:=HOK.out.told ht
   have HST:Hid (Sf.stat x r mr ps l=((Sf.rep (Sf.opn { Sf.ack x (Sf.at_ x r) with pa:=Sf.pollAt x ps } mr) (some (Sf.pollAt x ps)) (Sf.told x (Sf.at_ x r) l)).1,(Sf.rep (Sf.opn { Sf.ack x (Sf.at_ x r) with pa:=Sf.pollAt x ps } mr) (some (Sf.pollAt x ps)) (Sf.told x (Sf.at_ x r) l)).2,0)):=by unfold Hid Sf.stat;rw [if_neg (by omega),if_neg (by rw [ht];decide)]
   have HTN:=lh (Sf.told_nums HOK.out ht ho)
   have HGD:=lh ho.good
   have H3:=lh (H2.out.old m.fresh)
   have B3:=lh (m.fresh.blk B2.out (fun h=>h))
   have HM:=lh m
   have HT45:=lh (And.intro t3 t4)
   have HT12:=lh (And.intro t1 t2)
   have HPB:=lh (And.intro (HOK.out.poll_bd ps) hp)
   clear hpo m ho ht HTO t1 t2 t3 t4 t5 hp H2 B2 R2
   simp only
   go_wp2_with fail
   refine (sack_any p _ x lo hi HOK.out r w3 H3.out HT45.out.2).mono ?_
   rintro e w4 ⟨rfl,h4,tt4⟩
   have TT4:=lh tt4
   have B4:=lh (tt4.blk B3.out (fun h=>Nat.lt_irrefl _ h.2))
   obtain ⟨g4,b4,k4,A4,c4,i4,f4⟩:=h4.open_
   have q4:w4.cell? ⟨p,4,none⟩=some (.int .u32 (x.pa%16777216)):=i4.blk.cell 4
   have z4:=i4.blk.frozen 4
   have qb:w4.cell? ⟨w.heap.size,0,none⟩=some (.int .u32 ps):=B4.out.cell 0
   have OK2:=lh (HOK.out.ack HT45.out.1 HT45.out.2)
   have OK5:=lh (OK2.out.paset (p:=Sf.pollAt x ps) HPB.out.1 HPB.out.2)
   have HPM:Hid (ps%16777216=Sf.pollAt x ps%16777216):=by unfold Hid Sf.pollAt;omega
   have H5:Hid (SendAt (w4.setCell ⟨p,4,none⟩ (.int .u32 (ps%16777216))) p (Grown (fun x=>F x/\x<w.heap.size) w3) (Sf.prog { Sf.ack x (Sf.at_ x r) with pa:=Sf.pollAt x ps })):=by
    unfold Hid
    rw [HPM.out]
    exact SendAt.mk' (i4.scalar (st':=Sf.prog { Sf.ack x (Sf.at_ x r) with pa:=Sf.pollAt x ps }) 4 _ rfl rfl rfl rfl rfl) f4
   have B5:Hid (Blk (w4.setCell ⟨p,4,none⟩ (.int .u32 (ps%16777216))) w.heap.size 46 [.int .u32 ps]):=B4.out.far (by simp;omega) _
   have TT5:Hid (Touch (· = p) w4 (w4.setCell ⟨p,4,none⟩ (.int .u32 (ps%16777216)))):=Touch.set1 w4 p 4 _
   have HFP:Hid (F p):=by
    obtain ⟨_,_,_,_,_,_,f⟩:=H3.out.open_
    exact f.p.1
   clear h4 tt4 i4 f4 B4
   simp only
   go_wp2_with fail
   refine (low_any ps _).mono ?_
   rintro e w5 ⟨rfl,rfl⟩
   simp only
   go_wp2_with fail
   clear q4 z4 qb
   generalize w5.setCell ⟨p,4,none⟩ (.int .u32 (ps%16777216))=w6 at *
   have HOP:=lh (sopn_any p _ _ mr w6 H5.out)
   have e3:Sd.opn (Sf.prog { Sf.ack x (Sf.at_ x r) with pa:=Sf.pollAt x ps }) mr=Sf.prog (Sf.opn { Sf.ack x (Sf.at_ x r) with pa:=Sf.pollAt x ps } mr):=by
    have:=OK5.out.prog_opn mr
    rw [Int.emod_eq_of_lt HMR.out.1 HMR.out.2] at this
    exact this
   rw [e3] at HOP
   clear e3
   refine HOP.out.mono ?_
   rintro e w7 ⟨rfl,h7,tt7⟩
   have H7:=lh h7.cut
   have TT7:=lh tt7
   have OK7:=lh (OK5.out.opn mr)
   have HKP:=lh (Sf.opn_keeps { Sf.ack x (Sf.at_ x r) with pa:=Sf.pollAt x ps } mr)
   have HSZ:Hid (w2.heap.size<=w3.heap.size/\w3.heap.size<=w5.heap.size/\w5.heap.size<=w6.heap.size/\w6.heap.size<=w7.heap.size):=⟨HM.out.fresh.size,TT4.out.size,TT5.out.size,tt7.size⟩
   have B7:Hid (Blk w7 w.heap.size 46 [.int .u32 ps]):=tt7.blk B5.out (fun hh=>by
    have hz:=B3.out.lt
    rcases hh with hh | hh
    ·exact Nat.lt_irrefl _ hh.2
    ·omega)
   clear h7 tt7 HOP H5 B5
   generalize Sf.opn { Sf.ack x (Sf.at_ x r) with pa:=Sf.pollAt x ps } mr=y at *
   have hya:y.a=Sf.at_ x r:=HKP.out.1
   have hys:y.s=x.s:=HKP.out.2.1
   have HS7:Hid (Rd spanE w7 C gc S):=by
    have hz:=Z2.out
    have h1:Rd spanE w5 C gc S:=HM.out.sl.rd.touch TT4.out (fun ad e _ hf=>by have:=HM.out.base ad e;omega)
    have h2:Rd spanE w6 C gc S:=h1.touch TT5.out (fun ad e _ hf=>by have:=HM.out.base ad e;omega)
    refine h2.touch TT7.out (fun ad e _ hf=>?_)
    have h4:=HM.out.base ad e
    have h5:=HM.out.sl.lt ad e
    rcases hf with hf | hf
    ·omega
    ·omega
   have HRP:=lh (srep_any p _ y lo hi OK7.out (some (Sf.pollAt x ps)) 219 #[.pointer (some ⟨w.heap.size,0,none⟩)] C gc S w7 H7.out (fun _ h=>h.2) HS7.out HGD.out _ HTN.out HT12.out.1 (by rw [hya,hys];exact HT12.out.2) (enters_of Tryz.func219 (by kernel_rfl) rfl) (fun W n hW h1 h2=>by
    have hB:=hW.blk B7.out (fun hh=>by
     have hz:=B3.out.lt
     rcases hh.1 with hh | hh
     ·exact Nat.lt_irrefl _ hh.2
     ·omega)
    have:=sstcl_any w.heap.size ps (y.last.getD (n-y.a).toNat 0%16777216) W (hB.cell 0)
    have e1:=OK7.out.ahead (p:=Sf.pollAt x ps) (by have:=HOK.out.lpa;have:=HPB.out.1;omega) (by have:=HOK.out.phi;have:=HPB.out.2;omega) h1 h2
    rw [<- HPM.out] at e1
    rw [<- e1]
    have e2:(ps%16777216-y.last.getD (n-y.a).toNat 0%16777216)%16777216=(ps-y.last.getD (n-y.a).toNat 0%16777216)%16777216:=by omega
    rw [e2]
    exact this.mono fun e w' h=>⟨h.1,h.2 ▸ Touch.refl _ _⟩))
   clear hya hys HKP
   simp only
   go_wp2_with fail
   refine HRP.out.mono ?_
   rintro e w8 ⟨rfl,h8,tt8⟩
   have H8:=lh h8
   have TT8:=lh tt8
   clear h8 tt8 HRP
   simp only
   go_wp2
   go_ret2
   rw [HST.out]
   have s1:=Z2.out
   obtain ⟨s2,s3,s4,s5⟩:=HSZ.out
   refine ⟨rfl,H8.out.mono (fun z hz=>?_),?_⟩
   ·rcases hz with ⟨hz | hz,_⟩ | hz
    ·exact .inl hz.1
    ·exact .inr (by omega)
    ·exact .inr (by omega)
   ·refine (((((T2.out.mono (fun _ _ h=>h.elim):Touch F w w2).trans HM.out.fresh (fun _ _ h=>h.elim)).trans TT4.out (fun k hk h=>h.1)).trans TT5.out (fun k hk h=>by rw [h];exact HFP.out)).trans TT7.out (fun k hk h=>?_)).trans TT8.out (fun k hk h=>?_)
    ·rcases h with h | h
     ·exact h.1
     ·omega
    ·rcases h.1 with h | h
     ·exact h.1
     ·omega
 ·rw [decide_eq_false hp] at HWI
  have HST:Hid (Sf.stat x r mr ps l=(x,0,12)):=by unfold Hid Sf.stat;rw [if_pos (by omega)]
  go_quiet ((go_at_call 215;refine Calls.quiet_of_same (HWI.out _)))
  go_wp2
  go_ret2
  rw [HST.out]
  exact ⟨rfl,(HH.out.drewN _).mono (fun x h=>.inl h.1),(HT0.out.drewN _).mono (fun _ _ h=>h.elim)⟩
end Go.Proofs.YtlbopdfobgjjaaaGreatDoor

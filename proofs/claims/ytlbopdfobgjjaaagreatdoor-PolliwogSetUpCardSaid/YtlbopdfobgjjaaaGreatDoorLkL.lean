/-
  polliwogtop.PolliwogSetUp: the walk of the law. No conditions.
-/
import Derived.Test.YtlbopdfobgjjaaaGreatDoorLkS
import Derived.Test.YtlbopdfobgjjaaaGreatDoorLkV
import Derived.Test.YtlbopdfobgjjaaaGreatDoorEnVr
import Derived.Deep.LoopGhost
import Derived.WalkMore
set_option maxHeartbeats 16000000
namespace Go.Proofs.YtlbopdfobgjjaaaGreatDoor
open Go.RowKit
set_option maxRecDepth 20000
theorem recI:(Tryz.prog.info? 53).map (·.size)=some 18:=by kernel_rfl
def recZ:List Value:=[.int .i64 0,.int .i64 0,.int .i64 0,.int .i64 0,.int .u32 0,.int .u32 0,.int .u32 0,.slice none 0 0,.bool false,.string ByteArray.empty,.int .i64 0,.string ByteArray.empty,.bool false,.int .u8 0,.int .i64 0,.int .i64 0,.string ByteArray.empty,.int .i64 0]
theorem cvI:(Tryz.prog.info? 55).map (·.size)=some 5:=by kernel_rfl
def cvZ:List Value:=[.int .i64 0,.int .i64 0,.int .i64 0,.int .i64 0,.int .u32 0]
theorem two_boxes (W:World):Blk ((W.alloc (.cells cvZ.toArray 55)).alloc (.cells cvZ.toArray 55)) W.heap.size 55 cvZ/\Blk ((W.alloc (.cells cvZ.toArray 55)).alloc (.cells cvZ.toArray 55)) (W.heap.size+1) 55 cvZ:=by
 refine ⟨(Blk.new W _ cvZ).alloc _,?_⟩
 have e:(W.alloc (.cells cvZ.toArray 55)).heap.size=W.heap.size+1:=by simp
 rw [<- e]
 exact Blk.new _ _ cvZ
theorem cv_put {cs:List Value} (h:cs.length=5):List.take 0 cvZ++cs++List.drop (0+cs.length) cvZ=cs:=by
 rw [List.take_zero,List.nil_append,Nat.zero_add,List.drop_of_length_le (by rw [h];exact Nat.le_refl 5),List.append_nil]
def lrZ:List Value:=[.slice none 0 0,.slice none 0 0,.int .i64 0]
theorem polliwogSetUp.core (x0 x1 x2 x3 x4 x5 y0 y1 y2 y3 y4 y5 m:Int) (A A2 A3:Option Addr) (c c2 c3:Nat) (L L2:List Int) (M:List Bool) (who:Int) (w:World) (h:Rd intE w A c L) (h2:Rd intE w A2 c2 L2) (h3:Rd lostE w A3 c3 M) :
  Calls Tryz.prog 3 #[.agg #[.int .i64 x0,.int .i64 x1,.int .i64 x2,.int .i64 x3,.int .i64 x4,.int .i64 x5,.slice A L.length c,.int .i64 y0,.int .i64 y1,.int .i64 y2,.int .i64 y3,.int .i64 y4,.int .i64 y5,.slice A2 L2.length c2,.int .i64 m],.slice A3 M.length c3,.int .i64 who] w fun e w'=>e=.returned (.bool true)/\Fresh w w':=by
 go_enter Tryz.func3,Tryz.ntmps3
 go_upto_region 2 with (fail)
 obtain ⟨F,hF⟩:∃ F:List Value,F=[.int .i64 16,.int .i64 x1,.int .i64 x2,.int .i64 x3,.int .i64 x4,.int .i64 x5,.slice A L.length c,.int .i64 16,.int .i64 y1,.int .i64 y2,.int .i64 y3,.int .i64 y4,.int .i64 y5,.slice A2 L2.length c2,.int .i64 m]:=⟨_,rfl⟩
 obtain ⟨w1,hw1⟩:=xq (w.alloc (.cells F.toArray 26))
 obtain ⟨b0,hb0⟩:=xq w.heap.size
 have HF1:Hid (Fresh w w1):=by rw [hw1];exact (Touch.refl _ _).alloc _
 have HX:Hid (w1.rangeAt b0 0 F):=by rw [hw1,hb0];exact (Blk.new w _ F).range
 have HL:Hid ((Tryz.prog.info? 26).map (·.size)=some F.length):=by rw [hF];exact c18I
 have HST:Hid (Calls Tryz.prog 4 #[.agg F.toArray] w1 (StartPost (fun _=>50) w1 16 16)):=by
  rw [hF]
  exact lstart_any (fun _=>50) 16 x1 x2 x3 x4 x5 16 y1 y2 y3 y4 y5 m A A2 c c2 L L2 w1 (h.touch HF1.out (fun _ _ _ e=>e)) (h2.touch HF1.out (fun _ _ _ e=>e))
 have HR:=lh h3
 rw [show (#[Value.int .i64 16,.int .i64 x1,.int .i64 x2,.int .i64 x3,.int .i64 x4,.int .i64 x5,.slice A L.length c,.int .i64 16,.int .i64 y1,.int .i64 y2,.int .i64 y3,.int .i64 y4,.int .i64 y5,.slice A2 L2.length c2,.int .i64 m]:Array Value)=F.toArray from by rw [hF],<- hw1,<- hb0]
 clear hF hw1 hb0 h h2 h3
 refine wp_region_lit ?_
 refine wpList_loadB rfl _ (.tmp 3) rfl b0 0 (by rfl) F HX.out Tryz.underlying26 rfl HL.out ?_
 go_wp2_with fail
 refine HST.out.mono ?_
 rintro e w2 ⟨K,D2,cA,cB,pa,ps,rv,rfl,k2,gg,hst,hmo,hrm,f2,l2⟩
 have HF2:Hid (Fresh w w2):=HF1.out.trans f2 (fun _ _ e=>e)
 have HK2:=lh k2
 have HL2:Hid (∀ b,b<w.heap.size->D2 b=50):=fun b hb=>l2 b (Nat.lt_of_lt_of_le hb HF1.out.size)
 have HRM:=lh hrm
 obtain ⟨k,hk⟩:∃ k:Nat,(k:Int)=bits .and .i64 who 1:=⟨(bits .and .i64 who 1).toNat,by have:=and_one who;omega⟩
 have hk2:k<2:=by have:=and_one who;omega
 obtain ⟨E,hE⟩:∃ E:Su.Env,E=⟨cfs cA cB k,cfs cA cB (1-k)⟩:=⟨_,rfl⟩
 have hx:k=0\/k=1:=by omega
 have HE:Hid E.Ok:=by
  rw [hE]
  rcases hx with rfl | rfl
  ·exact ⟨gg.1,gg.2,hmo.1,hmo.2,by show cB.start%_=cA.start%_;rw [hst]⟩
  ·exact ⟨gg.2,gg.1,hmo.2,hmo.1,by show cA.start%_=cB.start%_;rw [hst]⟩
 obtain ⟨S0,hS⟩:∃ S0:Su.Sy,S0=⟨fun i=>En.new (cfs cA cB i),fun _=>[]⟩:=⟨_,rfl⟩
 have HS:Hid (S0.x k=En.new E.a/\S0.x (1-k)=En.new E.b/\∀ i,S0.q i=[]):=by
  rw [hS,hE]
  exact ⟨rfl,rfl,fun _=>rfl⟩
 rw [<- hS] at HK2
 have hkz:(0:Int)<=(k:Int):=by omega
 have hk1:(k:Int)<2:=by omega
 have HLR:Hid ((Tryz.prog.info? 32).map (·.size)=some 3):=lk18I
 clear hx hE hS k2 gg hst hmo hrm f2 l2 HST HX HL HF1
 simp only
 go_upto_region 3 with (refine wpList_storeB rfl _ (.tmp 8) (.tmp 28) rfl w2.heap.size 0 (by rfl) [rowV pa 2,rowV ps 2,.int .i64 rv] (by rfl) (Blk.new w2 32 lrZ) (Nat.le_refl 3) HLR.out (by simp [rowV,Value.oneCell']) ?_;intro w3 hB ht;have HT3:Hid (Fresh w2 w3):=((Touch.refl (fun _=>False) w2).alloc (.cells lrZ.toArray 32)).trans ht (fun b hb e=>by have e:b=w2.heap.size:=e;omega);clear hB ht)
 have HF3:Hid (Fresh w w3):=HF2.out.trans HT3.out (fun _ _ e=>e)
 have HK3:Hid (LkAt K D2 w3 S0 0):=HK2.out.old HT3.out (fun _ _=>rfl)
 clear HT3 HF2 HK2
 go_upto_region 6 with (fail)
 rw [<- hk]
 clear hk
 have HRQ:=lh (Lw.begins HE.out hk2 HK3.out HF3.out HL2.out HS.out.1 HS.out.2.1 HS.out.2.2 HRM.out.2)
 go_wp2_with (go_at_call 5;(with_reducible refine HRQ.out.mono ?_);rintro e w4 ⟨D4,s4,A4,c4,l4,rfl,h4⟩;have H4:=lh h4;clear h4)
 clear HRQ HK3 HF3 HL2 HS HLR hkz hk1
 generalize hz0:w2.heap.size=bz at *
 clear hz0
 go_loopg [42,11] 656 (fun g v42 v11 wx=>∃ (r N:Nat) (D:Nat->Nat) (s:Su.Sy),r+g=656/\v42=.int .i64 r/\v11=.int .i64 N/\N<=600*r/\r<=401/\Hid (Lw K E k w false true r false D wx s N))
 case atStart=>exact ⟨0,0,D4,s4,by omega,rfl,rfl,by omega,by omega,H4⟩
 case round =>
  clear H4
  obtain ⟨r,N,D,s,hg,rfl,rfl,hN,hr,H⟩:=hrel
  cases gk with
  |zero=>omega
  |succ g =>
   have hr1:(r:Int)<656:=by omega
   have hr0:(0:Int)<=(r:Int):=by omega
   go_wp2_with fail
   go_loopg [44,11] 2 (fun g v44 v11 wx=>∃ (i N:Nat) (D:Nat->Nat) (s:Su.Sy),i+g=2/\v44=.int .i64 i/\v11=.int .i64 N/\N<=600*r+300*i/\Hid (Lw K E k w (decide (1-k<i)) (!decide (k<i)) r false D wx s N))
   case atStart=>exact ⟨0,N,D,s,by omega,rfl,rfl,by omega,H⟩
   case round =>
    clear H hN
    obtain ⟨i,N,D,s,hgi,rfl,rfl,hN,H⟩:=hrel
    cases gk with
    |succ gi =>
     have hi1:(i:Int)<2:=by omega
     have hi0:(0:Int)<=(i:Int):=by omega
     have hi2:i<2:=by omega
     have hmu:=H.out.mu_le HRM.out.2 hi2
     have HZ:Hid (N<=600*r+300*i/\Su.mu i s<=273/\r<=401/\r+(g+1)=656/\i+(gi+1)=2):=⟨hN,hmu,hr,hg,hgi⟩
     clear hN hmu hr hg hgi
     obtain ⟨Z,hZ⟩:=xq (decide (1-k<i))
     obtain ⟨Kb,hKb⟩:=xq (!decide (k<i))
     rw [<- hZ,<- hKb] at H
     have HZK:Hid (Z=decide (1-k<i)/\Kb=!decide (k<i)):=⟨hZ,hKb⟩
     clear hZ hKb
     go_wp2_with fail
     go_loopg [11] (Su.mu i s+1) (fun g v11 wx=>∃ (N:Nat) (D:Nat->Nat) (s:Su.Sy),g=Su.mu i s+1/\v11=.int .i64 N/\N+Su.mu i s<=600*r+300*i+273/\Hid (Lw K E k w Z Kb r false D wx s N))
     case atStart=>exact ⟨N,D,s,rfl,rfl,by have:=HZ.out;omega,H⟩
     case round =>
      clear H
      obtain ⟨N,D,s,hgm,rfl,hN,H⟩:=hrel
      cases gk with
      |zero=>omega
      |succ gm =>
       have hmp:Su.mu i s<=600*r+300*i+273:=by omega
       have HW:Hid (gm=Su.mu i s/\N+Su.mu i s<=600*r+300*i+273/\N<=800000):=by have:=HZ.out;exact ⟨by omega,hN,by omega⟩
       have hN0:(0:Int)<=(N:Int):=by omega
       clear hN hgm hmp
       go_upto_region 16 with (fail)
       go_cut [60] (fun v60 wx=>∃ b:Bool,v60=.bool b/\(b=true->N<6)/\wx=wr)
       case first =>
        have HRW:Hid (Rd lostE wr A3 c3 M):=HR.out.touch H.out.fr (fun _ _ _ e=>e)
        clear H HR HW
        by_cases h1:N<M.length
        ·have h1':(N:Int)<(M.length:Int):=by omega
         by_cases h2:N<6
         ·have h2':(N:Int)<6:=by omega
          obtain ⟨gb,ob,rfl,hgb,hxb⟩:=HRW.out.at_ N h1
          have x0:wr.cell? ⟨gb,ob+N,none⟩=some (.bool M[N]):=by simpa [lostE,Nat.add_assoc] using hxb 0 _ rfl
          have hcp:=HRW.out.1
          clear hxb HRW
          go_wp2_with fail
          go_meet
          case rel=>exact ⟨_,rfl,fun _=>h2,rfl⟩
         ·have h2':¬ (N:Int)<6:=by omega
          clear HRW
          go_wp2_with fail
          go_meet
          case rel=>exact ⟨_,rfl,fun e=>(by cases e),rfl⟩
        ·have h1':¬ (N:Int)<(M.length:Int):=by omega
         clear HRW
         go_wp2_with fail
         go_meet
         case rel=>exact ⟨_,rfl,fun e=>(by cases e),rfl⟩
       case rest =>
        obtain ⟨b,rfl,hb,rfl⟩:=hcut
        generalize wc=wr at *
        go_upto_if 60 with (fail)
        go_cut [13] (fun v13 wx=>∃ kd:Int,v13=.int .i64 kd/\(kd=0\/kd=1/\N<6)/\wx=wr)
        case first =>
         clear H HR HW
         cases b
         ·go_wp2_with fail
          go_meet
          case rel=>exact ⟨0,rfl,.inl rfl,rfl⟩
         ·have HB6:Hid (N<6):=hb rfl
          clear hb
          go_wp2_with fail
          go_meet
          case rel=>exact ⟨1,rfl,.inr ⟨rfl,HB6.out⟩,rfl⟩
        case rest =>
         obtain ⟨kd,rfl,hkd,rfl⟩:=hcut
         generalize wc=wr at *
         clear hb
         rcases hq:s.q i with _ | ⟨u,rq⟩
         ·have HC:=lh (H.out.empty hi2 hq kd)
          have HD:Hid (∀ D' w',Lw K E k w Z Kb r false D' w' s N->Lw K E k w (decide (1-k<i+1)) (!decide (k<i+1)) r false D' w' s N):=fun D' w' h=>by rw [HZK.out.1,HZK.out.2] at h;exact h.drained HE.out HRM.out.1 hi2 hq
          clear H hq hkd
          go_wp2_with (go_at_call 6;(with_reducible refine HC.out.mono ?_);rintro e w5 ⟨rfl,D5,h5⟩;have H5:=lh h5;clear h5)
          go_roundg gi
          case measure=>omega
          case rel =>
           have h1:=HZ.out
           have h2:=HW.out
           exact ⟨i+1,N,D5,s,by omega,by go_num,rfl,by omega,HD.out _ _ H5.out⟩
         ·have HC:=lh (H.out.carries HE.out hi2 hq HRM.out.2 HW.out.2.2 hkd)
          have hNB:(N:Int)<=800000:=by have:=HW.out;omega
          clear H hq hkd
          go_upto_region 21 with (go_at_call 6;(with_reducible refine HC.out.mono ?_);rintro e w5 ⟨D5,s5,A5,c5,L5,inc,rfl,h5,hs5,ht5,hi5,hm5,hl5⟩;have H5:=lh h5;have HS5:=lh hs5;have HT5:=lh ht5;have HI5:=lh hi5;have HM5:=lh hm5;have HL5:=lh hl5;clear h5 hs5 ht5 hi5 hm5 hl5)
          clear HC
          go_wp2_with fail
          go_loopg [75] L5.length (fun g v75 wx=>∃ (j:Nat) (inc:Bool) (D:Nat->Nat) (s':Su.Sy),j+g=L5.length/\v75=.int .i64 j/\Hid (Lw K E k w Z Kb r inc D wx s' (N+1))/\Hid (Todo i inc (L5.drop j))/\Hid (inc=true->i=1-k)/\Hid (Su.mu i s'+1=Su.mu i s)/\Hid (Sl recE wx A5 c5 L5/\∀ ad,A5=some ad->D ad.block=45))
          case atStart=>exact ⟨0,inc,D5,s5,by omega,rfl,H5,by rw [List.drop_zero];exact HT5,HI5,HM5,HS5⟩
          case round =>
           clear H5 HT5 HI5 HM5 HS5
           obtain ⟨j,inc,D6,s6,hgj,rfl,H6,HT6,HI6,HM6,HS6⟩:=hrel
           cases gk with
           |zero =>
            have hinc:inc=false:=by
             have h1:=HT6.out
             rw [List.drop_eq_nil_of_le (by omega)] at h1
             cases h1
             rfl
            subst hinc
            have hj0:¬ (j:Int)<(L5.length:Int):=by omega
            go_wp2_with fail
            go_roundg gm
            case measure=>omega
            case rel =>
             have h1:=HW.out
             have h2:=HM6.out
             have h2':Su.mu i s6+1=Su.mu i s:=h2
             exact ⟨N+1,D6,s6,by omega,by go_num,by omega,H6⟩
           |succ gj =>
            have hjl:j<L5.length:=by omega
            have hl2:L5.length<=2000:=HL5.out
            have hj1:(j:Int)<(L5.length:Int):=by omega
            have hj0:(0:Int)<=(j:Int):=by omega
            obtain ⟨gb,ob,rfl,hgb,hxb⟩:=HS6.out.1.at_ j hjl
            obtain ⟨q,hq⟩:=xq (L5[j])
            obtain ⟨cs,hcs⟩:=xq q.cells
            have HTQ:Hid (Todo i inc (q::L5.drop (j+1))):=by
             rw [hq,<- List.drop_eq_getElem_cons hjl]
             exact HT6
            have HRG:Hid (wr.rangeAt gb (ob+j*18) cs):=fun t v ht=>by
             rw [Nat.add_assoc]
             exact hxb t v (by rw [<- hq];show q.cells[t]?=_;rw [<- hcs];exact ht)
            have HCS:Hid (cs.length=18/\(∀ v ∈ cs,v.oneCell'=true)/\cs[0]?=some (.int .i64 q.e)/\cs[1]?=some (.int .i64 q.k)/\cs[10]?=some (.int .i64 q.s.kind)):=by
             rw [hcs]
             exact ⟨rfl,by simp [Rec.cells,Value.oneCell'],rfl,rfl,rfl⟩
            have HCI:Hid ((Tryz.prog.info? 53).map (·.size)=some cs.length):=by rw [HCS.out.1];exact recI
            have hcap:=HS6.out.1.1
            clear hq hcs hxb HT6
            go_upto_region 24 with (first
             |(refine wpList_loadB rfl _ (.tmp 77) rfl gb (ob+j*18) (by rfl) cs HRG.out Tryz.underlying53 rfl HCI.out ?_)
             |(refine wpList_storeB rfl _ (.tmp 17) (.tmp 78) rfl wr.heap.size 0 (by rfl) cs (by rfl) (Blk.new wr 53 recZ) (by rw [HCS.out.1];exact Nat.le_refl 18) HCI.out HCS.out.2.1 ?_;intro w7 hB ht;have HB7:Hid (Blk w7 wr.heap.size 53 cs):=hB.eq_cells (by rw [List.take_zero,List.nil_append,Nat.zero_add,List.drop_of_length_le (by rw [HCS.out.1];exact Nat.le_refl 18),List.append_nil]);have HF7:Hid (Fresh wr w7):=((Touch.refl (fun _=>False) wr).alloc _).trans ht (fun k hk e=>by have e:k=wr.heap.size:=e;omega);clear hB ht))
            have y0:w7.cell? ⟨wr.heap.size,0,none⟩=some (.int .i64 q.e):=by rw [HB7.out.cell,HCS.out.2.2.1]
            have y1:w7.cell? ⟨wr.heap.size,1,none⟩=some (.int .i64 q.k):=by rw [HB7.out.cell,HCS.out.2.2.2.1]
            have y10:w7.cell? ⟨wr.heap.size,10,none⟩=some (.int .i64 q.s.kind):=by rw [HB7.out.cell,HCS.out.2.2.2.2]
            have H7:Hid (Lw K E k w Z Kb r inc (lab D6 wr.heap.size 46) w7 s6 (N+1)):=H6.out.old HF7.out 46
            have HS7:Hid (Sl recE w7 (some ⟨gb,ob,none⟩) c5 L5/\∀ ad,(some (⟨gb,ob,none⟩:Addr))=some ad->lab D6 wr.heap.size 46 ad.block=45):=⟨HS6.out.1.touch HF7.out (fun _ _ e=>e),fun ad e=>(lab_old (HS6.out.1.lt ad e)).trans (HS6.out.2 ad e)⟩
            clear HB7 HF7 H6 HS6 HRG HCS HCI hgb hcap
            generalize lab D6 wr.heap.size 46=D7 at *
            generalize wr.heap.size=b7 at *
            obtain ⟨qe,qk,qu,qs,qrk,qrd,qrn⟩:=q
            obtain ⟨qsk,qsd,qss,qsc,qsn⟩:=qs
            by_cases h5:qk=5/\qsk=1
            ·obtain ⟨rfl,rfl⟩:=h5
             have hT:=HTQ.out
             cases hT with
             |skip hr2 _=>exact absurd ⟨rfl,rfl⟩ hr2
             |hit hr2 he2 hT2 =>
              have he2:qe=(i:Int):=he2
              subst he2
              have HQ:=lh (H7.out.accepts HE.out (HI6.out rfl) HRM.out.2 (by have:=HW.out;omega))
              have HT8:=lh hT2
              clear hT2 hr2 HTQ H7
              go_wp2_with (go_at_call 5;(with_reducible refine HQ.out.mono ?_);rintro e w8 ⟨D8,s8,A8,c8,l8,rfl,h8,m8,t8,b8⟩;have H8:=lh h8;have M8:=lh m8;have T8:=lh t8;have B8:=lh b8;clear h8 m8 t8 b8)
              go_roundg gj
              case measure=>omega
              case rel=>exact ⟨j+1,false,D8,s8,by omega,by go_num,H8,HT8,fun e=>(by cases e),by rw [M8.out];exact HM6,HS7.out.1.touch T8.out (fun ad e e2=>by have:=HS7.out.2 ad e;omega),fun ad e=>(B8.out _ (HS7.out.1.lt ad e)).trans (HS7.out.2 ad e)⟩
            ·have HT8:Hid (Todo i inc (L5.drop (j+1))):=by
              have hT:=HTQ.out
              cases hT with
              |skip _ h=>exact h
              |hit hr2 _ _=>exact absurd hr2 h5
             clear HTQ
             by_cases hk5:qk=5
             ·have hs1:¬ qsk=1:=fun e=>h5 ⟨hk5,e⟩
              subst hk5
              clear h5
              go_wp2_with fail
              go_roundg gj
              case measure=>omega
              case rel=>exact ⟨j+1,inc,D7,s6,by omega,by go_num,H7,HT8,HI6,HM6,HS7⟩
             ·clear h5
              go_wp2_with fail
              go_roundg gj
              case measure=>omega
              case rel=>exact ⟨j+1,inc,D7,s6,by omega,by go_num,H7,HT8,HI6,HM6,HS7⟩
    |zero =>
     obtain rfl:i=2:=by omega
     have hH:=H.out
     rw [show decide (1-k<2)=true from decide_eq_true (by omega),show (!decide (k<2))=false from by rw [decide_eq_true hk2];rfl] at hH
     have H2:=lh hH
     clear hH H
     have HN0:Hid (∀ W,Fresh wr W->Calls Tryz.prog 7 #[.pointer (some ⟨K.l,0,none⟩),.int .i64 0] W fun e w'=>e=.returned (.pointer (some ⟨K.n 0,0,none⟩))/\w'=W):=fun W hW=>lnode_any (i:=0) (H2.out.lk.old hW (fun _ _=>rfl)) (by decide)
     have HN1:Hid (∀ W,Fresh wr W->Calls Tryz.prog 7 #[.pointer (some ⟨K.l,0,none⟩),.int .i64 1] W fun e w'=>e=.returned (.pointer (some ⟨K.n 1,0,none⟩))/\w'=W):=fun W hW=>lnode_any (i:=1) (H2.out.lk.old hW (fun _ _=>rfl)) (by decide)
     have HV:Hid (∀ i,i<2->∀ W,Fresh wr W->Calls Tryz.prog 8 #[.pointer (some ⟨K.n i,0,none⟩)] W fun e w'=>∃ A' c',e=.returned (.agg (En.varsC (s.x i) A' c').toArray)/\Fresh wr w'):=fun i hi W hW=>by
      obtain ⟨cn,pc,un,sp,rp,A1,ca,B1,cb,hin⟩:=(H2.out.lk.old hW (D':=D) (fun _ _=>rfl)).nd i hi
      refine (nvars_any hin (fun e he=>by rw [(H2.out.ph.fits hi).ag e he];exact Nat.zero_le _)).mono ?_
      rintro e w' ⟨A',c',h1,h2,-⟩
      exact ⟨A',c',h1,hW.trans h2 (fun _ _ e=>e)⟩
     have HV0:=lh (HV.out 0 (by decide))
     have HV1:=lh (HV.out 1 (by decide))
     obtain ⟨ca,hca⟩:=xq (En.connV (s.x 0).conn)
     obtain ⟨cb,hcb⟩:=xq (En.connV (s.x 1).conn)
     have f1:∀ A c W,(Instr.field 62 (.agg (En.varsC (s.x 0) A c).toArray) 0).run Tryz.prog W=.ok (.agg ca.toArray) W:=fun A c W=>by rw [hca];exact vars_conn _ A c W
     have f2:∀ A c W,(Instr.field 62 (.agg (En.varsC (s.x 1) A c).toArray) 0).run Tryz.prog W=.ok (.agg cb.toArray) W:=fun A c W=>by rw [hcb];exact vars_conn _ A c W
     have HCA:Hid ((ca.length=5/\(∀ v ∈ ca,v.oneCell'=true)/\ca[0]?=some (.int .i64 (s.x 0).conn.state))/\(cb.length=5/\(∀ v ∈ cb,v.oneCell'=true)/\cb[0]?=some (.int .i64 (s.x 1).conn.state))):=by
      rw [hca,hcb]
      exact ⟨⟨rfl,by simp [En.connV,Value.oneCell'],rfl⟩,⟨rfl,by simp [En.connV,Value.oneCell'],rfl⟩⟩
     have HTK:=lh (fun D W (h:Lw K E k w true false r false D W s N)=>h.ticks HE.out HRM.out.2 (by omega))
     clear HV hca hcb
     have HCI:Hid ((Tryz.prog.info? 55).map (·.size)=some ca.length/\(Tryz.prog.info? 55).map (·.size)=some cb.length):=by rw [HCA.out.1.1,HCA.out.2.1];exact ⟨cvI,cvI⟩
     go_upto_region 29 with (first
      |(go_at_call 7;(with_reducible refine (HN0.out _ (Touch.refl _ _)).mono ?_);rintro e wr ⟨rfl,rfl⟩)
      |(go_at_call 8;(with_reducible refine (HV0.out _ (Touch.refl _ _)).mono ?_);rintro e w5 ⟨A5,c5,rfl,f5⟩;have HF5:Hid (Fresh wr w5):=f5;clear f5)
      |(go_at_call 7;(with_reducible refine (HN1.out _ HF5.out).mono ?_);rintro e w5 ⟨rfl,rfl⟩)
      |(go_at_call 8;(with_reducible refine (HV1.out _ HF5.out).mono ?_);rintro e w6 ⟨A6,c6,rfl,f6⟩;have HF6:Hid (Fresh wr w6):=f6;clear f6)
      |(refine wpList_storeB rfl _ (.tmp 18) (.tmp 98) rfl w6.heap.size 0 (by rfl) ca (by rfl) (two_boxes w6).1 (by rw [HCA.out.1.1];exact Nat.le_refl 5) HCI.out.1 HCA.out.1.2.1 ?_;intro w7 hB ht;have HB7:Hid (Blk w7 w6.heap.size 55 ca):=hB.eq_cells (cv_put HCA.out.1.1);have HB7b:Hid (Blk w7 (w6.heap.size+1) 55 cvZ):=ht.blk (two_boxes w6).2 (fun e=>by have e:w6.heap.size+1=w6.heap.size:=e;omega);have HF7:Hid (Fresh w6 w7):=(((Touch.refl (fun _=>False) w6).alloc _).alloc _).trans ht (fun k hk e=>by have e:k=w6.heap.size:=e;omega);clear hB ht)
      |(refine wpList_storeB rfl _ (.tmp 19) (.tmp 102) rfl (w6.heap.size+1) 0 (by rfl) cb (by rfl) HB7b.out (by rw [HCA.out.2.1];exact Nat.le_refl 5) HCI.out.2 HCA.out.2.2.1 ?_;intro w8 hB ht;have HB8:Hid (Blk w8 (w6.heap.size+1) 55 cb):=hB.eq_cells (cv_put HCA.out.2.1);have HB8a:Hid (Blk w8 w6.heap.size 55 ca):=ht.blk HB7.out (fun e=>by have e:w6.heap.size=w6.heap.size+1:=e;omega);have HF8:Hid (Fresh w6 w8):=HF7.out.trans ht (fun k hk e=>by have e:k=w6.heap.size+1:=e;omega);clear hB ht))
     have z0:w8.cell? ⟨w6.heap.size,0,none⟩=some (.int .i64 (s.x 0).conn.state):=by rw [HB8a.out.cell,HCA.out.1.2.2]
     have z1:w8.cell? ⟨w6.heap.size+1,0,none⟩=some (.int .i64 (s.x 1).conn.state):=by rw [HB8.out.cell,HCA.out.2.2.2]
     have H8:Hid (Lw K E k w true false r false (lab D wr.heap.size 46) w8 s N):=H2.out.old (HF6.out.trans HF8.out (fun _ _ e=>e)) 46
     clear HB7 HB7b HF7 HB8 HB8a HF8 HF5 HF6 HCI HCA f1 f2 HN0 HN1 HV0 HV1 H2
     have HTK8:=lh (HTK.out _ _ H8.out)
     generalize (s.x 0).conn.state=sa at *
     generalize (s.x 1).conn.state=sb at *
     generalize w6.heap.size=b6 at *
     clear HTK
     have HFR:=lh H8.out.fr
     clear H8
     go_simp
     go_cut [110] (fun v110 wx=>∃ b:Bool,v110=.bool b/\(b=true ↔ sa=10/\sb=10)/\wx=w8)
     case first =>
      clear HTK8
      by_cases h1:sa=10
      ·by_cases h2:sb=10
       ·subst h1 h2
        go_wp2_with fail
        go_meet
        case rel=>exact ⟨_,rfl,by decide,rfl⟩
       ·subst h1
        go_wp2_with fail
        go_meet
        case rel=>exact ⟨_,rfl,⟨fun e=>absurd (by simpa using e) h2,fun e=>absurd e.2 h2⟩,rfl⟩
      ·go_wp2_with fail
       go_meet
       case rel=>exact ⟨_,rfl,⟨fun e=>(by cases e),fun e=>absurd e.1 h1⟩,rfl⟩
     case rest =>
      obtain ⟨b,rfl,hb,rfl⟩:=hcut
      generalize wc=w8 at *
      have HB10:=lh hb
      clear hb
      cases b with
      |true =>
       clear HTK8 z0 z1
       go_wp2_with fail
       go_ret
       exact ⟨rfl,HFR.out⟩
      |false =>
       have HN10:Hid (¬ (sa=10/\sb=10)):=fun e=>by have:=HB10.out.2 e;cases this
       clear HB10
       go_upto_region 31 with (fail)
       go_cut [118] (fun v118 wx=>∃ b:Bool,v118=.bool b/\(b=true ↔ sa=1/\sb=1)/\wx=w8)
       case first =>
        clear HTK8 HN10
        by_cases h1:sa=1
        ·by_cases h2:sb=1
         ·subst h1 h2
          go_wp2_with fail
          go_meet
          case rel=>exact ⟨_,rfl,by decide,rfl⟩
         ·subst h1
          go_wp2_with fail
          go_meet
          case rel=>exact ⟨_,rfl,⟨fun e=>absurd (by simpa using e) h2,fun e=>absurd e.2 h2⟩,rfl⟩
        ·go_wp2_with fail
         go_meet
         case rel=>exact ⟨_,rfl,⟨fun e=>(by cases e),fun e=>absurd e.1 h1⟩,rfl⟩
       case rest =>
        obtain ⟨b,rfl,hb,rfl⟩:=hcut
        generalize wc=w8 at *
        have HB1:=lh hb
        clear hb z0 z1
        cases b with
        |true =>
         clear HTK8
         go_wp2_with fail
         go_ret
         exact ⟨rfl,HFR.out⟩
        |false =>
         have HN1:Hid (¬ (sa=1/\sb=1)):=fun e=>by have:=HB1.out.2 e;cases this
         obtain ⟨he,hc⟩:=HTK8.out HN10.out HN1.out
         have HC:=lh hc
         have HE4:Hid ((r:Int)<=400):=he
         clear hc he HTK8 HB1
         go_wp2_with (go_at_call 9;(with_reducible refine HC.out.mono ?_);rintro e w9 ⟨D9,s9,A9,c9,l9,rfl,h9⟩;have H9:=lh h9;clear h9)
         go_roundg g
         case measure=>omega
         case rel =>
          have h1:=HE4.out
          have h1':(r:Int)<=400:=h1
          refine ⟨r+1,N,D9,s9,by omega,by go_num,rfl,by omega,by omega,?_⟩
          have h2:=H9.out
          rw [show ((r:Int)+1)=((r+1:Nat):Int) by omega] at h2
          exact h2
end Go.Proofs.YtlbopdfobgjjaaaGreatDoor

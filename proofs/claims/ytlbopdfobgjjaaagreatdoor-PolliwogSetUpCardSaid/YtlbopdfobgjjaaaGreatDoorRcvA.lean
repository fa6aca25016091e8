/-
  recv.Recv: what a receiver is in memory · recv.Recv: New, Vars, Poll, renew; seq.Between, seq.Max.
-/
import Derived.Test.YtlbopdfobgjjaaaGreatDoorEvD
import Derived.Test.YtlbopdfobgjjaaaGreatDoorMapD
import Derived.Test.YtlbopdfobgjjaaaGreatDoorKey
import Derived.RegionTactic
import Derived.ChangeAlike
import Derived.Deep.QuietTactic
import Derived.BigQuiet
import Derived.StillTailTactics
import Derived.Deep.DeepCutAuto
import Derived.Deep.CutBlock
import Derived.Test.YtlbopdfobgjjaaaGreatDoorDetP
set_option maxHeartbeats 1000000
namespace Go.Proofs.YtlbopdfobgjjaaaGreatDoor
open Go.RowKit
def gapE:El (Int × Int):={ e:=245,size:=2,bytes:=8,zero:=.agg #[.int .u32 0,.int .u32 0],zel:=(0,0),enc:=fun x=>[.int .u32 x.1,.int .u32 x.2],len:=fun _=>rfl,one:=by simp [Value.oneCell'],pos:=by decide,zsize:=rfl,zenc:=rfl }
namespace Rv
structure S where
 r:Int
 h:Int
 mr:Int
 window:Int
 m:List (Int × ByteArray)
 inbox:List ByteArray
 gaps:List (Int × Int)
def bufV (m:List (Int × ByteArray)):MList Int:=m.map fun p=>(p.1,.string p.2)
theorem bufV_len (m:List (Int × ByteArray)):(bufV m).length=m.length:=by unfold bufV;rw [List.length_map]
def new (start window:Int):S:=
 { r:=start%16777216,h:=start%16777216,mr:=(start+max 1 (min window 64))%16777216,window:=max 1 (min window 64),m:=[],inbox:=[],gaps:=[] }
def renew (st:S):S:=
 { st with mr:=if (st.r+(st.window-st.inbox.length)-st.r)%16777216<=(st.mr-st.r)%16777216 then st.mr%16777216 else (st.r+(st.window-st.inbox.length))%16777216 }
end Rv
def recvCells (k:Nat) (A:Option Addr) (c:Nat) (G:Option Addr) (d:Nat) (st:Rv.S):List Value:=
 [.int .u32 st.r,.int .u32 st.h,.int .u32 st.mr,.int .i64 st.window,.map (some k),.slice A st.inbox.length c,.slice G st.gaps.length d]
structure RecvIn (w:World) (p k:Nat) (A:Option Addr) (c:Nat) (G:Option Addr) (d:Nat) (st:Rv.S):Prop where
 blk:Blk w p 165 (recvCells k A c G d st)
 map:MapAt numK w k (Rv.bufV st.m)
 inb:Sl strE w A c st.inbox
 gap:Sl gapE w G d st.gaps
structure RecvF (p k:Nat) (A G:Option Addr) (F:Nat->Prop):Prop where
 p:F p
 k:F k
 A:∀ ad,A=some ad->F ad.block
 G:∀ ad,G=some ad->F ad.block
def RecvAt (w:World) (p:Nat) (F:Nat->Prop) (st:Rv.S):Prop:=∃ k A c G d,RecvIn w p k A c G d st/\RecvF p k A G F/\∀ x,F x->x<w.heap.size
section
variable {w w':World} {p k:Nat} {A G:Option Addr} {c d:Nat} {st st':Rv.S} {F F':Nat->Prop}
theorem RecvIn.ne_k (h:RecvIn w p k A c G d st):k ≠ p:=h.map.blk_ne h.blk
theorem RecvIn.ne_A (h:RecvIn w p k A c G d st):∀ ad,A=some ad->ad.block ≠ p:=h.inb.blk_ne h.blk (by decide)
theorem RecvIn.ne_G (h:RecvIn w p k A c G d st):∀ ad,G=some ad->ad.block ≠ p:=h.gap.blk_ne h.blk (by decide)
theorem RecvIn.touch {T:Nat->Prop} (h:RecvIn w p k A c G d st) (ht:Touch T w w') (hp:¬ T p) (hk:¬ T k) (hA:∀ ad,A=some ad->¬ T ad.block) (hG:∀ ad,G=some ad->¬ T ad.block):RecvIn w' p k A c G d st:=
 ⟨ht.blk h.blk hp,h.map.touch ht hk,h.inb.touch ht hA,h.gap.touch ht hG⟩
theorem RecvIn.old (h:RecvIn w p k A c G d st) (ht:Fresh w w'):RecvIn w' p k A c G d st:=h.touch ht (fun h=>h) (fun h=>h) (fun _ _ h=>h) (fun _ _ h=>h)
theorem RecvIn.drewN (h:RecvIn w p k A c G d st) (n:Nat):RecvIn (w.drewN n) p k A c G d st:=h.old ((Touch.refl _ w).drewN n)
theorem RecvIn.scalar (h:RecvIn w p k A c G d st) (i:Nat) (u:Value) (hc:(recvCells k A c G d st).set i u=recvCells k A c G d st') (h1:st'.m=st.m) (h2:st'.inbox=st.inbox) (h3:st'.gaps=st.gaps) :
  RecvIn (w.setCell ⟨p,i,none⟩ u) p k A c G d st':=by
 refine ⟨hc ▸ h.blk.set i u,?_,?_,?_⟩
 ·rw [h1];exact h.map.setCell (by exact h.ne_k) _
 ·rw [h2];exact h.inb.setCell (p:=⟨p,i,none⟩) h.ne_A _
 ·rw [h3];exact h.gap.setCell (p:=⟨p,i,none⟩) h.ne_G _
theorem RecvAt.mk' (h:RecvIn w' p k A c G d st) (f:RecvF p k A G F) (hl:∀ x,F x->x<w.heap.size) (hs:w.heap.size<=w'.heap.size):RecvAt w' p F st:=
 ⟨k,A,c,G,d,h,f,fun x hx=>Nat.lt_of_lt_of_le (hl x hx) hs⟩
theorem RecvAt.touch {T:Nat->Prop} (h:RecvAt w p F st) (ht:Touch T w w') (hT:∀ x,F x->¬ T x):RecvAt w' p F st:=by
 obtain ⟨k,A,c,G,d,h1,h2,h3⟩:=h
 exact RecvAt.mk' (h1.touch ht (hT _ h2.p) (hT _ h2.k) (fun ad e=>hT _ (h2.A ad e)) (fun ad e=>hT _ (h2.G ad e))) h2 h3 ht.size
theorem RecvAt.old (h:RecvAt w p F st) (ht:Fresh w w'):RecvAt w' p F st:=h.touch ht (fun _ _ h=>h)
theorem RecvAt.lim (h:RecvAt w p F st):∀ x,F x->x<w.heap.size:=by
 obtain ⟨k,A,c,G,d,h1,h2,h3⟩:=h
 exact h3
end
theorem smax_any (base a b:Int) (w:World):Calls Tryz.prog 167 #[.int .u32 base,.int .u32 a,.int .u32 b] w fun e w'=>e=.returned (.int .u32 (if (b-base)%16777216<=(a-base)%16777216 then a%16777216 else b%16777216))/\w'=w:=by
 have HL:=lh low_any
 obtain ⟨y,hy⟩:=qx ((a-base)%16777216)
 obtain ⟨z,hz⟩:=qx ((b-base)%16777216)
 have HY:=lh hy
 have HZ:=lh hz
 rw [hy,hz]
 clear hy hz
 by_cases hc:z<=y
 ·rw [if_pos hc]
  go_enter Tryz.func167,Tryz.ntmps167
  go_wp2_with fail
  refine (to_any base a w).mono ?_
  rintro e w2 ⟨rfl,rfl⟩
  rw [HY.out]
  simp only
  go_wp2_with fail
  refine (to_any base b w2).mono ?_
  rintro e w3 ⟨rfl,rfl⟩
  rw [HZ.out]
  simp only
  go_wp2_with fail
  refine (HL.out a w3).mono ?_
  rintro e w4 ⟨rfl,rfl⟩
  simp only
  go_wp2
  go_ret
  exact ⟨rfl,rfl⟩
 ·rw [if_neg hc]
  go_enter Tryz.func167,Tryz.ntmps167
  go_wp2_with fail
  refine (to_any base a w).mono ?_
  rintro e w2 ⟨rfl,rfl⟩
  rw [HY.out]
  simp only
  go_wp2_with fail
  refine (to_any base b w2).mono ?_
  rintro e w3 ⟨rfl,rfl⟩
  rw [HZ.out]
  simp only
  go_wp2_with fail
  refine (HL.out b w3).mono ?_
  rintro e w4 ⟨rfl,rfl⟩
  simp only
  go_wp2
  go_ret
  exact ⟨rfl,rfl⟩
theorem rnew_any (start window:Int) (w:World) :
  Calls Tryz.prog 103 #[.int .u32 start,.int .i64 window] w fun e w'=>∃ p F,e=.returned (.pointer (some ⟨p,0,none⟩))/\RecvAt w' p F (Rv.new start window)/\Fresh w w'/\∀ x,F x->w.heap.size<=x:=by
 obtain ⟨m,hm⟩:=qx ((if 64<window then (64:Int) else window))
 obtain ⟨W,hW⟩:=qx ((if 1<m then m else 1))
 have hx:Hid (max 1 (min window 64)=W):=by
  unfold Hid
  rw [<- hW,<- hm];(split <;> (try split) <;> omega)
 have hmm:=@run_makeMap Tryz.prog
 have HZ:Hid (∀ s mr:Int,RecvAt ((w.alloc (.map #[] 0)).alloc (.cells #[.int .u32 s,.int .u32 s,.int .u32 mr,.int .i64 W,.map (some w.heap.size),.slice none 0 0,.slice none 0 0] 165)) (w.heap.size+1) (fun x=>x=w.heap.size\/x=w.heap.size+1) { r:=s,h:=s,mr:=mr,window:=W,m:=[],inbox:=[],gaps:=[] }):=fun s mr=>by
  have hb:=Blk.new (w.alloc (.map #[] 0)) 165 [.int .u32 s,.int .u32 s,.int .u32 mr,.int .i64 W,.map (some w.heap.size),.slice none 0 0,.slice none 0 0]
  have e1:(w.alloc (.map #[] 0)).heap.size=w.heap.size+1:=by simp
  rw [e1] at hb
  exact ⟨w.heap.size,none,0,none,0,⟨hb,(MapAt.made numK w).alloc _,Sl.nil _ _,Sl.nil _ _⟩,⟨.inr rfl,.inl rfl,(fun _ e=>by cases e),(fun _ e=>by cases e)⟩,fun x hx=>by simp;omega⟩
 have HF:Hid (∀ o1 o2,Fresh w ((w.alloc o1).alloc o2)):=fun o1 o2=>((Touch.refl _ w).alloc o1).alloc o2
 have HN:Hid (Rv.new start window={ r:=start%16777216,h:=start%16777216,mr:=(start%16777216+W)%16777216,window:=W,m:=[],inbox:=[],gaps:=[] }):=by
  unfold Hid Rv.new
  rw [hx.out]
  congr 1
  omega
 go_enter Tryz.func103,Tryz.ntmps103
 go_wp2_with fail
 refine (low_any start w).mono ?_
 rintro e w1 ⟨rfl,rfl⟩
 generalize start%16777216=s at *
 simp only
 go_wp2_with fail
 try rw [hx.out]
 refine (sadd_any s W _).mono ?_
 rintro e w2 ⟨rfl,rfl⟩
 generalize (s+W)%16777216=mr at *
 simp only
 go_wp2
 go_ret
 exact ⟨w2.heap.size+1,_,rfl,by rw [HN.out];exact HZ.out s mr,HF.out _ _,fun x hx=>by omega⟩
theorem rpoll_any (p:Nat) (F:Nat->Prop) (st:Rv.S) (x:Int) (w:World) (h:RecvAt w p F st) {ok:Bool} (hok:(decide ((st.h-st.r)%16777216<=(x-st.r)%16777216) && decide ((x-st.r)%16777216<=(st.mr-st.r)%16777216))=ok) :
  Calls Tryz.prog 188 #[.pointer (some ⟨p,0,none⟩),.int .u32 x] w fun e w'=>e=.returned (.int .i64 (if ok then 0 else 11))/\RecvAt w' p F (if ok then { st with h:=x%16777216 } else st)/\Touch F w w':=by
 obtain ⟨k,A,c,G,d,h1,hF,hL⟩:=h
 have c0:w.cell? ⟨p,0,none⟩=some (.int .u32 st.r):=h1.blk.cell 0
 have c1:w.cell? ⟨p,1,none⟩=some (.int .u32 st.h):=h1.blk.cell 1
 have c2:w.cell? ⟨p,2,none⟩=some (.int .u32 st.mr):=h1.blk.cell 2
 have HI:=lh h1
 have HF:=lh hF
 have HL:=lh hL
 clear h1 hF hL
 obtain ⟨r,hr⟩:=xq st.r
 obtain ⟨hh,hhe⟩:=xq st.h
 obtain ⟨mr,hmr⟩:=xq st.mr
 rw [<- hr] at c0 hok
 rw [<- hhe] at c1 hok
 rw [<- hmr] at c2 hok
 clear hr hhe hmr
 go_enter Tryz.func188,Tryz.ntmps188
 go_wp2_with fail
 refine (to_any r x w).mono ?_
 rintro e w1 ⟨rfl,rfl⟩
 generalize (x-r)%16777216=dd at *
 have HQ:Hid (∀ a b n,Calls Tryz.prog 161 #[.int .u32 a,.int .u32 b] (w1.drewN n) fun e w'=>e=.returned (.int .i64 ((b-a)%16777216))/\w'=w1.drewN n):=fun a b n=>to_any a b _
 simp only
 go_upto_region 2 with (fail)
 have HT1:=lh (to_any r hh)
 have HT2:=lh (to_any r mr)
 generalize (hh-r)%16777216=lo at *
 generalize (mr-r)%16777216=hi at *
 clear HQ
 by_cases hlo:lo<=dd
 ·have hdl:decide (dd<lo)=false:=decide_eq_false (by omega)
  rw [decide_eq_true hlo] at hok
  by_cases hhi:dd<=hi
  ·have hdh:decide (hi<dd)=false:=decide_eq_false (by omega)
   rw [decide_eq_true hhi] at hok
   obtain rfl:true=ok:=hok
   go_quiet ((go_at_call 161;first | (with_reducible refine Calls.quiet_of_same (HT1.out _)) | (with_reducible refine Calls.quiet_of_same (HT2.out _))))
   have I2:=lh (HI.out.drewN nq)
   have T2:Hid (Touch F w1 (w1.drewN nq)):=(Touch.refl _ _).drewN _
   clear c0 c1 c2 HI
   generalize w1.drewN nq=w2 at *
   have c1:w2.cell? ⟨p,1,none⟩=some (.int .u32 st.h):=I2.out.blk.cell 1
   have fz:=I2.out.blk.frozen 1
   have HX:Hid (RecvAt (w2.setCell ⟨p,1,none⟩ (.int .u32 (x%16777216))) p F { st with h:=x%16777216 }):=RecvAt.mk' (I2.out.scalar 1 _ rfl rfl rfl rfl) HF.out HL.out (T2.out.st (g:=p) (i:=1) (u:=.int .u32 (x%16777216)) HF.out.p).size
   have HT:Hid (Touch F w1 (w2.setCell ⟨p,1,none⟩ (.int .u32 (x%16777216)))):=T2.out.st HF.out.p
   clear I2 T2 HF HT1 HT2
   go_wp2_with fail
   refine (low_any x w2).mono ?_
   rintro e w3 ⟨rfl,rfl⟩
   simp only
   go_wp2
   go_ret
   exact ⟨rfl,HX.out,HT.out⟩
  ·have hdh:decide (hi<dd)=true:=decide_eq_true (by omega)
   rw [decide_eq_false hhi] at hok
   obtain rfl:false=ok:=hok
   go_quiet ((go_at_call 161;first | (with_reducible refine Calls.quiet_of_same (HT1.out _)) | (with_reducible refine Calls.quiet_of_same (HT2.out _))))
   have HX:Hid (RecvAt (w1.drewN nq) p F st):=RecvAt.mk' (HI.out.drewN _) HF.out HL.out (Nat.le_refl _)
   go_wp2
   go_ret
   exact ⟨rfl,HX.out,(Touch.refl _ _).drewN _⟩
 ·have hdl:decide (dd<lo)=true:=decide_eq_true (by omega)
  rw [decide_eq_false hlo] at hok
  obtain rfl:false=ok:=hok
  go_quiet ((go_at_call 161;first | (with_reducible refine Calls.quiet_of_same (HT1.out _)) | (with_reducible refine Calls.quiet_of_same (HT2.out _))))
  have HX:Hid (RecvAt (w1.drewN nq) p F st):=RecvAt.mk' (HI.out.drewN _) HF.out HL.out (Nat.le_refl _)
  go_wp2
  go_ret
  exact ⟨rfl,HX.out,(Touch.refl _ _).drewN _⟩
theorem rrenew_any (p:Nat) (F:Nat->Prop) (st:Rv.S) (w:World) (h:RecvAt w p F st) (hw:0<=st.window/\st.window<=64) (hi:st.inbox.length<=1000000) :
  Calls Tryz.prog 130 #[.pointer (some ⟨p,0,none⟩)] w fun e w'=>e=.returned (.tuple #[])/\RecvAt w' p F (Rv.renew st)/\Touch F w w':=by
 obtain ⟨k,A,c,G,d,h1,hF,hL⟩:=h
 have c0:w.cell? ⟨p,0,none⟩=some (.int .u32 st.r):=h1.blk.cell 0
 have c2:w.cell? ⟨p,2,none⟩=some (.int .u32 st.mr):=h1.blk.cell 2
 have c3:w.cell? ⟨p,3,none⟩=some (.int .i64 st.window):=h1.blk.cell 3
 have c5:w.cell? ⟨p,5,none⟩=some (.slice A st.inbox.length c):=h1.blk.cell 5
 have fz:=h1.blk.frozen 2
 have HI:=lh h1
 have HF:=lh hF
 have HL:=lh hL
 clear h1 hF hL
 obtain ⟨x,hx⟩:=qx ((Rv.renew st).mr)
 have HR:Hid (Rv.renew st={ st with mr:=x }):=by rw [<- hx];rfl
 have HS:=lh (smax_any st.r st.mr ((st.r+(st.window-(st.inbox.length:Int)))%16777216))
 have hxx:(if ((st.r+(st.window-(st.inbox.length:Int)))%16777216-st.r)%16777216<=(st.mr-st.r)%16777216 then st.mr%16777216 else (st.r+(st.window-(st.inbox.length:Int)))%16777216%16777216)=x:=by
  rw [<- hx]
  unfold Rv.renew
  simp only
  rw [show ((st.r+(st.window-(st.inbox.length:Int)))%16777216-st.r)%16777216=(st.r+(st.window-(st.inbox.length:Int))-st.r)%16777216 by omega,show (st.r+(st.window-(st.inbox.length:Int)))%16777216%16777216=(st.r+(st.window-(st.inbox.length:Int)))%16777216 by omega]
 rw [hxx] at HS
 have HA:=lh (sadd_any st.r (st.window-(st.inbox.length:Int)))
 clear hx hxx
 have HX:Hid (∀ n,RecvAt ((w.drewN n).setCell ⟨p,2,none⟩ (.int .u32 x)) p F (Rv.renew st)):=fun n=>by
  rw [HR.out]
  exact RecvAt.mk' ((HI.out.drewN n).scalar 2 _ rfl rfl rfl rfl) HF.out HL.out (((Touch.refl F w).drewN n).st (g:=p) (i:=2) (u:=.int .u32 x) HF.out.p).size
 have HT:Hid (∀ n,Touch F w ((w.drewN n).setCell ⟨p,2,none⟩ (.int .u32 x))):=fun n=>((Touch.refl _ w).drewN n).st HF.out.p
 obtain ⟨hw0,hw1⟩:=hw
 clear HI HF HR
 generalize st.r=r at *
 generalize st.mr=mr at *
 generalize hil:st.inbox.length=il at *
 generalize (r+(st.window-(il:Int)))%16777216=z at *
 generalize st.window=wd at *
 have hwr:IntKind.i64.wrap (wd-(il:Int))=wd-(il:Int):=IntWalk.i64_in _ ⟨by omega,by omega⟩
 go_enter Tryz.func130,Tryz.ntmps130
 go_wp2_with fail
 refine wp_region_qtail 27 (by kernel_rfl) (by kernel_rfl) rfl (by kernel_rfl) (by kernel_rfl) ?_
 simp only [List.take_succ_cons,List.take_zero,List.drop_succ_cons,List.drop_zero,List.map_cons,List.map_nil,List.cons_append,List.nil_append,blankOp]
 repeat (quiet_step ((first
  |(go_at_call 62;with_reducible refine Calls.quiet_of_same (HA.out _))
  |(go_at_call 167;with_reducible refine Calls.quiet_of_same (HS.out _)))))
 refine wpQuiet_nil ?_
 intro _ hw'
 obtain ⟨nq,hw''⟩:=hw'
 subst hw''
 go_wp2
 go_end0
 exact ⟨rfl,HX.out _,HT.out _⟩
def Rv.varsV (st:Rv.S):Value:=.agg #[.int .u32 st.r,.int .u32 st.h,.int .u32 st.mr,.int .i64 (st.m.length:Int),.int .i64 (st.inbox.length:Int),.int .i64 (st.gaps.length:Int)]
theorem rvars_any (p:Nat) (F:Nat->Prop) (st:Rv.S) (w:World) (h:RecvAt w p F st) :
  Calls Tryz.prog 24 #[.pointer (some ⟨p,0,none⟩)] w fun e w'=>e=.returned (Rv.varsV st)/\Fresh w w':=by
 obtain ⟨k,A,c,G,d,h1,hF,hL⟩:=h
 have F1:Hid (Fresh w (w.alloc (.cells #[.int .u32 0,.int .u32 0,.int .u32 0,.int .i64 0,.int .i64 0,.int .i64 0] 59))):=(Touch.refl _ _).alloc _
 have B1:Hid (Blk (w.alloc (.cells #[.int .u32 0,.int .u32 0,.int .u32 0,.int .i64 0,.int .i64 0,.int .i64 0] 59)) w.heap.size 59 [.int .u32 0,.int .u32 0,.int .u32 0,.int .i64 0,.int .i64 0,.int .i64 0]):=Blk.new w _ _
 have HI:Hid (RecvIn (w.alloc (.cells #[.int .u32 0,.int .u32 0,.int .u32 0,.int .i64 0,.int .i64 0,.int .i64 0] 59)) p k A c G d st):=h1.old F1.out
 have hpr:p<w.heap.size:=h1.blk.lt
 clear h1 hF hL
 unfold Rv.varsV
 go_enter Tryz.func24,Tryz.ntmps24
 go_wp2_with fail
 generalize w.alloc (.cells #[.int .u32 0,.int .u32 0,.int .u32 0,.int .i64 0,.int .i64 0,.int .i64 0] 59)=w1 at *
 obtain ⟨g,hg⟩:=xq w.heap.size
 rw [<- hg] at B1 hpr ⊢
 have HG:=lh hg
 clear hg
 have c0:w1.cell? ⟨p,0,none⟩=some (.int .u32 st.r):=HI.out.blk.cell 0
 have c1:w1.cell? ⟨p,1,none⟩=some (.int .u32 st.h):=HI.out.blk.cell 1
 have c2:w1.cell? ⟨p,2,none⟩=some (.int .u32 st.mr):=HI.out.blk.cell 2
 have c4:w1.cell? ⟨p,4,none⟩=some (.map (some k)):=HI.out.blk.cell 4
 have c5:w1.cell? ⟨p,5,none⟩=some (.slice A st.inbox.length c):=HI.out.blk.cell 5
 have c6:w1.cell? ⟨p,6,none⟩=some (.slice G st.gaps.length d):=HI.out.blk.cell 6
 have hln:∀ n,(Builtin.len_ #[162] 3 #[.map (some k)]).run Tryz.prog (w1.drewN n)=.ok (.int .i64 (st.m.length:Int)) (w1.drewN n):=fun n=>by
  have:=len_map (P:=Tryz.prog) (ty:=3) Tryz.underlying162 (HI.out.drewN n).map
  rwa [Rv.bufV_len] at this
 clear HI
 refine wp_region_qtail 28 (by kernel_rfl) (by kernel_rfl) rfl (by kernel_rfl) (by kernel_rfl) ?_
 simp only [List.take_succ_cons,List.take_zero,List.drop_succ_cons,List.drop_zero,List.map_cons,List.map_nil,List.cons_append,List.nil_append,blankOp]
 repeat (quiet_step (fail))
 refine wpQuiet_nil ?_
 intro _ hw'
 obtain ⟨nq,hw''⟩:=hw'
 subst hw''
 have B2:=lh (B1.out.drewN nq)
 have F2:=lh (F1.out.drewN nq)
 generalize w1.drewN nq=w2 at *
 have q0:w2.cell? ⟨g,0,none⟩=some (.int .u32 0):=B2.out.cell 0
 have z0:=B2.out.frozen 0
 have q1:w2.cell? ⟨g,1,none⟩=some (.int .u32 0):=B2.out.cell 1
 have z1:=B2.out.frozen 1
 have q2:w2.cell? ⟨g,2,none⟩=some (.int .u32 0):=B2.out.cell 2
 have z2:=B2.out.frozen 2
 have q3:w2.cell? ⟨g,3,none⟩=some (.int .i64 0):=B2.out.cell 3
 have z3:=B2.out.frozen 3
 have q4:w2.cell? ⟨g,4,none⟩=some (.int .i64 0):=B2.out.cell 4
 have z4:=B2.out.frozen 4
 have q5:w2.cell? ⟨g,5,none⟩=some (.int .i64 0):=B2.out.cell 5
 have z5:=B2.out.frozen 5
 have BF:Hid (Blk ((((((w2.setCell ⟨g,0,none⟩ (.int .u32 st.r)).setCell ⟨g,1,none⟩ (.int .u32 st.h)).setCell ⟨g,2,none⟩ (.int .u32 st.mr)).setCell ⟨g,3,none⟩ (.int .i64 (st.m.length:Int))).setCell ⟨g,4,none⟩ (.int .i64 (st.inbox.length:Int))).setCell ⟨g,5,none⟩ (.int .i64 (st.gaps.length:Int))) g 59 [.int .u32 st.r,.int .u32 st.h,.int .u32 st.mr,.int .i64 (st.m.length:Int),.int .i64 (st.inbox.length:Int),.int .i64 (st.gaps.length:Int)]):=((((((B2.out.set 0 (.int .u32 st.r)).set 1 (.int .u32 st.h)).set 2 (.int .u32 st.mr)).set 3 (.int .i64 (st.m.length:Int))).set 4 (.int .i64 (st.inbox.length:Int))).set 5 (.int .i64 (st.gaps.length:Int)))
 have FF:Hid (Fresh w ((((((w2.setCell ⟨g,0,none⟩ (.int .u32 st.r)).setCell ⟨g,1,none⟩ (.int .u32 st.h)).setCell ⟨g,2,none⟩ (.int .u32 st.mr)).setCell ⟨g,3,none⟩ (.int .i64 (st.m.length:Int))).setCell ⟨g,4,none⟩ (.int .i64 (st.inbox.length:Int))).setCell ⟨g,5,none⟩ (.int .i64 (st.gaps.length:Int)))):=((((((((((((F2.out).setCell (p:=⟨g,0,none⟩) (fun hh=>by have:=HG.out;simp only at hh;omega) (.int .u32 st.r))).setCell (p:=⟨g,1,none⟩) (fun hh=>by have:=HG.out;simp only at hh;omega) (.int .u32 st.h))).setCell (p:=⟨g,2,none⟩) (fun hh=>by have:=HG.out;simp only at hh;omega) (.int .u32 st.mr))).setCell (p:=⟨g,3,none⟩) (fun hh=>by have:=HG.out;simp only at hh;omega) (.int .i64 (st.m.length:Int)))).setCell (p:=⟨g,4,none⟩) (fun hh=>by have:=HG.out;simp only at hh;omega) (.int .i64 (st.inbox.length:Int)))).setCell (p:=⟨g,5,none⟩) (fun hh=>by have:=HG.out;simp only at hh;omega) (.int .i64 (st.gaps.length:Int)))
 clear B1 B2 F1 F2 c0 c1 c2 c4 c5 c6 hln
 go_wp2
 generalize ((((((w2.setCell ⟨g,0,none⟩ (.int .u32 st.r)).setCell ⟨g,1,none⟩ (.int .u32 st.h)).setCell ⟨g,2,none⟩ (.int .u32 st.mr)).setCell ⟨g,3,none⟩ (.int .i64 (st.m.length:Int))).setCell ⟨g,4,none⟩ (.int .i64 (st.inbox.length:Int))).setCell ⟨g,5,none⟩ (.int .i64 (st.gaps.length:Int)))=wf at *
 have e0:wf.cell? ⟨g,0,none⟩=some (.int .u32 st.r):=BF.out.cell 0
 have e1:wf.cell? ⟨g,1,none⟩=some (.int .u32 st.h):=BF.out.cell 1
 have e2:wf.cell? ⟨g,2,none⟩=some (.int .u32 st.mr):=BF.out.cell 2
 have e3:wf.cell? ⟨g,3,none⟩=some (.int .i64 (st.m.length:Int)):=BF.out.cell 3
 have e4:wf.cell? ⟨g,4,none⟩=some (.int .i64 (st.inbox.length:Int)):=BF.out.cell 4
 have e5:wf.cell? ⟨g,5,none⟩=some (.int .i64 (st.gaps.length:Int)):=BF.out.cell 5
 exact bodyPost_ret (v:=.agg #[.int .u32 st.r,.int .u32 st.h,.int .u32 st.mr,.int .i64 (st.m.length:Int),.int .i64 (st.inbox.length:Int),.int .i64 (st.gaps.length:Int)]) (by simp [results,Tryz.results24,go_sem,e0,e1,e2,e3,e4,e5]) rfl ⟨rfl,FF.out⟩
end Go.Proofs.YtlbopdfobgjjaaaGreatDoor

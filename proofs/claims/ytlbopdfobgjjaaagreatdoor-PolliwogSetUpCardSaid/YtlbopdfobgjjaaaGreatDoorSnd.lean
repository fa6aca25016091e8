/-
  send.Send: what a sender is in memory.
-/
import Derived.Test.YtlbopdfobgjjaaaGreatDoorRev6
import Derived.Test.YtlbopdfobgjjaaaGreatDoorKey
import Derived.Test.YtlbopdfobgjjaaaGreatDoorEvD
import Derived.Test.YtlbopdfobgjjaaaGreatDoorMapD
import Derived.RegionTactic
import Derived.ChangeAlike
import Derived.Deep.QuietTactic
import Derived.BigQuiet
import Derived.StillTailTactics
import Derived.Lib.SliceRun
import Derived.Test.YtlbopdfobgjjaaaGreatDoorRow2
set_option maxHeartbeats 4000000
namespace Go.Proofs.YtlbopdfobgjjaaaGreatDoor
open Go.RowKit
namespace Sd
structure S where
 s:Int
 a:Int
 ms:Int
 ps:Int
 pa:Int
 units:Int
 polls:Int
 most:Nat
 q:List ByteArray
 m:List (Int × (ByteArray × Int))
 again:List Int
def itemV (p:ByteArray × Int):Value:=.agg #[.string p.1,.int .u32 p.2]
def mapV (m:List (Int × (ByteArray × Int))):MList Int:=m.map fun p=>(p.1,itemV p.2)
theorem mapV_get (m:List (Int × (ByteArray × Int))) (k:Int):mget (mapV m) k=(mget m k).map itemV:=mget_lift itemV m k
theorem mapV_len (m:List (Int × (ByteArray × Int))):(mapV m).length=m.length:=by unfold mapV;rw [List.length_map]
def new (start queue polls:Int):S:=
 { s:=start%16777216,a:=start%16777216,ms:=start%16777216,ps:=start%16777216,pa:=start%16777216,units:=0,polls:=max 1 (min polls 256),most:=(max 1 (min queue 256)).toNat,q:=[],m:=[],again:=[] }
def opn (st:S) (x:Int):S:=if (x-st.a)%16777216<=8388608/\(st.ms-st.a)%16777216<=(x-st.a)%16777216 then { st with ms:=x%16777216 } else st
end Sd
def sendCells (g k:Nat) (A:Option Addr) (c:Nat) (st:Sd.S):List Value:=
 [.int .u32 st.s,.int .u32 st.a,.int .u32 st.ms,.int .u32 st.ps,.int .u32 st.pa,.int .i64 st.units,.int .i64 st.polls,.pointer (some ⟨g,0,none⟩),.map (some k),.slice A st.again.length c]
structure SendIn (w:World) (p g:Nat) (b:Option Nat) (k:Nat) (A:Option Addr) (c:Nat) (st:Sd.S):Prop where
 blk:Blk w p 160 (sendCells g k A c st)
 ring:RingStr w g b st.most st.q
 map:MapAt numK w k (Sd.mapV st.m)
 ag:Sl numE w A c st.again
structure SendAt (w:World) (p:Nat) (F:Nat->Prop) (st:Sd.S):Prop where
 at_:∃ g b k A c,SendIn w p g b k A c st/\F g/\(∀ x,b=some x->F x)/\F k/\∀ ad,A=some ad->F ad.block
 own:F p
section
variable {w w':World} {p g:Nat} {b:Option Nat} {k:Nat} {A:Option Addr} {c:Nat} {st st':Sd.S} {F G:Nat->Prop}
theorem SendIn.ne_g (h:SendIn w p g b k A c st):p ≠ g:=by
 obtain ⟨A',c',a',buf,h1,_⟩:=h.ring
 exact h.blk.ne_ h1 (by decide)
theorem SendIn.ne_b (h:SendIn w p g b k A c st):b ≠ some p:=by
 obtain ⟨A',c',a',buf,h1,h2,rfl,_⟩:=h.ring
 intro e
 cases A' with
 |none=>cases e
 |some ad=>have:=h2.blk_ne h.blk (by decide) ad rfl;simp at e;exact this e
theorem SendIn.ne_k (h:SendIn w p g b k A c st):k ≠ p:=h.map.blk_ne h.blk
theorem SendIn.ne_A (h:SendIn w p g b k A c st):∀ ad,A=some ad->ad.block ≠ p:=h.ag.blk_ne h.blk (by decide)
theorem SendIn.k_ne_g (h:SendIn w p g b k A c st):k ≠ g:=by
 obtain ⟨A',c',a',buf,h1,_⟩:=h.ring
 exact h.map.blk_ne h1
theorem SendIn.k_ne_b (h:SendIn w p g b k A c st):b ≠ some k:=by
 obtain ⟨A',c',a',buf,h1,h2,rfl,_⟩:=h.ring
 intro e
 cases A' with
 |none=>cases e
 |some ad =>
  simp at e
  obtain ⟨_,cs,hb,_⟩:=h2.2.2.2 ad rfl
  exact h.map.blk_ne hb e.symm
theorem SendIn.A_ne_g (h:SendIn w p g b k A c st):∀ ad,A=some ad->ad.block ≠ g:=by
 obtain ⟨A',c',a',buf,h1,_⟩:=h.ring
 exact h.ag.blk_ne h1 (by decide)
theorem SendIn.A_ne_k (h:SendIn w p g b k A c st):∀ ad,A=some ad->ad.block ≠ k:=fun ad ha e=>by
 obtain ⟨_,cs,hb,_⟩:=h.ag.2.2.2 ad ha
 exact h.map.blk_ne hb e.symm
theorem SendIn.A_ne_b (h:SendIn w p g b k A c st):∀ ad,A=some ad->b ≠ some ad.block:=fun ad ha e=>by
 obtain ⟨A',c',a',buf,h1,h2,rfl,_⟩:=h.ring
 cases A' with
 |none=>cases e
 |some ad' =>
  simp at e
  obtain ⟨_,cs,hb,_⟩:=h2.2.2.2 ad' rfl
  exact h.ag.blk_ne hb (by decide) ad ha e.symm
theorem SendIn.touch {T:Nat->Prop} (h:SendIn w p g b k A c st) (ht:Touch T w w') (hp:¬ T p) (hg:¬ T g) (hb:∀ x,b=some x->¬ T x) (hk:¬ T k) (hA:∀ ad,A=some ad->¬ T ad.block):SendIn w' p g b k A c st:=
 ⟨ht.blk h.blk hp,h.ring.touch ht hg hb,h.map.touch ht hk,h.ag.touch ht hA⟩
theorem SendIn.scalar (h:SendIn w p g b k A c st) (i:Nat) (u:Value) (hc:(sendCells g k A c st).set i u=sendCells g k A c st') (h1:st'.most=st.most) (h2:st'.q=st.q) (h3:st'.m=st.m) (h4:st'.again=st.again) :
  SendIn (w.setCell ⟨p,i,none⟩ u) p g b k A c st':=by
 refine ⟨hc ▸ h.blk.set i u,?_,?_,?_⟩
 ·rw [h1,h2]
  exact h.ring.touch (Touch.set1 w p i u) (fun e=>h.ne_g e.symm) (fun z e e2=>h.ne_b (by rw [e,e2]))
 ·rw [h3]
  exact h.map.setCell (by exact h.ne_k) _
 ·rw [h4]
  exact h.ag.setCell (p:=⟨p,i,none⟩) h.ne_A _
theorem SendIn.drewN (h:SendIn w p g b k A c st) (n:Nat):SendIn (w.drewN n) p g b k A c st:=
 h.touch ((Touch.refl (fun _=>False) w).drewN n) (fun h=>h) (fun h=>h) (fun _ _ h=>h) (fun h=>h) (fun _ _ h=>h)
structure SendF (p g:Nat) (b:Option Nat) (k:Nat) (A:Option Addr) (F:Nat->Prop):Prop where
 p:F p
 g:F g
 b:∀ x,b=some x->F x
 k:F k
 A:∀ ad,A=some ad->F ad.block
theorem SendAt.mk' (h:SendIn w p g b k A c st) (f:SendF p g b k A F):SendAt w p F st:=⟨⟨g,b,k,A,c,h,f.g,f.b,f.k,f.A⟩,f.p⟩
theorem SendAt.open_ (h:SendAt w p F st):∃ g b k A c,SendIn w p g b k A c st/\SendF p g b k A F:=by
 obtain ⟨⟨g,b,k,A,c,h1,h2,h3,h4,h5⟩,h6⟩:=h
 exact ⟨g,b,k,A,c,h1,h6,h2,h3,h4,h5⟩
theorem SendAt.mono (h:SendAt w p F st) (hF:∀ x,F x->G x):SendAt w p G st:=by
 obtain ⟨⟨g,b,k,A,c,h1,h2,h3,h4,h5⟩,h6⟩:=h
 exact ⟨⟨g,b,k,A,c,h1,hF _ h2,fun x e=>hF _ (h3 x e),hF _ h4,fun ad e=>hF _ (h5 ad e)⟩,hF _ h6⟩
theorem SendAt.touch {T:Nat->Prop} (h:SendAt w p F st) (ht:Touch T w w') (hT:∀ x,F x->x<w.heap.size->¬ T x):SendAt w' p F st:=by
 obtain ⟨⟨g,b,k,A,c,h1,h2,h3,h4,h5⟩,h6⟩:=h
 exact ⟨⟨g,b,k,A,c,h1.touch ht (hT _ h6 h1.blk.lt) (hT _ h2 h1.ring.lt) (fun x e=>hT _ (h3 x e) (h1.ring.ltb x e)) (hT _ h4 h1.map.lt) (fun ad e=>hT _ (h5 ad e) (h1.ag.lt ad e)),h2,h3,h4,h5⟩,h6⟩
theorem SendAt.old (h:SendAt w p F st) (ht:Fresh w w'):SendAt w' p F st:=h.touch ht (fun _ _ _ h=>h)
theorem SendAt.drewN (h:SendAt w p F st) (n:Nat):SendAt (w.drewN n) p F st:=h.old ((Touch.refl _ w).drewN n)
end
theorem SendF.foot {p g:Nat} {b:Option Nat} {k:Nat} {A:Option Addr} {F:Nat->Prop} (h:SendF p g b k A F) (x:Nat) (hx:Foot g b x):F x:=by
 rcases hx with rfl | e
 ·exact h.g
 ·exact h.b x e
theorem SendIn.ringed {w w':World} {p g:Nat} {b b':Option Nat} {k:Nat} {A:Option Addr} {c:Nat} {st:Sd.S} (h:SendIn w p g b k A c st) {q:List ByteArray} (hr:RingStr w' g b' st.most q) (ht:Touch (Foot g b) w w'):SendIn w' p g b' k A c { st with q:=q }:=
 ⟨ht.blk h.blk (fun hf=>by rcases hf with e | e;exact h.ne_g e;exact h.ne_b e),hr,
  h.map.touch ht (fun hf=>by rcases hf with e | e;exact h.k_ne_g e;exact h.k_ne_b e),
  h.ag.touch ht (fun ad ha hf=>by rcases hf with e | e;exact h.A_ne_g ad ha e;exact h.A_ne_b ad ha e)⟩
theorem sopn_any (p:Nat) (F:Nat->Prop) (st:Sd.S) (x:Int) (w:World) (h:SendAt w p F st) :
  Calls Tryz.prog 104 #[.pointer (some ⟨p,0,none⟩),.int .u32 x] w fun e w'=>e=.returned (.tuple #[])/\SendAt w' p F (Sd.opn st x)/\Touch F w w':=by
 obtain ⟨g,b,k,A,c,h1,hF⟩:=h.open_
 have c1:w.cell? ⟨p,1,none⟩=some (.int .u32 st.a):=h1.blk.cell 1
 have c2:w.cell? ⟨p,2,none⟩=some (.int .u32 st.ms):=h1.blk.cell 2
 have HI:=lh h1
 have HF:=lh hF
 clear h h1 hF
 obtain ⟨T,hT⟩:∃ T:Sd.S,T={ st with ms:=x%16777216 }:=⟨_,rfl⟩
 have HTe:=lh hT
 have HO:Hid (Sd.opn st x=if (x-st.a)%16777216<=8388608/\(st.ms-st.a)%16777216<=(x-st.a)%16777216 then T else st):=by rw [hT];rfl
 clear hT
 obtain ⟨a,ha⟩:=xq st.a
 obtain ⟨ms,hms⟩:=xq st.ms
 rw [<- ha] at c1 HO
 rw [<- hms] at c2 HO
 clear ha hms
 go_enter Tryz.func104,Tryz.ntmps104
 go_wp2_with fail
 refine (to_any a x w).mono ?_
 rintro e w1 ⟨rfl,rfl⟩
 generalize hd:(x-a)%16777216=d at *
 simp only
 by_cases h8:d<=8388608
 ·go_upto_region 1 with (fail)
  go_quiet ((go_at_call 161;refine Calls.quiet_of_same (to_any _ _ _)))
  have I2:=lh (HI.out.drewN nq)
  have T2:Hid (Touch F w1 (w1.drewN nq)):=(Touch.refl _ _).drewN _
  clear c1 c2 HI
  generalize w1.drewN nq=w2 at *
  generalize (ms-a)%16777216=f at *
  by_cases hf:f<=d
  ·have HE:Hid (Sd.opn st x={ st with ms:=x%16777216 }):=by unfold Hid;rw [HO.out,if_pos ⟨h8,hf⟩,HTe.out]
   have fz:=I2.out.blk.frozen 2
   have c2:w2.cell? ⟨p,2,none⟩=some (.int .u32 st.ms):=I2.out.blk.cell 2
   have HX:Hid (SendAt (w2.setCell ⟨p,2,none⟩ (.int .u32 (x%16777216))) p F (Sd.opn st x)):=by
    unfold Hid
    rw [HE.out]
    exact SendAt.mk' (I2.out.scalar 2 _ rfl rfl rfl rfl rfl) HF.out
   have HT:Hid (Touch F w1 (w2.setCell ⟨p,2,none⟩ (.int .u32 (x%16777216)))):=T2.out.st HF.out.p
   clear HO HE I2 T2
   go_wp2_with fail
   refine (low_any x w2).mono ?_
   rintro e w3 ⟨rfl,rfl⟩
   simp only
   go_wp2
   go_end0
   exact ⟨rfl,HX.out,HT.out⟩
  ·have HE:Hid (Sd.opn st x=st):=by unfold Hid;rw [HO.out,if_neg (fun hh=>hf hh.2)]
   go_wp2
   go_end0
   exact ⟨rfl,by rw [HE.out];exact SendAt.mk' I2.out HF.out,T2.out⟩
 ·have HE:Hid (Sd.opn st x=st):=by unfold Hid;rw [HO.out,if_neg (fun hh=>h8 hh.1)]
  go_upto_region 1 with (fail)
  go_quiet (fail)
  go_wp2
  go_end0
  exact ⟨rfl,by rw [HE.out];exact SendAt.mk' (HI.out.drewN _) HF.out,(Touch.refl _ _).drewN _⟩
theorem slen_q {g:Nat} {b:Option Nat} {most:Nat} {q:List ByteArray} {w:World} (h:RingStr w g b most q) {m:Nat} (hm:q.length=m) (n:Nat) :
  Calls Tryz.prog 47 #[.pointer (some ⟨g,0,none⟩)] (w.drewN n) fun e w'=>e=.returned (.int .i64 m)/\w'=w.drewN n:=by
 rw [<- hm]
 exact ringStr_len g b most q _ (h.same rfl)
theorem slacks_any (p:Nat) (F:Nat->Prop) (st:Sd.S) (w:World) (h:SendAt w p F st) :
  Calls Tryz.prog 75 #[.pointer (some ⟨p,0,none⟩)] w fun e w'=>e=.returned (.bool (decide (0<st.q.length) && (st.s==st.ms)))/\∃ n,w'=w.drewN n:=by
 obtain ⟨g,b,k,A,c,h1,hF⟩:=h.open_
 have c0:w.cell? ⟨p,0,none⟩=some (.int .u32 st.s):=h1.blk.cell 0
 have c2:w.cell? ⟨p,2,none⟩=some (.int .u32 st.ms):=h1.blk.cell 2
 have c7:w.cell? ⟨p,7,none⟩=some (.pointer (some ⟨g,0,none⟩)):=h1.blk.cell 7
 have hbq:=h1.ring.len_le
 obtain ⟨q,hq⟩:=qx st.q.length
 have HR:=lh (fun n=>slen_q h1.ring hq n)
 rw [hq] at hbq ⊢
 clear h h1 hF hq
 generalize st.s=s at *
 generalize st.ms=ms at *
 go_enter Tryz.func75,Tryz.ntmps75
 by_cases h0:0<q
 ·have h0i:(0:Int)<(q:Int):=by omega
  rw [decide_eq_true h0]
  go_upto_region 1 with (fail)
  go_quiet ((go_at_call 47;refine Calls.quiet_of_same (HR.out _)))
  go_wp2
  go_ret
  exact ⟨by simp,_,rfl⟩
 ·have h0i:¬ (0:Int)<(q:Int):=by omega
  rw [decide_eq_false h0]
  go_upto_region 1 with (fail)
  go_quiet ((go_at_call 47;refine Calls.quiet_of_same (HR.out _)))
  go_wp2
  go_ret
  exact ⟨rfl,_,rfl⟩
set_option maxRecDepth 4000 in
theorem sidle_any (p:Nat) (F:Nat->Prop) (st:Sd.S) (w:World) (h:SendAt w p F st) :
  Calls Tryz.prog 134 #[.pointer (some ⟨p,0,none⟩)] w fun e w'=>e=.returned (.bool (decide (st.q.length=0) && decide (st.m.length=0)))/\∃ n,w'=w.drewN n:=by
 obtain ⟨g,b,k,A,c,h1,hF⟩:=h.open_
 have c7:w.cell? ⟨p,7,none⟩=some (.pointer (some ⟨g,0,none⟩)):=h1.blk.cell 7
 have c8:w.cell? ⟨p,8,none⟩=some (.map (some k)):=h1.blk.cell 8
 have hbq:=h1.ring.len_le
 obtain ⟨q,hq⟩:=qx st.q.length
 have HR:=lh (ringStr_len g b st.most st.q w h1.ring)
 have hln:(Builtin.len_ #[158] 3 #[.map (some k)]).run Tryz.prog w=.ok (.int .i64 (((Sd.mapV st.m).length:Nat):Int)) w:=len_map Tryz.underlying158 h1.map
 rw [Sd.mapV_len] at hln
 rw [hq] at hbq HR ⊢
 clear h h1 hF hq
 generalize st.m.length=m at *
 go_enter Tryz.func134,Tryz.ntmps134
 by_cases h0:q=0
 ·have h0i:((q:Int)==0)=true:=by simp [h0]
  rw [decide_eq_true h0]
  clear h0
  go_wp2_with fail
  refine HR.out.mono ?_
  rintro e w1 ⟨rfl,rfl⟩
  simp only
  go_wp2
  go_ret
  exact ⟨by by_cases hm:m=0 <;> simp [hm],0,rfl⟩
 ·have h0i:((q:Int)==0)=false:=by simp [h0]
  rw [decide_eq_false h0]
  go_wp2_with fail
  refine HR.out.mono ?_
  rintro e w1 ⟨rfl,rfl⟩
  simp only
  go_wp2
  go_ret
  exact ⟨rfl,0,rfl⟩
theorem results_tmp4 {fn:Func} {t u v x:Tmp} (h:fn.results=#[.tmp t,.tmp u,.tmp v,.tmp x]) (tmps:Array Value) (P:Program) (w:World) :
  (results fn tmps).run P w=.ok (.tuple #[tmps.getD t undef,tmps.getD u undef,tmps.getD v undef,tmps.getD x undef]) w:=by
 simp [results,h]
theorem snext_stop (p:Nat) (F:Nat->Prop) (st:Sd.S) (w:World) (h:SendAt w p F st) (ha:st.again=[]) (hs:st.s=st.ms) :
  Calls Tryz.prog 85 #[.pointer (some ⟨p,0,none⟩)] w fun e w'=>e=.returned (.tuple #[.int .u32 0,.string ByteArray.empty,.bool false,.bool false])/\SendAt w' p F st/\Touch F w w':=by
 obtain ⟨g,b,k,A,c,h1,hF⟩:=h.open_
 have c0:w.cell? ⟨p,0,none⟩=some (.int .u32 st.s):=h1.blk.cell 0
 have c2:w.cell? ⟨p,2,none⟩=some (.int .u32 st.ms):=h1.blk.cell 2
 have c9:w.cell? ⟨p,9,none⟩=some (.slice A st.again.length c):=h1.blk.cell 9
 rw [ha,List.length_nil] at c9
 rw [<- hs] at c2
 have HI:=lh h1
 have HF:=lh hF
 clear h h1 hF ha hs
 generalize st.s=s at *
 go_enter Tryz.func85,Tryz.ntmps85
 go_wp2
 go_quiet (fail)
 go_wp2
 exact bodyPost_ret (results_tmp4 rfl _ _ _) rfl ⟨rfl,SendAt.mk' (HI.out.drewN _) HF.out,(Touch.refl _ _).drewN _⟩
theorem snew1_any (x:Int) (w:World) :
  Calls Tryz.prog 160 #[.int .i64 x] w fun e w'=>e=.returned (.int .i64 (max 1 (min x 256)))/\w'=w:=by
 obtain ⟨m,hm⟩:=qx ((if 256<x then (256:Int) else x))
 obtain ⟨m',hm'⟩:∃ m',(if 1<m then m else 1)=m':=⟨_,rfl⟩
 have hx:Hid (max 1 (min x 256)=m'):=by
  unfold Hid
  rw [<- hm',<- hm];(split <;> (try split) <;> omega)
 go_enter Tryz.func160,Tryz.ntmps160
 go_wp2
 go_ret
 exact ⟨by rw [hx.out];first | rfl | simp,rfl⟩
theorem snew_any (start queue polls:Int) (w:World) :
  Calls Tryz.prog 102 #[.int .u32 start,.int .i64 queue,.int .i64 polls] w fun e w'=>∃ p,e=.returned (.pointer (some ⟨p,0,none⟩))/\SendAt w' p (fun x=>w.heap.size<=x) (Sd.new start queue polls)/\Fresh w w'/\w.heap.size<=p:=by
 obtain ⟨P,hP⟩:∃ P:Int,max 1 (min polls 256)=P:=⟨_,rfl⟩
 obtain ⟨Q,hQ⟩:∃ Q:Int,max 1 (min queue 256)=Q:=⟨_,rfl⟩
 have HP:=lh hP
 have HQ:=lh hQ
 have HR:=lh (fun w=>ringStr_new Q w)
 have hQm:(max 0 (min Q 4096)).toNat=Q.toNat:=by omega
 rw [hQm] at HR
 clear hP hQ hQm
 go_enter Tryz.func102,Tryz.ntmps102
 go_wp2_with fail
 refine (low_any start w).mono ?_
 rintro e w1 ⟨rfl,rfl⟩
 generalize hs:start%16777216=s at *
 simp only
 go_wp2_with fail
 refine (snew1_any polls _).mono ?_
 rintro e w2 ⟨rfl,rfl⟩
 rw [HP.out]
 simp only
 go_wp2_with fail
 refine (snew1_any queue _).mono ?_
 rintro e w3 ⟨rfl,rfl⟩
 rw [HQ.out]
 simp only
 go_wp2_with fail
 refine (HR.out _).mono ?_
 rintro e w4 ⟨rfl,hr,hf⟩
 simp only
 have hmm:=@run_makeMap Tryz.prog
 have F4:Hid (Fresh w3 w4):=hf
 have R4:=lh hr
 have hgw:=hr.lt
 obtain ⟨g,hg⟩:=xq w3.heap.size
 have hge:w3.heap.size<=g:=by omega
 rw [<- hg] at R4 hgw ⊢
 clear hg
 have HX:Hid (SendAt ((w4.alloc (.map #[] 0)).alloc (.cells #[.int .u32 s,.int .u32 s,.int .u32 s,.int .u32 s,.int .u32 s,.int .i64 0,.int .i64 P,.pointer (some ⟨g,0,none⟩),.map (some w4.heap.size),.slice none 0 0] 160)) (w4.heap.size+1) (fun x=>w3.heap.size<=x) (Sd.new start queue polls)):=by
  have h1:=hf.size
  have hb:=Blk.new (w4.alloc (.map #[] 0)) 160 [.int .u32 s,.int .u32 s,.int .u32 s,.int .u32 s,.int .u32 s,.int .i64 0,.int .i64 P,.pointer (some ⟨g,0,none⟩),.map (some w4.heap.size),.slice none 0 0]
  have e1:(w4.alloc (.map #[] 0)).heap.size=w4.heap.size+1:=by simp
  rw [e1] at hb
  refine SendAt.mk' (g:=g) (b:=none) (k:=w4.heap.size) (A:=none) (c:=0) ⟨?_,?_,?_,Sl.nil _ _⟩ ⟨by omega,?_,(fun _ e=>by cases e),by omega,(fun _ e=>by cases e)⟩
  ·unfold sendCells Sd.new
   rw [hs,HP.out]
   exact hb
  ·unfold Sd.new
   simp only
   rw [HQ.out]
   exact (R4.out.touch ((Touch.refl (fun _=>False) w4).alloc _) (fun h=>h) (fun _ _ h=>h)).touch ((Touch.refl (fun _=>False) _).alloc _) (fun h=>h) (fun _ _ h=>h)
  ·exact (MapAt.made numK w4).alloc _
  ·exact hge
 have FX:Hid (Fresh w3 ((w4.alloc (.map #[] 0)).alloc (.cells #[.int .u32 s,.int .u32 s,.int .u32 s,.int .u32 s,.int .u32 s,.int .i64 0,.int .i64 P,.pointer (some ⟨g,0,none⟩),.map (some w4.heap.size),.slice none 0 0] 160))):=(F4.out.alloc _).alloc _
 have hle:=F4.out.size
 clear hr hf HR R4 hge hs
 go_wp2
 go_ret
 exact ⟨w4.heap.size+1,rfl,HX.out,FX.out,by omega⟩
theorem cloneNum_any (A:Option Addr) (c:Nat) (l:List Int) (w:World) (h:Rd numE w A c l) (hl:l.length<=16777216) :
  Calls Tryz.prog 48 #[.slice A l.length c] w fun e w'=>∃ A' c',e=.returned (.slice A' l.length c')/\Mine numE w w' A' c' l:=by
 cases A with
 |none =>
  have h0:=h.2.2.1 rfl
  subst h0
  have:l=[]:=List.eq_nil_of_length_eq_zero (by have:=h.1;omega)
  subst this
  have hz:=fun w=>Lib.run_eql_slice_nil (P:=Tryz.prog) w 47 46 none 0 0 0 0 Tryz.underlying47
  go_enter Tryz.func48,Tryz.ntmps48
  go_wp2
  go_ret
  exact ⟨none,0,rfl,Mine.nil _ _⟩
 |some ad =>
  have H:=lh h
  clear h
  have hz:=fun w=>Lib.run_eql_slice_nil (P:=Tryz.prog) w 47 46 (some ad) l.length c 0 0 Tryz.underlying47
  have M0:=lh (Mine.lit numE w #[] [] rfl 0 rfl (by decide))
  go_enter Tryz.func48,Tryz.ntmps48
  go_wp2_with (at_builtin;refine app_num rfl rfl (l:=[]) (l2:=l) rfl rfl (Sl.lit numE w _ rfl _ _ rfl _ rfl (by decide)) (H.out.alloc _) (by simp;omega) ?_;intro A2 c2 L2 w2 hL2 hs2 ht2 hA2)
  have e:L2=l:=hL2.out
  subst e
  have M2:=lh (M0.out.app hs2 ht2 hA2)
  clear hs2 ht2 hA2 hL2
  go_ret
  exact ⟨A2,c2,rfl,M2.out⟩
def Sd.varsV (st:Sd.S) (A:Option Addr) (c:Nat):Value:=
 .agg #[.int .u32 st.s,.int .u32 st.a,.int .u32 st.ms,.int .u32 st.ps,.int .u32 st.pa,.int .i64 st.units,.int .i64 (st.q.length:Int),.int .i64 (st.m.length:Int),.slice A st.again.length c]
set_option maxRecDepth 4000 in
theorem svars_any (p:Nat) (F:Nat->Prop) (st:Sd.S) (w:World) (h:SendAt w p F st) (hag:st.again.length<=16777216) :
  Calls Tryz.prog 23 #[.pointer (some ⟨p,0,none⟩)] w fun e w'=>∃ A' c',e=.returned (Sd.varsV st A' c')/\Mine numE w w' A' c' st.again:=by
 obtain ⟨g,b,k,A,c,h1,hF⟩:=h.open_
 have HI:=lh h1
 obtain ⟨es,cl,hes,hen⟩:=mlen h1.map
 rw [Sd.mapV_len] at hen
 have hkl:=h1.map.lt
 have KEEP:Hid (∀ W,Fresh w W->W.cell? ⟨p,0,none⟩=some (.int .u32 st.s)/\W.cell? ⟨p,1,none⟩=some (.int .u32 st.a)/\W.cell? ⟨p,2,none⟩=some (.int .u32 st.ms)/\W.cell? ⟨p,3,none⟩=some (.int .u32 st.ps)/\W.cell? ⟨p,4,none⟩=some (.int .u32 st.pa) /\
   W.cell? ⟨p,5,none⟩=some (.int .i64 st.units)/\W.cell? ⟨p,7,none⟩=some (.pointer (some ⟨g,0,none⟩))/\W.cell? ⟨p,8,none⟩=some (.map (some k))/\W.cell? ⟨p,9,none⟩=some (.slice A st.again.length c)/\W.heap[k]?=some (.map es cl)):=fun W hf=>by
  have hb:=hf.blk h1.blk (fun h=>h)
  exact ⟨hb.cell 0,hb.cell 1,hb.cell 2,hb.cell 3,hb.cell 4,hb.cell 5,hb.cell 7,hb.cell 8,hb.cell 9,(hf.block k hkl (fun h=>h)).trans hes⟩
 have HLEN:Hid (∀ W,Fresh w W->Calls Tryz.prog 47 #[.pointer (some ⟨g,0,none⟩)] W fun e w'=>e=.returned (.int .i64 st.q.length)/\w'=W):=fun W hf=>ringStr_len g b st.most st.q W (h1.ring.touch hf (fun h=>h) (fun _ _ h=>h))
 have HCL:Hid (∀ W,Fresh w W->Calls Tryz.prog 48 #[.slice A st.again.length c] W fun e w'=>∃ A' c',e=.returned (.slice A' st.again.length c')/\Mine numE W w' A' c' st.again):=fun W hf=>cloneNum_any A c st.again W (h1.ag.touch hf (fun _ _ h=>h)).rd hag
 have hml:∀ W:World,W.heap[k]?=some (.map es cl)->(Builtin.len_ #[158] 3 #[.map (some k)]).run Tryz.prog W=.ok (.int .i64 (st.m.length:Int)) W:=fun W hw=>by
  rw [<- hen]
  exact run_len_map W _ _ k es cl (by simp [Program.mapKeyOf,Program.mapElemOf,Tryz.underlying158]) hw
 clear hes hen hkl
 clear h h1 hF
 unfold Sd.varsV
 go_enter Tryz.func23,Tryz.ntmps23
 go_wp2_with fail
 have F1:Hid (Fresh w (w.alloc (.cells #[.int .u32 0,.int .u32 0,.int .u32 0,.int .u32 0,.int .u32 0,.int .i64 0,.int .i64 0,.int .i64 0,.slice none 0 0] 57))):=(Touch.refl _ _).alloc _
 have B1:Hid (Blk (w.alloc (.cells #[.int .u32 0,.int .u32 0,.int .u32 0,.int .u32 0,.int .u32 0,.int .i64 0,.int .i64 0,.int .i64 0,.slice none 0 0] 57)) w.heap.size 57 [.int .u32 0,.int .u32 0,.int .u32 0,.int .u32 0,.int .u32 0,.int .i64 0,.int .i64 0,.int .i64 0,.slice none 0 0]):=Blk.new w _ _
 generalize w.alloc (.cells #[.int .u32 0,.int .u32 0,.int .u32 0,.int .u32 0,.int .u32 0,.int .i64 0,.int .i64 0,.int .i64 0,.slice none 0 0] 57)=w1 at *
 have hpr:p<w.heap.size:=HI.out.blk.lt
 obtain ⟨r,hr⟩:=xq w.heap.size
 rw [<- hr] at B1 hpr ⊢
 have HRr:=lh hr
 clear hr
 have K1:Hid (∀ W,Fresh w1 W->W.cell? ⟨p,0,none⟩=some (.int .u32 st.s)/\W.cell? ⟨p,1,none⟩=some (.int .u32 st.a)/\W.cell? ⟨p,2,none⟩=some (.int .u32 st.ms)/\W.cell? ⟨p,3,none⟩=some (.int .u32 st.ps)/\W.cell? ⟨p,4,none⟩=some (.int .u32 st.pa) /\
   W.cell? ⟨p,5,none⟩=some (.int .i64 st.units)/\W.cell? ⟨p,7,none⟩=some (.pointer (some ⟨g,0,none⟩))/\W.cell? ⟨p,8,none⟩=some (.map (some k))/\W.cell? ⟨p,9,none⟩=some (.slice A st.again.length c)/\W.heap[k]?=some (.map es cl)):=fun W hf=>by
  exact KEEP.out W (F1.out.trans hf (fun _ _ h=>h))
 have K2:Hid (∀ W v0 v1 v2 v3 v4 v5 v6 v7 v8,Fresh w1 W->(((((((((W.setCell ⟨r,0,none⟩ v0).setCell ⟨r,1,none⟩ v1).setCell ⟨r,2,none⟩ v2).setCell ⟨r,3,none⟩ v3).setCell ⟨r,4,none⟩ v4).setCell ⟨r,5,none⟩ v5).setCell ⟨r,6,none⟩ v6).setCell ⟨r,7,none⟩ v7).setCell ⟨r,8,none⟩ v8).cell? ⟨p,0,none⟩=some (.int .u32 st.s)/\(((((((((W.setCell ⟨r,0,none⟩ v0).setCell ⟨r,1,none⟩ v1).setCell ⟨r,2,none⟩ v2).setCell ⟨r,3,none⟩ v3).setCell ⟨r,4,none⟩ v4).setCell ⟨r,5,none⟩ v5).setCell ⟨r,6,none⟩ v6).setCell ⟨r,7,none⟩ v7).setCell ⟨r,8,none⟩ v8).cell? ⟨p,1,none⟩=some (.int .u32 st.a)/\(((((((((W.setCell ⟨r,0,none⟩ v0).setCell ⟨r,1,none⟩ v1).setCell ⟨r,2,none⟩ v2).setCell ⟨r,3,none⟩ v3).setCell ⟨r,4,none⟩ v4).setCell ⟨r,5,none⟩ v5).setCell ⟨r,6,none⟩ v6).setCell ⟨r,7,none⟩ v7).setCell ⟨r,8,none⟩ v8).cell? ⟨p,2,none⟩=some (.int .u32 st.ms)/\(((((((((W.setCell ⟨r,0,none⟩ v0).setCell ⟨r,1,none⟩ v1).setCell ⟨r,2,none⟩ v2).setCell ⟨r,3,none⟩ v3).setCell ⟨r,4,none⟩ v4).setCell ⟨r,5,none⟩ v5).setCell ⟨r,6,none⟩ v6).setCell ⟨r,7,none⟩ v7).setCell ⟨r,8,none⟩ v8).cell? ⟨p,3,none⟩=some (.int .u32 st.ps)/\(((((((((W.setCell ⟨r,0,none⟩ v0).setCell ⟨r,1,none⟩ v1).setCell ⟨r,2,none⟩ v2).setCell ⟨r,3,none⟩ v3).setCell ⟨r,4,none⟩ v4).setCell ⟨r,5,none⟩ v5).setCell ⟨r,6,none⟩ v6).setCell ⟨r,7,none⟩ v7).setCell ⟨r,8,none⟩ v8).cell? ⟨p,4,none⟩=some (.int .u32 st.pa)/\(((((((((W.setCell ⟨r,0,none⟩ v0).setCell ⟨r,1,none⟩ v1).setCell ⟨r,2,none⟩ v2).setCell ⟨r,3,none⟩ v3).setCell ⟨r,4,none⟩ v4).setCell ⟨r,5,none⟩ v5).setCell ⟨r,6,none⟩ v6).setCell ⟨r,7,none⟩ v7).setCell ⟨r,8,none⟩ v8).cell? ⟨p,5,none⟩=some (.int .i64 st.units)/\(((((((((W.setCell ⟨r,0,none⟩ v0).setCell ⟨r,1,none⟩ v1).setCell ⟨r,2,none⟩ v2).setCell ⟨r,3,none⟩ v3).setCell ⟨r,4,none⟩ v4).setCell ⟨r,5,none⟩ v5).setCell ⟨r,6,none⟩ v6).setCell ⟨r,7,none⟩ v7).setCell ⟨r,8,none⟩ v8).cell? ⟨p,7,none⟩=some (.pointer (some ⟨g,0,none⟩))/\(((((((((W.setCell ⟨r,0,none⟩ v0).setCell ⟨r,1,none⟩ v1).setCell ⟨r,2,none⟩ v2).setCell ⟨r,3,none⟩ v3).setCell ⟨r,4,none⟩ v4).setCell ⟨r,5,none⟩ v5).setCell ⟨r,6,none⟩ v6).setCell ⟨r,7,none⟩ v7).setCell ⟨r,8,none⟩ v8).cell? ⟨p,8,none⟩=some (.map (some k))/\(((((((((W.setCell ⟨r,0,none⟩ v0).setCell ⟨r,1,none⟩ v1).setCell ⟨r,2,none⟩ v2).setCell ⟨r,3,none⟩ v3).setCell ⟨r,4,none⟩ v4).setCell ⟨r,5,none⟩ v5).setCell ⟨r,6,none⟩ v6).setCell ⟨r,7,none⟩ v7).setCell ⟨r,8,none⟩ v8).cell? ⟨p,9,none⟩=some (.slice A st.again.length c)/\(((((((((W.setCell ⟨r,0,none⟩ v0).setCell ⟨r,1,none⟩ v1).setCell ⟨r,2,none⟩ v2).setCell ⟨r,3,none⟩ v3).setCell ⟨r,4,none⟩ v4).setCell ⟨r,5,none⟩ v5).setCell ⟨r,6,none⟩ v6).setCell ⟨r,7,none⟩ v7).setCell ⟨r,8,none⟩ v8).heap[k]?=some (.map es cl)):=fun W v0 v1 v2 v3 v4 v5 v6 v7 v8 hf=>by
  have hs:Fresh w (((((((((W.setCell ⟨r,0,none⟩ v0).setCell ⟨r,1,none⟩ v1).setCell ⟨r,2,none⟩ v2).setCell ⟨r,3,none⟩ v3).setCell ⟨r,4,none⟩ v4).setCell ⟨r,5,none⟩ v5).setCell ⟨r,6,none⟩ v6).setCell ⟨r,7,none⟩ v7).setCell ⟨r,8,none⟩ v8):=Touch.trans (F1.out.trans hf (fun _ _ h=>h)) (show Touch (fun x=>x=r) W _ from Touch.st (S:=fun x=>x=r) (Touch.st (S:=fun x=>x=r) (Touch.st (S:=fun x=>x=r) (Touch.st (S:=fun x=>x=r) (Touch.st (S:=fun x=>x=r) (Touch.st (S:=fun x=>x=r) (Touch.st (S:=fun x=>x=r) (Touch.st (S:=fun x=>x=r) (Touch.st (S:=fun x=>x=r) (Touch.refl (fun x=>x=r) W) (g:=r) (i:=0) (u:=v0) rfl) (g:=r) (i:=1) (u:=v1) rfl) (g:=r) (i:=2) (u:=v2) rfl) (g:=r) (i:=3) (u:=v3) rfl) (g:=r) (i:=4) (u:=v4) rfl) (g:=r) (i:=5) (u:=v5) rfl) (g:=r) (i:=6) (u:=v6) rfl) (g:=r) (i:=7) (u:=v7) rfl) (g:=r) (i:=8) (u:=v8) rfl) (fun x hx e=>by have:=HRr.out;omega)
  exact KEEP.out _ hs
 have B2:Hid (∀ W,Fresh w1 W->W.cell? ⟨r,0,none⟩=some (.int .u32 0)/\W.frozen? ⟨r,0,none⟩=false/\W.cell? ⟨r,1,none⟩=some (.int .u32 0)/\W.frozen? ⟨r,1,none⟩=false/\W.cell? ⟨r,2,none⟩=some (.int .u32 0)/\W.frozen? ⟨r,2,none⟩=false/\W.cell? ⟨r,3,none⟩=some (.int .u32 0)/\W.frozen? ⟨r,3,none⟩=false/\W.cell? ⟨r,4,none⟩=some (.int .u32 0)/\W.frozen? ⟨r,4,none⟩=false/\W.cell? ⟨r,5,none⟩=some (.int .i64 0)/\W.frozen? ⟨r,5,none⟩=false/\W.cell? ⟨r,6,none⟩=some (.int .i64 0)/\W.frozen? ⟨r,6,none⟩=false/\W.cell? ⟨r,7,none⟩=some (.int .i64 0)/\W.frozen? ⟨r,7,none⟩=false/\W.cell? ⟨r,8,none⟩=some (.slice none 0 0)/\W.frozen? ⟨r,8,none⟩=false):=fun W hf=>by
  have hb:=hf.blk B1.out (fun h=>h)
  exact ⟨hb.cell 0,hb.frozen 0,hb.cell 1,hb.frozen 1,hb.cell 2,hb.frozen 2,hb.cell 3,hb.frozen 3,hb.cell 4,hb.frozen 4,hb.cell 5,hb.frozen 5,hb.cell 6,hb.frozen 6,hb.cell 7,hb.frozen 7,hb.cell 8,hb.frozen 8⟩
 have CL1:Hid (∀ W,Fresh w1 W->Calls Tryz.prog 48 #[.slice A st.again.length c] W fun e w'=>∃ A' c',e=.returned (.slice A' st.again.length c')/\Mine numE W w' A' c' st.again):=fun W hf=>HCL.out W (F1.out.trans hf (fun _ _ h=>h))
 have LN1:Hid (∀ W,Fresh w1 W->Calls Tryz.prog 47 #[.pointer (some ⟨g,0,none⟩)] W fun e w'=>e=.returned (.int .i64 st.q.length)/\w'=W):=fun W hf=>HLEN.out W (F1.out.trans hf (fun _ _ h=>h))
 have hf1:Fresh w1 w1.drew:=(Touch.refl _ _).drew
 clear KEEP HLEN HCL
 go_region_held3 (fun wx=>wx.cell? ⟨p,0,none⟩=some (.int .u32 st.s)/\wx.cell? ⟨p,1,none⟩=some (.int .u32 st.a)/\wx.cell? ⟨p,2,none⟩=some (.int .u32 st.ms)/\wx.cell? ⟨p,3,none⟩=some (.int .u32 st.ps)/\wx.cell? ⟨p,4,none⟩=some (.int .u32 st.pa) /\
   wx.cell? ⟨p,5,none⟩=some (.int .i64 st.units)/\wx.cell? ⟨p,7,none⟩=some (.pointer (some ⟨g,0,none⟩))/\wx.cell? ⟨p,8,none⟩=some (.map (some k))/\wx.cell? ⟨p,9,none⟩=some (.slice A st.again.length c)/\wx.heap[k]?=some (.map es cl))
  (first
   |with_reducible exact K1.out _ (by with_reducible assumption)
   |with_reducible exact K2.out _ _ _ _ _ _ _ _ _ _ (by with_reducible assumption)
   |with_reducible assumption)
  (first
   |(go_simp;go_at_call 47;refine (LN1.out _ (by with_reducible assumption)).mono ?_;rintro e' w' ⟨rfl,rfl⟩)
   |(go_simp;go_at_call 48;refine (CL1.out _ (by with_reducible assumption)).mono ?_;rintro e' w' ⟨A',c',rfl,hM⟩;have hf2:Fresh w1 w':=hf1.trans hM.fresh (fun _ _ h=>h);obtain ⟨q0,z0,q1,z1,q2,z2,q3,z3,q4,z4,q5,z5,q6,z6,q7,z7,q8,z8⟩:=B2.out _ hf2))
 all_goals
  have B3:=hf2.blk B1.out (fun h=>h)
  have M3:Mine numE w w' A' c' st.again:=⟨hM.sl,F1.out.trans hf2 (fun _ _ h=>h),fun ad e=>Nat.le_trans F1.out.size (Nat.le_trans hf1.size (hM.base ad e))⟩
  have hAr:∀ ad,A'=some ad->¬ ad.block=r:=fun ad e e2=>by
   have h1:=hM.base ad e
   have h2:=hf1.size
   have h3:=B1.out.lt
   omega
  have BF:Hid (Blk (((((((((w'.setCell ⟨r,0,none⟩ (.int .u32 st.s)).setCell ⟨r,1,none⟩ (.int .u32 st.a)).setCell ⟨r,2,none⟩ (.int .u32 st.ms)).setCell ⟨r,3,none⟩ (.int .u32 st.ps)).setCell ⟨r,4,none⟩ (.int .u32 st.pa)).setCell ⟨r,5,none⟩ (.int .i64 st.units)).setCell ⟨r,6,none⟩ (.int .i64 (st.q.length:Int))).setCell ⟨r,7,none⟩ (.int .i64 (st.m.length:Int))).setCell ⟨r,8,none⟩ (.slice A' st.again.length c')) r 57 [.int .u32 st.s,.int .u32 st.a,.int .u32 st.ms,.int .u32 st.ps,.int .u32 st.pa,.int .i64 st.units,.int .i64 (st.q.length:Int),.int .i64 (st.m.length:Int),.slice A' st.again.length c']):=(((((((((B3.set 0 (.int .u32 st.s)).set 1 (.int .u32 st.a)).set 2 (.int .u32 st.ms)).set 3 (.int .u32 st.ps)).set 4 (.int .u32 st.pa)).set 5 (.int .i64 st.units)).set 6 (.int .i64 (st.q.length:Int))).set 7 (.int .i64 (st.m.length:Int))).set 8 (.slice A' st.again.length c'))
  have MF:Hid (Mine numE w (((((((((w'.setCell ⟨r,0,none⟩ (.int .u32 st.s)).setCell ⟨r,1,none⟩ (.int .u32 st.a)).setCell ⟨r,2,none⟩ (.int .u32 st.ms)).setCell ⟨r,3,none⟩ (.int .u32 st.ps)).setCell ⟨r,4,none⟩ (.int .u32 st.pa)).setCell ⟨r,5,none⟩ (.int .i64 st.units)).setCell ⟨r,6,none⟩ (.int .i64 (st.q.length:Int))).setCell ⟨r,7,none⟩ (.int .i64 (st.m.length:Int))).setCell ⟨r,8,none⟩ (.slice A' st.again.length c')) A' c' st.again):=M3.own (S:=fun x=>x=r) (Touch.st (S:=fun x=>x=r) (Touch.st (S:=fun x=>x=r) (Touch.st (S:=fun x=>x=r) (Touch.st (S:=fun x=>x=r) (Touch.st (S:=fun x=>x=r) (Touch.st (S:=fun x=>x=r) (Touch.st (S:=fun x=>x=r) (Touch.st (S:=fun x=>x=r) (Touch.st (S:=fun x=>x=r) (Touch.refl (fun x=>x=r) w') (g:=r) (i:=0) (u:=.int .u32 st.s) rfl) (g:=r) (i:=1) (u:=.int .u32 st.a) rfl) (g:=r) (i:=2) (u:=.int .u32 st.ms) rfl) (g:=r) (i:=3) (u:=.int .u32 st.ps) rfl) (g:=r) (i:=4) (u:=.int .u32 st.pa) rfl) (g:=r) (i:=5) (u:=.int .i64 st.units) rfl) (g:=r) (i:=6) (u:=.int .i64 (st.q.length:Int)) rfl) (g:=r) (i:=7) (u:=.int .i64 (st.m.length:Int)) rfl) (g:=r) (i:=8) (u:=.slice A' st.again.length c') rfl) (fun x e=>by have:=HRr.out;omega) hAr
  clear B3 M3 hAr hM hf2 hf1 q0 q1 q2 q3 q4 q5 q6 q7 q8 z0 z1 z2 z3 z4 z5 z6 z7 z8 K1 K2 B1 B2 CL1 LN1 HI F1 hml
  generalize (((((((((w'.setCell ⟨r,0,none⟩ (.int .u32 st.s)).setCell ⟨r,1,none⟩ (.int .u32 st.a)).setCell ⟨r,2,none⟩ (.int .u32 st.ms)).setCell ⟨r,3,none⟩ (.int .u32 st.ps)).setCell ⟨r,4,none⟩ (.int .u32 st.pa)).setCell ⟨r,5,none⟩ (.int .i64 st.units)).setCell ⟨r,6,none⟩ (.int .i64 (st.q.length:Int))).setCell ⟨r,7,none⟩ (.int .i64 (st.m.length:Int))).setCell ⟨r,8,none⟩ (.slice A' st.again.length c'))=wf at *
  have e0:=BF.out.cell 0
  have e1:=BF.out.cell 1
  have e2:=BF.out.cell 2
  have e3:=BF.out.cell 3
  have e4:=BF.out.cell 4
  have e5:=BF.out.cell 5
  have e6:=BF.out.cell 6
  have e7:=BF.out.cell 7
  have e8:=BF.out.cell 8
  simp only [List.getElem?_cons_zero,List.getElem?_cons_succ] at e0 e1 e2 e3 e4 e5 e6 e7 e8
  go_wp2
  exact bodyPost_ret (v:=.agg #[.int .u32 st.s,.int .u32 st.a,.int .u32 st.ms,.int .u32 st.ps,.int .u32 st.pa,.int .i64 st.units,.int .i64 (st.q.length:Int),.int .i64 (st.m.length:Int),.slice A' st.again.length c']) (by simp [results,Tryz.results23,go_sem,e0,e1,e2,e3,e4,e5,e6,e7,e8]) rfl ⟨A',c',rfl,MF.out⟩
namespace Sd
variable {start:Int} {c:ByteArray} {next msv:Nat} {st:S}
end Sd
end Go.Proofs.YtlbopdfobgjjaaaGreatDoor

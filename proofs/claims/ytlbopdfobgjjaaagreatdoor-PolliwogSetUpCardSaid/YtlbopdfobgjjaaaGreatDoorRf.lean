/-
  recv.Recv: missing: a loop over a map · recv.Recv: Stat, still · recv.Recv: Gap · The document's receiver, with numbers that go on for ever, and what it is to the program's. Plain: no program is named but the receiver's plain form.
-/
import Derived.Test.YtlbopdfobgjjaaaGreatDoorRcvA
import Derived.Test.YtlbopdfobgjjaaaGreatDoorEvD
import Derived.Lib.SliceRun
import Derived.RegionTactic
import Derived.ChangeAlike
import Derived.Deep.RegionLaw
import Derived.Test.YtlbopdfobgjjaaaGreatDoorSpanL
import Derived.Deep.RegionHeld3
import Derived.Test.YtlbopdfobgjjaaaGreatDoorGapS
import Derived.Test.YtlbopdfobgjjaaaGreatDoorKey
import Derived.Test.YtlbopdfobgjjaaaGreatDoorRows
import Derived.Test.YtlbopdfobgjjaaaGreatDoorMapD
set_option maxHeartbeats 4000000
namespace Go.Proofs.YtlbopdfobgjjaaaGreatDoor
open Go.RowKit
def Rv.Miss (st:Rv.S) (S:List (Int × Int)):Prop:=Sp.Good S/\∀ n,Sp.mem S n ↔ 0<=n/\n<(st.h-st.r)%16777216/\∀ q ∈ st.m,(q.1-st.r)%16777216 ≠ n
theorem Rv.Miss.len {st:Rv.S} {S:List (Int × Int)} (h:Rv.Miss st S) (hd:(st.h-st.r)%16777216<=100000):S.length<=100000:=by
 have:=Sp.Canon.len_le h.1.1 0 100000 (by omega) (fun n hn=>by have:=(h.2 n).1 hn;omega)
 omega
set_option maxRecDepth 4000 in
theorem rmissing_any (p:Nat) (F:Nat->Prop) (st:Rv.S) (w:World) (h:RecvAt w p F st) (hd:(st.h-st.r)%16777216<=100000) :
  Calls Tryz.prog 132 #[.pointer (some ⟨p,0,none⟩)] w fun e w'=>∃ B d S,e=.returned (.slice B S.length d)/\Mine spanE w w' B d S/\Rv.Miss st S:=by
 obtain ⟨k,A,c,G,d,h1,hF,hL⟩:=h
 have HI:=lh h1
 clear h1 hF hL
 have KEEP:Hid (∀ W,Fresh w W->W.cell? ⟨p,0,none⟩=some (.int .u32 st.r)/\W.cell? ⟨p,1,none⟩=some (.int .u32 st.h)):=fun W hf=>⟨(HI.out.old hf).blk.cell 0,(HI.out.old hf).blk.cell 1⟩
 obtain ⟨dd,hdd⟩:=qx ((st.h-st.r)%16777216)
 have hd0:0<=dd:=by omega
 have HTO:=lh (to_any st.r st.h)
 rw [hdd] at HTO hd
 have HDD:=lh hdd
 clear hdd
 have hf1:Fresh w w.drew:=(Touch.refl _ _).drew
 have R1:Hid (∀ W:World,Rd spanE (W.alloc (.cells #[.int .i64 0,.int .i64 dd] 284)) (some ⟨W.heap.size,0,none⟩) 1 [(0,dd)]):=fun W=>Sl.rd (Sl.lit spanE W _ rfl #[.int .i64 0,.int .i64 dd] [(0,dd)] rfl 1 rfl (by decide))
 have HOF:Hid (∀ W A c,Rd spanE W A c [(0,dd)]->Calls Tryz.prog 169 #[.slice A 1 c] W fun e w'=>∃ B d S,e=.returned (.slice B S.length d)/\Mine spanE W w' B d S/\Sp.Good S/\∀ n,Sp.mem S n ↔ 0<=n/\n<dd):=fun W A c hr=>(of_any A c [(0,dd)] W hr (by simp)).mono fun e w' ⟨B,d,S,e1,m,ho,_⟩=>⟨B,d,S,e1,m,ho.good,fun n=>by
  rw [ho.mem_small (fun x hx=>by rw [List.mem_singleton.1 hx];simp only;omega),mem_one]
  rfl⟩
 go_enter Tryz.func132,Tryz.ntmps132
 go_wp2_with fail
 go_region_held3 (fun wx=>wx.cell? ⟨p,0,none⟩=some (.int .u32 st.r)/\wx.cell? ⟨p,1,none⟩=some (.int .u32 st.h))
  (first
   |with_reducible exact KEEP.out _ (by with_reducible assumption)
   |exact KEEP.out _ (((Touch.refl (fun _=>False) w).alloc _).drew)
   |with_reducible assumption)
  (first
   |(go_simp;go_at_call 161;with_reducible refine (HTO.out _).mono ?_;rintro e' w' ⟨rfl,rfl⟩)
   |(go_simp;go_at_call 169;refine (HOF.out ((w.alloc (.cells #[.int .i64 0,.int .i64 dd] 284)).drew) _ _ (R1.out w)).mono ?_;rintro e' w' ⟨B',d',S',rfl,hM,hG,hS⟩;have hf2:Fresh w w':=(((Touch.refl (fun _=>False) w).alloc _).drew).trans hM.fresh (fun _ _ h=>h)))
 all_goals
  have M2:Hid (Mine spanE w w' B' d' S'):=hM.back (((Touch.refl (fun _=>False) w).alloc _).drew)
  have HS2:Hid (Sp.Good S'/\∀ n,Sp.mem S' n ↔ 0<=n/\n<dd/\∀ q ∈ ([]:List Int),(q-st.r)%16777216 ≠ n):=⟨hG,fun n=>by rw [hS];simp⟩
  have I2:=lh (HI.out.old hf2)
  have c4:w'.cell? ⟨p,4,none⟩=some (.map (some k)):=I2.out.blk.cell 4
  clear hM hG hS R1 HOF HTO hf1
  go_wp2_with (first
   |(at_range;refine wpList_rangeM rfl rfl rfl I2.out.map Tryz.underlying162 ?_;intro w3 hit hf3)
   |go_in)
  go_frame
  have HIT:=lh hit
  have M3:=lh (M2.out.old hf3)
  obtain ⟨r,hr⟩:=xq w'.heap.size
  rw [<- hr] at HIT ⊢
  have hrw:w.heap.size<=r:=by have:=hf2.size;omega
  clear hit hf3 M2 I2 c4 hf2 hr
  go_loopw [3] (fun s3 wr=>∃ (D:List Int) (B:Option Addr) (d:Nat) (S:List (Int × Int)),s3=.slice B S.length d/\Hid (IterAt numK wr r k (Rv.bufV st.m) D)/\Hid (Mine spanE w wr B d S)/\Hid (Sp.Good S/\∀ n,Sp.mem S n ↔ 0<=n/\n<dd/\∀ q ∈ D,(q-st.r)%16777216 ≠ n)/\Hid (∀ q ∈ D,∃ q2 ∈ st.m,q2.1=q)) (fun _ wr=>wr.rangeLeft k r)
  case atStart=>exact ⟨[],B',d',S',rfl,HIT,M3,HS2,fun _ h=>by cases h⟩
  case round =>
   clear HIT M3 HS2
   obtain ⟨D,B,d3,S,rfl,HIT,HM,HS,HITD⟩:=hrel
   go_wp2_with (first
    |(at_next;refine wpList_nextM rfl rfl rfl HIT.out ?_ ?_)
    |go_in)
   ·intro hdone
    have HX:Hid (Rv.Miss st S):=⟨HS.out.1,fun n=>by
     rw [HS.out.2 n,HDD.out]
     constructor
     ·rintro ⟨h1,h2,h3⟩
      exact ⟨h1,h2,fun q hq=>h3 q.1 (hdone q.1 (.string q.2) (List.mem_map.2 ⟨q,hq,rfl⟩))⟩
     ·rintro ⟨h1,h2,h3⟩
      refine ⟨h1,h2,fun q hq=>?_⟩
      obtain ⟨q2,hq2,e⟩:=HITD.out q hq
      have:=h3 q2 hq2
      rwa [e] at this⟩
    clear hdone
    go_wp2
    go_ret
    exact ⟨B,d3,S,rfl,HM.out,HX.out⟩
   ·intro key qv w4 hq hqD hit4 ht4 hlt hen
    have IT4:=lh hit4
    have hrS:∀ x,x=r->w.heap.size<=x:=fun x e=>by omega
    have M4:Hid (Mine spanE w w4 B d3 S):=HM.out.own ht4 hrS (fun ad e e2=>by
     obtain ⟨_,cs,hb,_⟩:=HM.out.sl.2.2.2 ad e
     obtain ⟨es,cl,si,se,c0,_,_,_,_,hr4,_⟩:=HIT.out.ex
     unfold Blk at hb
     rw [e2,hr4] at hb
     cases hb)
    have F4:=lh M4.out.fresh
    have HLT:=lh hlt
    obtain ⟨q2,hq2,hqe⟩:=List.mem_map.1 hq
    have HQ2:Hid (q2 ∈ st.m/\q2.1=key):=⟨hq2,by have:=congrArg Prod.fst hqe;exact this⟩
    have hen2:(Instr.entry (.pointer (some ⟨r,0,none⟩))).run Tryz.prog w4=.ok (.tuple #[.int .u32 key,qv]) w4:=hen
    have c0:w4.cell? ⟨p,0,none⟩=some (.int .u32 st.r):=(HI.out.old F4.out).blk.cell 0
    have HMT:Hid (∀ W,Fresh w4 W->W.rangeLeft k r=w4.rangeLeft k r):=fun W hf=>IT4.out.left_eq hf (fun h=>h) (fun h=>h)
    have HIT4:Hid (∀ W,Fresh w4 W->IterAt numK W r k (Rv.bufV st.m) (key::D)):=fun W hf=>IT4.out.touch hf (fun h=>h) (fun h=>h)
    have HTO:=lh (to_any st.r key)
    obtain ⟨at_,hat⟩:=qx ((key-st.r)%16777216)
    have hatb:0<=at_/\at_<16777216:=by omega
    rw [hat] at HTO
    have HAT:=lh hat
    have hSl:S.length<=1000000:=by
     have:=Sp.Canon.len_le HS.out.1.1 0 100000 (by omega) (fun n hn=>by have:=(HS.out.2 n).1 hn;omega)
     omega
    clear hit4 ht4 hlt hen hat hq hqD hq2 hqe HM HIT hrS IT4
    go_wp2_with fail
    refine (HTO.out w4).mono ?_
    rintro e w5 ⟨rfl,rfl⟩
    simp only
    have HDR:=lh (drop_any B d3 S (at_,at_+1) w5 M4.out.sl.rd HS.out.1 hSl)
    go_wp2_with fail
    refine HDR.out.mono ?_
    rintro e w6 ⟨B6,d6,S6,rfl,M6,G6,h6⟩
    have F6:=lh M6.fresh
    have M7:=lh (M6.back F4.out)
    have HS7:Hid (Sp.Good S6/\∀ n,Sp.mem S6 n ↔ 0<=n/\n<dd/\∀ q ∈ key::D,(q-st.r)%16777216 ≠ n):=⟨G6,fun n=>by
     rw [h6,Sp.near_id _ (by simp only;omega) (by simp only;omega) (by simp only;omega) (by simp only;omega),HS.out.2 n]
     unfold Sp.In
     simp only [List.mem_cons,forall_eq_or_imp,HAT.out]
     constructor
     ·rintro ⟨⟨h1,h2,h3⟩,h4⟩
      exact ⟨h1,h2,by omega,h3⟩
     ·rintro ⟨h1,h2,h3,h4⟩
      exact ⟨⟨h1,h2,h4⟩,by omega⟩⟩
    have HD7:Hid (∀ q ∈ key::D,∃ q2 ∈ st.m,q2.1=q):=fun q hq=>by
     rcases List.mem_cons.1 hq with rfl | hq
     ·exact ⟨q2,HQ2.out.1,HQ2.out.2⟩
     ·exact HITD.out q hq
    clear M6 G6 h6 HDR M4 HS HITD
    simp only
    go_wp2
    go_roundw
    case rel=>exact ⟨key::D,B6,d6,S6,rfl,HIT4.out _ F6.out,M7,HS7,HD7⟩
    case measure=>rw [HMT.out _ F6.out];exact HLT.out
theorem half_near {S T:List (Int × Int)} (h:Gp.Half S T) (hg:Sp.Good S) (hb:∀ n,Sp.mem S n->0<=n/\n<8388609):T=S:=Sp.Canon.uniq h.1.1 hg.1 fun n=>by
 rw [h.2]
 exact ⟨fun h=>h.1,fun h=>⟨h,hb n h⟩⟩
theorem Rv.renew_eq (st:Rv.S):∃ x,Rv.renew st={ st with mr:=x }:=⟨_,rfl⟩
set_option maxRecDepth 4000 in
theorem rstat_any (p:Nat) (F:Nat->Prop) (st:Rv.S) (w:World) (h:RecvAt w p F st) (hd:(st.h-st.r)%16777216<=100000) (hw:0<=st.window/\st.window<=64) (hi:st.inbox.length<=1000000) :
  Calls Tryz.prog 79 #[.pointer (some ⟨p,0,none⟩)] w fun e w'=>∃ B d S,e=.returned (.tuple #[.slice B (Gp.gl st.r S).length d,.int .u32 st.r,.int .u32 (Rv.renew st).mr])/\RecvAt w' p F (Rv.renew st)/\Touch F w w' /\
   Sl numE w' B d (Gp.gl st.r S)/\(∀ ad,B=some ad->w.heap.size<=ad.block)/\Rv.Miss st S:=by
 have HL:=lh h.lim
 have HRN:=lh (rrenew_any p F st w h hw hi)
 obtain ⟨x,hx⟩:=Rv.renew_eq st
 have HX:=lh hx
 rw [hx] at HRN ⊢
 clear h hx
 go_enter Tryz.func79,Tryz.ntmps79
 go_wp2_with fail
 refine HRN.out.mono ?_
 rintro e w1 ⟨rfl,h1,t1⟩
 have H1:=lh h1
 have T1:=lh t1
 obtain ⟨k,A,c,G,d,i1,hF,hL⟩:=h1
 have I1:=lh i1
 have HMI:Hid (∀ W,Fresh w1 W->Calls Tryz.prog 132 #[.pointer (some ⟨p,0,none⟩)] W fun e w'=>∃ B d S,e=.returned (.slice B S.length d)/\Mine spanE W w' B d S/\Rv.Miss { st with mr:=x } S):=fun W hf=>rmissing_any p F _ W (H1.out.old hf) hd
 have HLI:Hid (∀ W B d S,Rd spanE W B d S->Rv.Miss { st with mr:=x } S->Calls Tryz.prog 131 #[.int .u32 st.r,.slice B S.length d] W fun e w'=>∃ B' d',e=.returned (.slice B' (Gp.gl st.r S).length d')/\Mine numE W w' B' d' (Gp.gl st.r S)):=fun W B d S hr hm=>(listg_any st.r B d S W hr hm.1 (by have:=hm.len hd;omega)).mono fun e w' ⟨B',d',T,e1,m1,hh⟩=>by
  obtain rfl:T=S:=half_near hh hm.1 (fun n hn=>by have:=(hm.2 n).1 hn;have hd':(st.h-st.r)%16777216<=100000:=hd;simp only at this;omega)
  exact ⟨B',d',e1,m1⟩
 have KEEP:Hid (∀ W,Fresh w1 W->W.cell? ⟨p,0,none⟩=some (.int .u32 st.r)/\W.cell? ⟨p,2,none⟩=some (.int .u32 x)):=fun W hf=>⟨(I1.out.old hf).blk.cell 0,(I1.out.old hf).blk.cell 2⟩
 have hf1:Fresh w1 w1.drew:=(Touch.refl _ _).drew
 clear t1 i1 hF hL HRN
 simp only
 go_wp2_with fail
 go_region_held3 (fun wx=>wx.cell? ⟨p,0,none⟩=some (.int .u32 st.r)/\wx.cell? ⟨p,2,none⟩=some (.int .u32 x))
  (first
   |with_reducible exact KEEP.out _ (by with_reducible assumption)
   |with_reducible assumption)
  (first
   |(go_simp;go_at_call 132;with_reducible refine (HMI.out _ (by with_reducible assumption)).mono ?_;rintro e' w' ⟨B2,d2,S2,rfl,hM2,hMs⟩;have hf2:Fresh w1 w':=hf1.trans hM2.fresh (fun _ _ h=>h);have hR2:=hM2.sl.rd;clear hM2)
   |(go_simp;go_at_call 131;with_reducible refine (HLI.out _ _ _ _ (by with_reducible assumption) (by with_reducible assumption)).mono ?_;rintro e' w' ⟨B3,d3,rfl,hM3⟩;have hf3:Fresh w1 w':=hf2.trans hM3.fresh (fun _ _ h=>h)))
 all_goals
  have HS3:Hid (Sl numE w' B3 d3 (Gp.gl st.r S2)):=hM3.sl
  have HB3:Hid (∀ ad,B3=some ad->w.heap.size<=ad.block):=fun ad e=>by
   have h1:=hM3.base ad e
   have h2:=T1.out.size
   have h3:=hf2.size
   omega
  have H3:=lh (H1.out.old hf3)
  have T3:Hid (Touch F w w'):=T1.out.trans hf3 (fun _ _ h=>h.elim)
  have HM:Hid (Rv.Miss st S2):=hMs
  clear hM3 hR2 hMs hf1 hf2 hf3 KEEP HLI HMI I1 H1 T1
  go_wp2
  go_ret3
  exact ⟨B3,d3,S2,rfl,H3.out,T3.out,HS3.out,HB3.out,HM.out⟩
theorem results_tmp4r {fn:Func} {t u v x:Tmp} (h:fn.results=#[.tmp t,.tmp u,.tmp v,.tmp x]) (tmps:Array Value) (P:Program) (w:World) :
  (results fn tmps).run P w=.ok (.tuple #[tmps.getD t undef,tmps.getD u undef,tmps.getD v undef,tmps.getD x undef]) w:=by
 simp [results,h]
namespace Rf
structure S where
 R:Int
 H:Int
 MR:Int
 window:Int
 buf:List (Int × ByteArray)
 inbox:List ByteArray
 gaps:List (Int × Int)
def new (start window:Int):S:=⟨start%16777216,start%16777216,start%16777216+max 1 (min window 64),max 1 (min window 64),[],[],[]⟩
def has (x:S) (n:Int):Bool:=decide (n ∈ x.buf.map (·.1))
def dl:Nat->Int->List (Int × ByteArray)->List ByteArray->Int × List (Int × ByteArray) × List ByteArray
 |0,r,m,out=>(r,m,out)
 |k+1,r,m,out=>match mget m r with
  |some v=>dl k (r+1) (mdel m r) (out++[v])
  |none=>(r,m,out)
def at_ (x:S) (number:Int):Int:=x.R+(number-x.R)%16777216
def lay (x:S) (n:Int) (v:ByteArray):S:=
 { x with buf:=x.buf++[(n,v)],gaps:=if n > x.H/\x.gaps.length<8 then x.gaps++[(x.H,n)] else x.gaps,H:=max x.H (n+1) }
def deliver (x:S):S × List ByteArray:=
 let d:=dl x.buf.length x.R x.buf []
 ({ x with R:=d.1,buf:=d.2.1,inbox:=x.inbox++d.2.2 },d.2.2)
def takes (x:S) (n:Int):Bool:=decide (n<x.MR) && !has x n
def data (x:S) (number:Int) (v:ByteArray):S × List ByteArray:=if takes x (at_ x number) then deliver (lay x (at_ x number) v) else (x,[])
def pollOk (x:S) (number:Int):Bool:=decide (x.H<=at_ x number) && decide (at_ x number<=x.MR)
def poll (x:S) (number:Int):S:=if pollOk x number then { x with H:=at_ x number } else x
def renew (x:S):S:={ x with MR:=max x.MR (x.R+x.window-(x.inbox.length:Int)) }
def missing (x:S):List Int:=((List.range (x.H-x.R).toNat).map fun i:Nat=>x.R+(i:Int)).filter fun n=>!has x n
def ftStep (g:Int × Int) (a:Int × Int) (n:Int):Int × Int:=if g.1<=n/\n<g.2/\(a.1<0\/n=a.2) then (if a.1<0 then n else a.1,n+1) else a
def ft (x:S) (g:Int × Int):Int × Int:=(missing x).foldl (ftStep g) (-1,-1)
def gapL (x:S):List (Int × Int)->S × Int × Int × Bool
 |[]=>({ x with gaps:=[] },0,0,false)
 |g::rest=>if 0<=(ft x g).1 then (renew { x with gaps:=rest },(ft x g).1,(ft x g).2,true) else gapL x rest
def gap (x:S):S × Int × Int × Bool:=gapL x x.gaps
def pm (m:List (Int × ByteArray)):List (Int × ByteArray):=m.map fun p=>(p.1%16777216,p.2)
def pg (l:List (Int × Int)):List (Int × Int):=l.map fun g=>(g.1%16777216,g.2%16777216)
def prog (x:S):Rv.S:=⟨x.R%16777216,x.H%16777216,x.MR%16777216,x.window,pm x.buf,x.inbox,pg x.gaps⟩
structure Ok (x:S) (lo hi:Int):Prop where
 lo0:0<=lo/\lo<16777216
 lor:lo<=x.R
 rhi:x.R<=hi
 hl:hi-lo<=8000000
 rh:x.R<=x.H
 hm:x.H<=x.MR
 sum:x.MR-x.R+(x.inbox.length:Int)<=x.window
 win:1<=x.window/\x.window<=64
 nod:(x.buf.map (·.1)).Nodup
 keys:∀ p ∈ x.buf,x.R<p.1/\p.1<x.H
 glen:x.gaps.length<=8
 gaps:∀ g ∈ x.gaps,lo<=g.1/\g.1<g.2/\g.2<=x.H/\g.2-g.1<=64
theorem Ok.new (start window:Int) (hi:Int) (h1:start%16777216<=hi) (h2:hi-start%16777216<=8000000):Ok (new start window) (start%16777216) hi where
 lo0:=by omega
 lor:=Int.le_refl _
 rhi:=h1
 hl:=h2
 rh:=Int.le_refl _
 hm:=by show start%16777216<=start%16777216+max 1 (min window 64);omega
 sum:=by show start%16777216+max 1 (min window 64)-start%16777216+(([]:List ByteArray).length:Int)<=max 1 (min window 64);simp;omega
 win:=by show 1<=max 1 (min window 64)/\max 1 (min window 64)<=64;omega
 nod:=List.nodup_nil
 keys:=fun p hp=>by cases hp
 glen:=by show ([]:List (Int × Int)).length<=8;simp
 gaps:=fun p hp=>by cases hp
theorem Ok.mono {x:S} {lo hi hi':Int} (h:Ok x lo hi) (h1:hi<=hi') (h2:hi'-lo<=8000000):Ok x lo hi':=⟨h.lo0,h.lor,Int.le_trans h.rhi h1,h2,h.rh,h.hm,h.sum,h.win,h.nod,h.keys,h.glen,h.gaps⟩
theorem prog_new (start window:Int):Rv.new start window=prog (new start window):=by
 unfold Rv.new prog new pm pg
 simp
section
variable {x:S} {lo hi:Int}
theorem Ok.near (h:Ok x lo hi):∀ p ∈ x.buf,x.R<=p.1/\p.1<=x.R+64:=fun p hp=>by
 have h1:=h.keys p hp
 have h2:=h.hm
 have h3:=h.sum
 have h4:=h.win
 omega
theorem Ok.at_bd (_h:Ok x lo hi) (number:Int):x.R<=at_ x number/\at_ x number<x.R+16777216/\at_ x number%16777216=number%16777216:=by
 unfold at_
 refine ⟨?_,?_,?_⟩ <;> omega
theorem Ok.pollOk (h:Ok x lo hi) (number:Int) :
  (decide (((prog x).h-(prog x).r)%16777216<=(number%16777216-(prog x).r)%16777216) && decide ((number%16777216-(prog x).r)%16777216<=((prog x).mr-(prog x).r)%16777216))=Rf.pollOk x number:=by
 obtain ⟨b1,b2,b3⟩:=h.at_bd number
 have h2:=h.hm
 have h3:=h.sum
 have h4:=h.win
 have h5:=h.rh
 unfold Rf.pollOk
 rw [<- b3]
 generalize at_ x number=n at *
 simp only [prog]
 congr 1 <;> (apply decide_eq_decide.2;omega)
theorem Ok.poll (h:Ok x lo hi) (number:Int):(if Rf.pollOk x number then { prog x with h:=number%16777216 } else prog x)=prog (Rf.poll x number)/\Ok (Rf.poll x number) lo hi:=by
 obtain ⟨b1,b2,b3⟩:=h.at_bd number
 unfold Rf.poll
 by_cases hp:Rf.pollOk x number=true
 ·rw [if_pos hp,if_pos hp]
  unfold Rf.pollOk at hp
  simp only [Bool.and_eq_true,decide_eq_true_eq] at hp
  refine ⟨by rw [<- b3];rfl,h.lo0,h.lor,h.rhi,h.hl,b1,hp.2,h.sum,h.win,h.nod,fun p hp2=>?_,h.glen,fun g hg=>?_⟩
  ·have:=h.keys p hp2
   simp only
   omega
  ·have:=h.gaps g hg
   simp only
   omega
 ·rw [if_neg hp,if_neg hp]
  exact ⟨rfl,h⟩
theorem Ok.renew (h:Ok x lo hi):Rv.renew (prog x)=prog (Rf.renew x)/\Ok (Rf.renew x) lo hi:=by
 have h2:=h.hm
 have h3:=h.sum
 have h4:=h.win
 have h5:=h.rh
 refine ⟨?_,h.lo0,h.lor,h.rhi,h.hl,h.rh,?_,?_,h.win,h.nod,h.keys,h.glen,h.gaps⟩
 ·unfold Rv.renew Rf.renew
  rw [show (prog x).mr=x.MR%16777216 from rfl,show (prog x).r=x.R%16777216 from rfl,show (prog x).window=x.window from rfl,show (prog x).inbox=x.inbox from rfl]
  show Rv.S.mk _ _ _ _ _ _ _=Rv.S.mk _ _ _ _ _ _ _
  congr 1
  show _=(max x.MR (x.R+x.window-(x.inbox.length:Int)))%16777216
  split <;> omega
 ·unfold Rf.renew;simp only;omega
 ·unfold Rf.renew;simp only;omega
theorem Ok.take (h:Ok x lo hi) (j:Nat):Ok { x with inbox:=x.inbox.drop j } lo hi:=
 ⟨h.lo0,h.lor,h.rhi,h.hl,h.rh,h.hm,by have:=h.sum;simp only [List.length_drop];omega,h.win,h.nod,h.keys,h.glen,h.gaps⟩
theorem filter_one (c:Int):∀ (l:List Int),l.Nodup->l.length<=(l.filter fun n=>decide (n ≠ c)).length+1
 |[],_=>by simp
 |n::l,h=>by
  obtain ⟨h1,h2⟩:=List.nodup_cons.1 h
  by_cases e:n=c
  ·subst e
   have:l.filter (fun m=>decide (m ≠ n))=l:=List.filter_eq_self.2 fun m hm=>by
    simp only [ne_eq,decide_eq_true_eq]
    intro e
    subst e
    exact h1 hm
   rw [List.filter_cons,if_neg (by simp),this]
   simp
  ·have:=filter_one c l h2
   simp only [List.filter_cons,ne_eq,e,not_false_eq_true,decide_true,if_true,List.length_cons]
   simp only [ne_eq] at this
   omega
theorem nodup_len (a:Int):∀ (k:Nat) (l:List Int),l.Nodup->(∀ n ∈ l,a<=n/\n<a+k)->l.length<=k
 |0,l,_,hb=>by
  cases l with
  |nil=>simp
  |cons n l =>
   have:=hb n (by simp)
   omega
 |k+1,l,h,hb=>by
  have h1:=filter_one (a+k) l h
  have h2:=nodup_len a k (l.filter fun n=>decide (n ≠ a+k)) (h.filter _) (fun n hn=>by
   obtain ⟨h3,h4⟩:=List.mem_filter.1 hn
   have:=hb n h3
   have h5:n ≠ a+k:=by simpa using h4
   omega)
  omega
theorem missing_rising (x:S):Sp.Rising (missing x):=by
 unfold missing Sp.Rising
 refine List.Pairwise.filter _ ?_
 rw [List.pairwise_map]
 exact List.pairwise_lt_range.imp fun h=>by omega
theorem mem_missing (x:S) (n:Int):n ∈ missing x ↔ x.R<=n/\n<x.H/\Rf.has x n=false:=by
 unfold missing
 rw [List.mem_filter,List.mem_map]
 constructor
 ·rintro ⟨⟨i,hi,rfl⟩,hn⟩
  have:=List.mem_range.1 hi
  exact ⟨by omega,by omega,by simpa using hn⟩
 ·rintro ⟨h1,h2,h3⟩
  exact ⟨⟨(n-x.R).toNat,List.mem_range.2 (by omega),by omega⟩,by simpa using h3⟩
theorem Ok.come (h:Ok x lo hi) (n:Int) (h1:0<=n) (h2:n<x.H-x.R):(∀ q ∈ (prog x).m,(q.1-(prog x).r)%16777216 ≠ n) ↔ Rf.has x (x.R+n)=false:=by
 have h3:=h.hm
 have h4:=h.sum
 have h5:=h.win
 unfold Rf.has
 rw [decide_eq_false_iff_not]
 constructor
 ·intro hq hm
  obtain ⟨p,hp,e⟩:=List.mem_map.1 hm
  refine hq (p.1%16777216,p.2) (List.mem_map.2 ⟨p,hp,rfl⟩) ?_
  simp only [prog]
  omega
 ·intro hn q hq e
  obtain ⟨p,hp,rfl⟩:=List.mem_map.1 hq
  refine hn (List.mem_map.2 ⟨p,hp,?_⟩)
  have:=h.near p hp
  simp only [prog] at e
  omega
theorem Ok.dist (h:Ok x lo hi):((prog x).h-(prog x).r)%16777216=x.H-x.R:=by
 have h2:=h.hm
 have h3:=h.sum
 have h4:=h.win
 have h5:=h.rh
 simp only [prog]
 omega
theorem Ok.miss (h:Ok x lo hi) {T:List (Int × Int)} (hm:Rv.Miss (prog x) T):missing x=(Sp.nums T).map (x.R + ·):=by
 refine Sp.Rising.uniq (missing_rising x) ?_ fun n=>?_
 ·unfold Sp.Rising
  rw [List.pairwise_map]
  exact (Sp.nums_rising T hm.1.1).imp fun h=>by omega
 ·rw [mem_missing,List.mem_map]
  constructor
  ·rintro ⟨h1,h2,h3⟩
   refine ⟨n-x.R,(Sp.mem_nums _ _).2 ((hm.2 _).2 ⟨by omega,by rw [h.dist];omega,(h.come _ (by omega) (by omega)).2 (by rw [show x.R+(n-x.R)=n by omega];exact h3)⟩),by omega⟩
  ·rintro ⟨k,hk,rfl⟩
   obtain ⟨k1,k2,k3⟩:=(hm.2 _).1 ((Sp.mem_nums _ _).1 hk)
   rw [h.dist] at k2
   exact ⟨by omega,by omega,(h.come k k1 k2).1 k3⟩
end
end Rf
namespace Rf
end Rf
namespace Rf
end Rf
end Go.Proofs.YtlbopdfobgjjaaaGreatDoor

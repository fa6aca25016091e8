/-
  An end that asks and one that is asked, over ways that lose, plain: what each unit makes of a connection, state by state. No program is named · Two ends over ways that lose, plain: what an end is on its way, and what each unit makes of it. No program is named · Two ends over ways that lose, plain: a calm end hears a POLL, and a STAT that answers one of its own. No program is named · Two ends over ways that lose, plain: a tick at each end. No program is named · Two ends that hear one another, plain: one unit goes from one to the other. No program is named · Two ends that hear one another, plain: the beginning. No program is named · Two ends over ways that lose, plain: each end on its way, and what each unit that may come makes of it. No program is named · Two ends over ways that lose, plain: a tick at each end on its way. No program is named · Two ends over ways that lose, plain: what eac.
-/
import Derived.Test.YtlbopdfobgjjaaaGreatDoorEnNc
import Derived.Test.YtlbopdfobgjjaaaGreatDoorEnZk
import Derived.Test.YtlbopdfobgjjaaaGreatDoorEnRq
import Derived.Test.YtlbopdfobgjjaaaGreatDoorOpen2
namespace Go.Proofs.YtlbopdfobgjjaaaGreatDoor
set_option maxRecDepth 20000
namespace Su
open Cn (S Pd SR)
def ca (k cr st cc n:Int):S:=⟨k,cr,st,1,-1,cc,n,Cn.no⟩
def cb (k cr st n:Int):S:=⟨k,cr,st,0,1,0,n,Cn.no⟩
def fin (sq:Int):Pd:=⟨3,sq,0,0,0,none,0,0,true,Cn.no⟩
def ack (sq:Int):Pd:=⟨4,sq,0,0,0,none,0,0,false,Cn.no⟩
def rej:Pd:=⟨7,1,0,0,0,none,0,0,false,Cn.no⟩
def bgn (n:Int):Pd:=⟨1,1,n,0,0,none,0,0,false,Cn.no⟩
def bgak (n:Int):Pd:=⟨2,1,n,0,0,none,0,0,false,Cn.no⟩
def said (l:List Cn.Sig) (us:List Pd):Cn.R:=⟨l,us,false,false,0,0⟩
def let_ (c:Int):Cn.Sig:=⟨12,Cn.no,false,c,0⟩
section
variable (k cr cc m sq n ps mr:Int) (lA:Option Addr) (ln lc:Nat) (self:Bool) (d:ByteArray)
-- who asked, Outgoing
theorem oBgak:Cn.hearS (ca k cr 2 cc m) ⟨2,1,n,ps,mr,lA,ln,lc,self,d⟩=(ca k cr 10 cc n,⟨[⟨2,Cn.no,false,0,0⟩],[],true,false,n,2⟩):=by kernel_rfl
theorem oRej:Cn.hearS (ca k cr 2 cc m) ⟨7,1,n,ps,mr,lA,ln,lc,self,d⟩=(ca k cr 1 cc m,⟨[⟨3,d,false,0,0⟩],[],false,false,0,2⟩):=by kernel_rfl
theorem oPoll:Cn.hearS (ca k cr 2 cc m) ⟨10,sq,n,ps,mr,lA,ln,lc,self,d⟩=(ca k cr 2 cc m,Cn.r0):=by kernel_rfl
theorem oEnd:Cn.hearS (ca k cr 2 cc m) ⟨3,sq,n,ps,mr,lA,ln,lc,self,d⟩=(ca k cr 2 cc m,Cn.r0):=by kernel_rfl
theorem oAck:Cn.hearS (ca k cr 2 cc m) ⟨4,sq,n,ps,mr,lA,ln,lc,self,d⟩=(ca k cr 2 cc m,Cn.r0):=by kernel_rfl
-- who asked, Ready
theorem rAck:Cn.hearS (ca k cr 10 cc m) ⟨4,sq,n,ps,mr,lA,ln,lc,self,d⟩=(ca k cr 1 cc m,⟨[let_ 70,⟨3,Cn.no,true,0,0⟩],[],false,true,0,2⟩):=by kernel_rfl
theorem rBgak:Cn.hearS (ca k cr 10 cc m) ⟨2,sq,n,ps,mr,lA,ln,lc,self,d⟩=(ca k cr 10 cc m,Cn.r0):=by kernel_rfl
theorem rRej:Cn.hearS (ca k cr 10 cc m) ⟨7,sq,n,ps,mr,lA,ln,lc,self,d⟩=(ca k cr 1 cc m,⟨[let_ 68,⟨3,Cn.no,true,0,0⟩],[],false,true,0,2⟩):=by kernel_rfl
theorem rEnd:Cn.hearS (ca k cr 10 cc m) ⟨3,sq,n,ps,mr,lA,ln,lc,self,d⟩=(ca k cr 1 cc m,⟨[⟨3,d,self,0,0⟩],[ack sq],false,true,0,2⟩):=by kernel_rfl
-- who asked, Idle
theorem iBgak:Cn.hearS (ca k cr 1 cc m) ⟨2,sq,n,ps,mr,lA,ln,lc,self,d⟩=(ca k cr 1 cc m,said [let_ 67] [fin 1]):=by kernel_rfl
theorem iRej:Cn.hearS (ca k cr 1 cc m) ⟨7,sq,n,ps,mr,lA,ln,lc,self,d⟩=(ca k cr 1 cc m,said [let_ 68] []):=by kernel_rfl
theorem iPoll:Cn.hearS (ca k cr 1 cc m) ⟨10,sq,n,ps,mr,lA,ln,lc,self,d⟩=(ca k cr 1 cc m,said [let_ 71] [fin 1]):=by kernel_rfl
theorem iEnd:Cn.hearS (ca k cr 1 cc m) ⟨3,sq,n,ps,mr,lA,ln,lc,self,d⟩=(ca k cr 1 cc m,said [] [ack sq]):=by kernel_rfl
theorem iAck:Cn.hearS (ca k cr 1 cc m) ⟨4,sq,n,ps,mr,lA,ln,lc,self,d⟩=(ca k cr 1 cc m,Cn.r0):=by kernel_rfl
-- who is asked, new, and as it accepts
theorem nBgn:Cn.hearS (Cn.new k cr) ⟨1,1,n,ps,mr,lA,ln,lc,self,d⟩=(cb (max 1 (min k 16)) (cr%16777216) 3 n,said [⟨1,d,false,0,0⟩] []):=by kernel_rfl
theorem nAcc:Cn.askS (cb k cr 3 m) 2 Cn.no=(cb k cr 10 m,⟨[],[bgak cr],true,false,m,2⟩):=by kernel_rfl
-- who is asked, Ready
theorem yBgn:Cn.hearS (cb k cr 10 m) ⟨1,1,n,ps,mr,lA,ln,lc,self,d⟩=(cb k cr 10 m,said [] [bgak cr]):=by kernel_rfl
theorem ySilent:Cn.silentS (cb k cr 10 m)=(cb k cr 1 m,⟨[let_ 80,⟨3,Cn.no,true,0,0⟩],[fin 0],false,true,0,0⟩):=by kernel_rfl
-- who is asked, Idle again
theorem jBgn:Cn.hearS (cb k cr 1 m) ⟨1,1,n,ps,mr,lA,ln,lc,self,d⟩=(cb k cr 1 m,said [] [rej]):=by kernel_rfl
theorem jPoll:Cn.hearS (cb k cr 1 m) ⟨10,sq,n,ps,mr,lA,ln,lc,self,d⟩=(cb k cr 1 m,said [let_ 71] [fin 0]):=by kernel_rfl
theorem jStat:Cn.hearS (cb k cr 1 m) ⟨11,sq,n,ps,mr,lA,ln,lc,self,d⟩=(cb k cr 1 m,said [let_ 72] [fin 0]):=by kernel_rfl
theorem jEnd:Cn.hearS (cb k cr 1 m) ⟨3,sq,n,ps,mr,lA,ln,lc,self,d⟩=(cb k cr 1 m,said [] [ack sq]):=by kernel_rfl
theorem jAck:Cn.hearS (cb k cr 1 m) ⟨4,sq,n,ps,mr,lA,ln,lc,self,d⟩=(cb k cr 1 m,Cn.r0):=by kernel_rfl
-- who asked: its timers
theorem rSilent:Cn.silentS (ca k cr 10 cc m)=(ca k cr 1 cc m,⟨[let_ 80,⟨3,Cn.no,true,0,0⟩],[fin 1],false,true,0,0⟩):=by kernel_rfl
theorem oExpire (h:cc<k):Cn.expireS (ca k cr 2 cc m)=(ca k cr 2 (cc+1) m,⟨[],[bgn cr],false,false,0,1⟩):=by
 unfold Cn.expireS Cn.expire
 rw [if_pos (by left;rfl)]
 show (if cc<k then _ else _)=_
 rw [if_pos h]
 rfl
end
end Su
set_option maxRecDepth 20000
namespace Su
open Cn (S Pd SR)
open En (X)
def sn (c:Nd.C) (M i j:Int):Sf.S:={ Sf.new c.start c.queue c.polls with ms:=M,ps:=c.start%16777216+j,pa:=c.start%16777216+i }
def rn (c:Nd.C):Rf.S:=Rf.new c.start c.window
def off (c:Nd.C) (cn:S) (tm:List Int) (ctl:List Pd) (q:Int):X:=⟨c,cn,tm,ctl,[],[],false,false,q,false,none⟩
def on (c:Nd.C) (cn:S) (tm:List Int) (ctl:List Pd) (pl st:Bool) (q M i j:Int):X:=⟨c,cn,tm,ctl,[],[],pl,st,q,false,some (sn c M i j,rn c)⟩
theorem off_new (c:Nd.C):En.new c=off c (Cn.new c.most ((c.start+c.window)%16777216)) [0,0,0,0,0] [] 0:=rfl
theorem off_hears {c:Nd.C} {cn s:S} {tm:List Int} {ctl us:List Pd} {q:Int} {sg:List Cn.Sig} {u:Pd} {l:List Int} (h1:u.kind ≠ 13) (h2:u.kind ≠ 14) (hh:Cn.hearS cn u=(s,said sg us)):En.receive (off c cn tm ctl q) u l=(off c s tm (En.ctls ctl us) q,sg):=by
 have e:En.hear (off c cn tm ctl q) u l=(off c s tm (En.ctls ctl us) q,sg):=by
  unfold En.hear
  rw [if_neg h1,if_neg h2]
  show En.brought (off c cn tm ctl q) (Cn.hearS cn u)=_
  rw [hh]
  rfl
 unfold En.receive
 rw [e]
 rfl
theorem off_stops {c:Nd.C} {cn s:S} {tm:List Int} {ctl us:List Pd} {q:Int} {sg:List Cn.Sig} {u:Pd} {l:List Int} (h1:u.kind ≠ 13) (h2:u.kind ≠ 14) (hh:Cn.hearS cn u=(s,⟨sg,us,false,false,0,2⟩)):En.receive (off c cn tm ctl q) u l=(off c s (Tm.stop tm 0) (En.ctls ctl us) q,sg):=by
 have e:En.hear (off c cn tm ctl q) u l=(off c s (Tm.stop tm 0) (En.ctls ctl us) q,sg):=by
  unfold En.hear
  rw [if_neg h1,if_neg h2]
  show En.brought (off c cn tm ctl q) (Cn.hearS cn u)=_
  rw [hh]
  rfl
 unfold En.receive
 rw [e]
 rfl
theorem on_hears {c:Nd.C} {cn s:S} {tm:List Int} {ctl us:List Pd} {pl st:Bool} {q M i j:Int} {sg:List Cn.Sig} {u:Pd} {l:List Int} (h1:u.kind ≠ 13) (h2:u.kind ≠ 14) (h3:En.ofEp u.kind=false) (hh:Cn.hearS cn u=(s,said sg us)):En.receive (on c cn tm ctl pl st q M i j) u l=(on c s tm (En.ctls ctl us) pl st q M i j,sg):=by
 have e:En.hear (on c cn tm ctl pl st q M i j) u l=(on c s tm (En.ctls ctl us) pl st q M i j,sg):=by
  unfold En.hear
  rw [if_neg h1,if_neg h2]
  show (if En.ofEp u.kind=true then _ else En.brought (on c cn tm ctl pl st q M i j) (Cn.hearS cn u))=_
  rw [h3,hh]
  rfl
 unfold En.receive
 rw [e]
 rfl
theorem on_ends {c:Nd.C} {cn s:S} {tm:List Int} {ctl us:List Pd} {pl st:Bool} {q M i j:Int} {sg:List Cn.Sig} {u:Pd} {l:List Int} (h1:u.kind ≠ 13) (h2:u.kind ≠ 14) (h3:En.ofEp u.kind=false) (hh:Cn.hearS cn u=(s,⟨sg,us,false,true,0,2⟩)):En.receive (on c cn tm ctl pl st q M i j) u l=(off c s (Pc.end_ (Tm.stop tm 0)) (En.ctls ctl us) q,sg):=by
 have e:En.hear (on c cn tm ctl pl st q M i j) u l=(off c s (Pc.end_ (Tm.stop tm 0)) (En.ctls ctl us) q,sg):=by
  unfold En.hear
  rw [if_neg h1,if_neg h2]
  show (if En.ofEp u.kind=true then _ else En.brought (on c cn tm ctl pl st q M i j) (Cn.hearS cn u))=_
  rw [h3,hh]
  rfl
 unfold En.receive
 rw [e]
 rfl
theorem epoch_sn (c:Nd.C) (n:Int):∃ M,c.start%16777216<=M/\M<=c.start%16777216+8388608/\En.epoch c n=(sn c M 0 0,rn c):=by
 have e0:∀ M,({ Sf.new c.start c.queue c.polls with ms:=M }:Sf.S)=sn c M 0 0:=fun M=>by
  unfold sn Sf.new
  simp
 unfold En.epoch Sf.opn
 split
 ·rename_i h
  refine ⟨_,?_,?_,by rw [e0];rfl⟩
  ·exact h.2
  ·have h1:(n-c.start%16777216)%16777216<=8388608:=h.1
   show Sf.at_ _ _<=_
   unfold Sf.at_
   show c.start%16777216+(n-c.start%16777216)%16777216<=_
   omega
 ·refine ⟨c.start%16777216,Int.le_refl _,by omega,?_⟩
  have:=e0 (c.start%16777216)
  rw [<- this]
  rfl
theorem off_begins {c:Nd.C} {cn s:S} {tm:List Int} {ctl us:List Pd} {q n:Int} {sg:List Cn.Sig} {u:Pd} {l:List Int} (h1:u.kind ≠ 13) (h2:u.kind ≠ 14) (hh:Cn.hearS cn u=(s,⟨sg,us,true,false,n,2⟩)):∃ M,c.start%16777216<=M/\M<=c.start%16777216+8388608/\En.receive (off c cn tm ctl q) u l=(on c s (Pc.begin_ (Tm.stop tm 0) c.poll c.silent) (En.ctls ctl us) false false q M 0 0,sg):=by
 obtain ⟨M,m1,m2,hM⟩:=epoch_sn c n
 refine ⟨M,m1,m2,?_⟩
 have e:En.hear (off c cn tm ctl q) u l=(on c s (Pc.begin_ (Tm.stop tm 0) c.poll c.silent) (En.ctls ctl us) false false q M 0 0,sg):=by
  unfold En.hear
  rw [if_neg h1,if_neg h2]
  show En.brought (off c cn tm ctl q) (Cn.hearS cn u)=_
  rw [hh]
  show (({ (off c s (Pc.begin_ (Tm.stop tm 0) c.poll c.silent) (En.ctls ctl us) q) with ep:=some (En.epoch c n) }:X),sg)=_
  rw [hM]
  rfl
 unfold En.receive
 rw [e]
 rfl
theorem renew_rn (c:Nd.C):Rf.renew (rn c)=rn c:=by
 unfold Rf.renew rn Rf.new
 simp
theorem pairs_rn (c:Nd.C):En.pairs (rn c)=[]:=by
 have h:Rf.missing (rn c)=[]:=by
  unfold Rf.missing rn Rf.new
  simp
 unfold En.pairs En.spansOf
 rw [h]
 rfl
theorem nextn_stat (c:Nd.C) (cn:S) (tm:List Int) (pl:Bool) (q M i j:Int):∃ mr,(0<=mr/\mr<16777216)/\En.next (on c cn tm [] pl true q M i j)=(on c cn tm [] pl false q M i j,some (En.numed 11 (c.start%16777216) q mr Cn.no,[])):=by
 refine ⟨(rn c).MR%16777216,by omega,?_⟩
 unfold En.next
 show (({ (on c cn tm [] pl false q M i j) with ep:=some (sn c M i j,Rf.renew (rn c)) }:X),some (En.numed 11 ((Rf.renew (rn c)).R%16777216) q ((Rf.renew (rn c)).MR%16777216) Cn.no,En.pairs (Rf.renew (rn c))))=_
 rw [renew_rn,pairs_rn]
 show (_,some (En.numed 11 (c.start%16777216%16777216) q _ _,_))=_
 rw [Int.emod_emod_of_dvd _ (Int.dvd_refl _)]
 rfl
theorem nextn_poll (c:Nd.C) (cn:S) (tm:List Int) (q M i j:Int):En.next (on c cn tm [] true false q M i j)=(on c cn (Pc.polled tm c.poll c.keep c.silent true) [] false false q M i (j+1),some (En.numed 10 (c.start%16777216) ((c.start%16777216+(j+1))%16777216) 0 Cn.no,[])):=by
 have e1:Sf.poll (sn c M i j)=sn c M i (j+1):=by
  unfold Sf.poll sn Sf.new
  simp [Int.add_assoc]
 unfold En.next
 show (({ (on c cn (Pc.polled tm c.poll c.keep c.silent true) [] false false q M i j) with ep:=some (Sf.poll (sn c M i j),rn c) }:X),some (En.numed 10 (c.start%16777216%16777216) ((c.start%16777216+j+1)%16777216) 0 Cn.no,([]:List Int)))=_
 rw [e1,Int.emod_emod_of_dvd _ (Int.dvd_refl _),Int.add_assoc]
 rfl
theorem nextn_no (c:Nd.C) (cn:S) (tm:List Int) (q M i j:Int):En.next (on c cn tm [] false false q M i j)=(on c cn tm [] false false q M i j,none):=by
 have h:decide ((sn c M i j).polls<=(sn c M i j).units)=false:=by
  show decide (max 1 (min c.polls 256)<=0)=false
  exact decide_eq_false (by omega)
 unfold En.next
 show (if (false || decide ((sn c M i j).polls<=(sn c M i j).units))=true then _ else _)=_
 rw [h]
 rfl
end Su
set_option maxRecDepth 20000
namespace Su
open Cn (S Pd SR)
open En (X)
theorem on_poll {c:Nd.C} {cn:S} {tm:List Int} {ctl:List Pd} {pl st:Bool} {q M i j:Int} {u:Pd} {l:List Int} (hk:u.kind=10) (hn:u.n=c.start%16777216):En.receive (on c cn tm ctl pl st q M i j) u l=(on c cn tm ctl pl true u.ps M i j,[]):=by
 have h1:Rf.at_ (rn c) u.n=(rn c).R:=by
  unfold Rf.at_
  rw [hn]
  show c.start%16777216+(c.start%16777216-c.start%16777216)%16777216=c.start%16777216
  omega
 have h2:Rf.pollOk (rn c) u.n=true:=by
  unfold Rf.pollOk
  rw [h1,Bool.and_eq_true,decide_eq_true_eq,decide_eq_true_eq]
  refine ⟨Int.le_refl _,?_⟩
  show c.start%16777216<=c.start%16777216+max 1 (min c.window 64)
  omega
 have h3:Rf.poll (rn c) u.n=rn c:=by
  unfold Rf.poll
  rw [if_pos h2,h1]
  rfl
 have e:En.hear (on c cn tm ctl pl st q M i j) u l=(on c cn tm ctl pl true u.ps M i j,[]):=by
  unfold En.hear
  rw [if_neg (by omega),if_neg (by omega)]
  show (if En.ofEp u.kind=true then En.transfer (on c cn tm ctl pl st q M i j) (sn c M i j,rn c) u l else _)=_
  rw [if_pos (by rw [hk];decide)]
  unfold En.transfer
  rw [if_neg (by omega),if_pos hk,if_pos h2,h3]
  rfl
 unfold En.receive
 rw [e]
 rfl
theorem stat_sn (c:Nd.C) (M i j t mr n ps:Int) (hn:n=c.start%16777216) (hp:ps=(c.start%16777216+t)%16777216) (h0:i<=t) (h1:t<=j) (h2:j-i<16777216) (hM:c.start%16777216<=M/\M<=c.start%16777216+8388608):∃ M',(c.start%16777216<=M'/\M'<=c.start%16777216+8388608)/\Sf.stat (sn c M i j) n mr ps []=(sn c M' t j,0,0):=by
 have ha:Sf.at_ (sn c M i j) n=c.start%16777216:=by
  unfold Sf.at_
  rw [hn]
  show c.start%16777216+(c.start%16777216-c.start%16777216)%16777216=c.start%16777216
  omega
 have hq:Sf.pollAt (sn c M i j) ps=c.start%16777216+t:=by
  unfold Sf.pollAt
  rw [hp]
  show c.start%16777216+i+((c.start%16777216+t)%16777216-(c.start%16777216+i))%16777216=_
  omega
 have hto:Sf.toldOk (sn c M i j) n []=true:=by
  unfold Sf.toldOk
  rw [ha]
  have hb:((sn c M i j).s-c.start%16777216)%16777216<=8388608:=by
   show (c.start%16777216-c.start%16777216)%16777216<=_
   omega
  simp only [Gp.okSet,Gp.ats,Gp.up,List.map_nil,List.length_nil,hb,decide_true,Bool.and_true,Nat.zero_mod,Bool.and_self,decide_eq_true_eq]
  exact Int.le_refl _
 obtain ⟨M',hM',ho⟩:∃ M',(c.start%16777216<=M'/\M'<=c.start%16777216+8388608)/\Sf.opn ({ Sf.ack (sn c M i j) (c.start%16777216) with pa:=c.start%16777216+t }:Sf.S) mr=sn c M' t j:=by
  have e0:∀ K,({ Sf.ack (sn c M i j) (c.start%16777216) with pa:=c.start%16777216+t,ms:=K }:Sf.S)=sn c K t j:=fun K=>by
   unfold Sf.ack sn Sf.new
   simp
  unfold Sf.opn
  split
  ·rename_i h
   refine ⟨_,⟨?_,?_⟩,e0 _⟩
   ·exact Int.le_trans hM.1 h.2
   ·have h1:(mr-c.start%16777216)%16777216<=8388608:=h.1
    unfold Sf.at_
    show c.start%16777216+(mr-c.start%16777216)%16777216<=_
    omega
  ·exact ⟨M,hM,e0 M⟩
 refine ⟨M',hM',?_⟩
 unfold Sf.stat
 rw [hq,if_neg (by show ¬ (c.start%16777216+j<_);omega),hto,ha]
 simp only [Bool.true_eq_false,if_false]
 rw [ho]
 have ht:Sf.told (sn c M i j) (c.start%16777216) []=[]:=rfl
 rw [ht]
 have hm:Sf.nums (sn c M' t j)=[]:=by
  unfold Sf.nums
  show (List.range (c.start%16777216-c.start%16777216).toNat).map _=[]
  simp
 unfold Sf.rep Sf.merge
 rw [hm]
 rfl
theorem on_stat {c:Nd.C} {cn:S} {tm:List Int} {ctl:List Pd} {pl st:Bool} {q M i j t:Int} {u:Pd} (hk:u.kind=11) (hn:u.n=c.start%16777216) (hp:u.ps=(c.start%16777216+t)%16777216) (h0:i<=t) (h1:t<=j) (h2:j-i<16777216) (hM:c.start%16777216<=M/\M<=c.start%16777216+8388608):∃ M',(c.start%16777216<=M'/\M'<=c.start%16777216+8388608)/\En.receive (on c cn tm ctl pl st q M i j) u []=(on c cn (Pc.answered tm c.silent c.idle true) ctl pl st q M' t j,[]):=by
 obtain ⟨M',hM',hs⟩:=stat_sn c M i j t u.mr u.n u.ps hn hp h0 h1 h2 hM
 refine ⟨M',hM',?_⟩
 have e:En.hear (on c cn tm ctl pl st q M i j) u []=(on c cn (Pc.answered tm c.silent c.idle true) ctl pl st q M' t j,[]):=by
  unfold En.hear
  rw [if_neg (by omega),if_neg (by omega)]
  show (if En.ofEp u.kind=true then En.transfer (on c cn tm ctl pl st q M i j) (sn c M i j,rn c) u [] else _)=_
  rw [if_pos (by rw [hk];decide)]
  unfold En.transfer
  rw [if_neg (by omega),if_neg (by omega),if_pos hk]
  dsimp only
  rw [hs]
  rfl
 unfold En.receive
 rw [e]
 rfl
end Su
set_option maxRecDepth 20000
namespace Su
open Cn (S Pd SR)
open En (X)
theorem over_0 (a b k d e:Int) (h:a ≠ 1):Tm.over [a,b,k,d,e]=(if b=1 then [1] else [])++(if k=1 then [2] else [])++(if d=1 then [3] else [])++(if e=1 then [4] else []):=by
 unfold Tm.over Tm.overTo
 have aux:∀ x:Int,((x==1)=true/\x=1)\/((x==1)=false/\x ≠ 1):=fun x=>by
  by_cases hx:x=1
  ·exact .inl ⟨by rw [hx];rfl,hx⟩
  ·exact .inr ⟨beq_false_of_ne hx,hx⟩
 have e0:(a==1)=false:=beq_false_of_ne h
 rcases aux b with ⟨e1,h1⟩ | ⟨e1,h1⟩ <;> rcases aux k with ⟨e2,h2⟩ | ⟨e2,h2⟩ <;> rcases aux d with ⟨e3,h3⟩ | ⟨e3,h3⟩ <;> rcases aux e with ⟨e4,h4⟩ | ⟨e4,h4⟩ <;> simp [List.range_succ,List.filter,e0,e1,e2,e3,e4,h1,h2,h3,h4]
theorem tick_silent {c:Nd.C} {cn s:S} {b k e:Int} {ctl us:List Pd} {pl st:Bool} {q M i j:Int} {sg:List Cn.Sig} (hs:Cn.silentS cn=(s,⟨sg,us,false,true,0,0⟩)):En.tick (on c cn [0,b,k,1,e] ctl pl st q M i j)=(off c s (Pc.end_ (Tm.tick [0,b,k,1,e])) (En.ctls ctl us) q,sg):=by
 have hd:∀ (l:List Int) (pl:Bool) (sg0:List Cn.Sig),(∀ t ∈ l,t=1\/t=2\/t=4)->∀ tm,∃ pl',∀ r,En.dues (l++r) (on c cn tm ctl pl st q M i j,sg0)=En.dues r (on c cn tm ctl pl' st q M i j,sg0):=by
  intro l
  induction l with
  |nil=>exact fun pl _ _ _=>⟨pl,fun _=>rfl⟩
  |cons t l ih =>
   intro pl sg0 hl tm
   obtain ⟨pl',h⟩:=ih true sg0 (fun t ht=>hl t (List.mem_cons_of_mem _ ht)) tm
   refine ⟨pl',fun r=>?_⟩
   rw [<- h r]
   have h1:=hl t List.mem_cons_self
   show En.dues (l++r) ((En.due (on c cn tm ctl pl st q M i j) t).1,sg0++(En.due (on c cn tm ctl pl st q M i j) t).2)=_
   have e:En.due (on c cn tm ctl pl st q M i j) t=(on c cn tm ctl true st q M i j,[]):=by
    unfold En.due
    rw [if_neg (by omega),if_neg (by omega)]
    cases pl <;> rfl
   rw [e,List.append_nil]
 have ho:∀ (l:List Int) (y:X) (sg0:List Cn.Sig),(∀ t ∈ l,t=1\/t=2\/t=4)->y.ep=none->y.poll=false->En.dues l (y,sg0)=(y,sg0):=by
  intro l
  induction l with
  |nil=>exact fun _ _ _ _ _=>rfl
  |cons t l ih =>
   intro y sg0 hl h1 h2
   have h3:=hl t List.mem_cons_self
   show En.dues l ((En.due y t).1,sg0++(En.due y t).2)=_
   have e:En.due y t=(y,[]):=by
    unfold En.due
    rw [if_neg (by omega),if_neg (by omega)]
    cases y
    dsimp only at h1 h2
    subst h1 h2
    rfl
   rw [e,List.append_nil]
   exact ih y sg0 (fun t ht=>hl t (List.mem_cons_of_mem _ ht)) h1 h2
 have hov:=over_0 0 b k 1 e (by decide)
 rw [if_pos rfl] at hov
 obtain ⟨pl',h1⟩:=hd ((if b=1 then [1] else [])++(if k=1 then [2] else [])) pl [] (by intro t ht;rw [List.mem_append] at ht;rcases ht with ht | ht <;> split at ht <;> simp at ht <;> omega) (Tm.tick [0,b,k,1,e])
 have h2:En.due (on c cn (Tm.tick [0,b,k,1,e]) ctl pl' st q M i j) 3=(off c s (Pc.end_ (Tm.tick [0,b,k,1,e])) (En.ctls ctl us) q,sg):=by
  unfold En.due
  rw [if_neg (by decide),if_pos rfl]
  show En.brought (on c cn _ ctl pl' st q M i j) (Cn.silentS cn)=_
  rw [hs]
  rfl
 unfold En.tick
 show En.credit (En.dues (Tm.over [0,b,k,1,e]) (on c cn (Tm.tick [0,b,k,1,e]) ctl pl st q M i j,[])).1 (En.dues (Tm.over [0,b,k,1,e]) (on c cn (Tm.tick [0,b,k,1,e]) ctl pl st q M i j,[])).2=_
 rw [hov,List.append_assoc,List.append_assoc,<- List.append_assoc,h1]
 show En.credit (En.dues (3::(if e=1 then [4] else [])) _).1 (En.dues (3::(if e=1 then [4] else [])) _).2=_
 have h3:En.dues (3::(if e=1 then [4] else [])) (on c cn (Tm.tick [0,b,k,1,e]) ctl pl' st q M i j,[])=(off c s (Pc.end_ (Tm.tick [0,b,k,1,e])) (En.ctls ctl us) q,sg):=by
  show En.dues (if e=1 then [4] else []) ((En.due _ 3).1,[]++(En.due _ 3).2)=_
  rw [h2,List.nil_append]
  exact ho _ _ _ (by intro t ht;split at ht <;> simp at ht;omega) rfl rfl
 rw [h3]
 rfl
theorem tick_on {c:Nd.C} {cn:S} {b k d e:Int} {ctl:List Pd} {pl st:Bool} {q M i j:Int} (hd:d ≠ 1):∃ pl',En.tick (on c cn [0,b,k,d,e] ctl pl st q M i j)=(on c cn (Tm.tick [0,b,k,d,e]) ctl pl' st q M i j,[]):=by
 have hl:∀ (l:List Int) (pl:Bool),(∀ t ∈ l,t=1\/t=2\/t=4)->∀ tm,∃ pl',En.dues l (on c cn tm ctl pl st q M i j,[])=(on c cn tm ctl pl' st q M i j,[]):=by
  intro l
  induction l with
  |nil=>exact fun pl _ _=>⟨pl,rfl⟩
  |cons t l ih =>
   intro pl hl tm
   obtain ⟨pl',h⟩:=ih true (fun t ht=>hl t (List.mem_cons_of_mem _ ht)) tm
   refine ⟨pl',?_⟩
   rw [<- h]
   have h1:=hl t List.mem_cons_self
   show En.dues l ((En.due (on c cn tm ctl pl st q M i j) t).1,[]++(En.due (on c cn tm ctl pl st q M i j) t).2)=_
   have e:En.due (on c cn tm ctl pl st q M i j) t=(on c cn tm ctl true st q M i j,[]):=by
    unfold En.due
    rw [if_neg (by omega),if_neg (by omega)]
    cases pl <;> rfl
   rw [e]
   rfl
 have hov:=over_0 0 b k d e (by decide)
 rw [if_neg hd,List.append_nil] at hov
 obtain ⟨pl',h⟩:=hl ((if b=1 then [1] else [])++(if k=1 then [2] else [])++(if e=1 then [4] else [])) pl (by intro t ht;rw [List.mem_append,List.mem_append] at ht;rcases ht with (ht | ht) | ht <;> split at ht <;> simp at ht <;> omega) (Tm.tick [0,b,k,d,e])
 refine ⟨pl',?_⟩
 unfold En.tick
 show En.credit (En.dues (Tm.over [0,b,k,d,e]) (on c cn (Tm.tick [0,b,k,d,e]) ctl pl st q M i j,[])).1 (En.dues (Tm.over [0,b,k,d,e]) (on c cn (Tm.tick [0,b,k,d,e]) ctl pl st q M i j,[])).2=_
 rw [hov,h]
 rfl
theorem tick_out {c:Nd.C} {k cr cc m t:Int} {ctl:List Pd} {q:Int} (ht:t ≠ 1):En.tick (off c (ca k cr 2 cc m) [t,0,0,0,0] ctl q)=(off c (ca k cr 2 cc m) (Tm.tick [t,0,0,0,0]) ctl q,[]):=by
 have hov:=over_0 t 0 0 0 0 ht
 unfold En.tick
 show En.credit (En.dues (Tm.over [t,0,0,0,0]) (off c (ca k cr 2 cc m) (Tm.tick [t,0,0,0,0]) ctl q,[])).1 (En.dues (Tm.over [t,0,0,0,0]) (off c (ca k cr 2 cc m) (Tm.tick [t,0,0,0,0]) ctl q,[])).2=_
 rw [hov]
 rfl
theorem tick_again {c:Nd.C} {k cr cc m:Int} {ctl:List Pd} {q:Int} (h:cc<k):En.tick (off c (ca k cr 2 cc m) [1,0,0,0,0] ctl q)=(off c (ca k cr 2 (cc+1) m) (Tm.start [0,0,0,0,0] 0 c.cc) (En.ctls ctl [bgn cr]) q,[]):=by
 have hov:Tm.over [1,0,0,0,0]=[0]:=by decide
 have hd:En.due (off c (ca k cr 2 cc m) (Tm.tick [1,0,0,0,0]) ctl q) 0=(off c (ca k cr 2 (cc+1) m) (Tm.start [0,0,0,0,0] 0 c.cc) (En.ctls ctl [bgn cr]) q,[]):=by
  unfold En.due
  rw [if_pos rfl]
  show En.brought (off c (ca k cr 2 cc m) _ ctl q) (Cn.expireS (ca k cr 2 cc m))=_
  rw [oExpire k cr cc m h]
  rfl
 unfold En.tick
 show En.credit (En.dues (Tm.over [1,0,0,0,0]) (off c (ca k cr 2 cc m) (Tm.tick [1,0,0,0,0]) ctl q,[])).1 (En.dues (Tm.over [1,0,0,0,0]) (off c (ca k cr 2 cc m) (Tm.tick [1,0,0,0,0]) ctl q,[])).2=_
 rw [hov]
 show En.credit (En.due (off c (ca k cr 2 cc m) (Tm.tick [1,0,0,0,0]) ctl q) 0).1 ([]++(En.due (off c (ca k cr 2 cc m) (Tm.tick [1,0,0,0,0]) ctl q) 0).2)=_
 rw [hd]
 rfl
theorem tick_off {c:Nd.C} {cn:S} {ctl:List Pd} {q:Int}:En.tick (off c cn [0,0,0,0,0] ctl q)=(off c cn [0,0,0,0,0] ctl q,[]):=rfl
end Su
namespace Pr
open En (X)
theorem clamp41 {c:Int} (h:1<=c/\c<=41):max 1 (min c 1048576)=c:=by omega
def Good (c:Nd.C):Prop:=GoodC c.cc c.poll c.keep c.silent c.idle
end Pr
namespace Pr
open En (X)
theorem askE (c:Nd.C):En.request (En.new c) 1 Cn.no 0=(⟨c,⟨max 1 (min c.most 16),(c.start+c.window)%16777216%16777216,2,1,-1,1,(c.start+c.window)%16777216%16777216,Cn.no⟩,Tm.start [0,0,0,0,0] 0 c.cc,[⟨1,1,(c.start+c.window)%16777216%16777216,0,0,none,0,0,false,Cn.no⟩],[],[],false,false,0,false,none⟩,[],0):=by
 kernel_rfl
theorem begin_eq {c:Nd.C} (hG:Good c) (a b k d e:Int):Pc.begin_ [a,b,k,d,e] c.poll c.silent=[a,c.poll,0,c.silent,0]:=by
 simp [Pc.begin_,Pc.end_,Pc.watch,Pc.stops,Tm.stop,Tm.start,Tm.left,clamp41 hG.2.1,clamp41 hG.2.2.2.1]
end Pr
set_option maxRecDepth 20000
namespace Su
open Cn (S Pd SR)
open En (X)
theorem mem_ctls {P:Pd->Prop}:∀ (us l:List Pd),(∀ u ∈ l,P u)->(∀ u ∈ us,P u)->∀ u ∈ En.ctls l us,P u:=by
 intro us
 induction us with
 |nil=>exact fun l hl _=>hl
 |cons v us ih =>
  intro l hl hu
  refine ih (En.ctl1 l v) (fun u h=>?_) (fun u h=>hu u (List.mem_cons_of_mem _ h))
  unfold En.ctl1 at h
  rcases List.mem_append.1 h with h | h
  ·exact hl u (List.mem_filter.1 h).1
  ·rw [List.mem_singleton.1 h]
   exact hu v List.mem_cons_self
structure Ct (P:Pd->Prop) (l:List Pd):Prop where
 all:∀ u ∈ l,P u
 nd:(l.map (·.kind)).Nodup
section
variable {P Q:Pd->Prop} {l us:List Pd} {u:Pd}
theorem Ct.nil:Ct P []:=⟨fun u h=>(by cases h),List.nodup_nil⟩
theorem nd_ctls:∀ (us l:List Pd),(l.map (·.kind)).Nodup->((En.ctls l us).map (·.kind)).Nodup:=by
 intro us
 induction us with
 |nil=>exact fun l h=>h
 |cons v us ih=>exact fun l h=>ih _ (En.ctl1_nd h)
theorem Ct.ctls (h:Ct P l) (hu:∀ u ∈ us,P u):Ct P (En.ctls l us):=⟨mem_ctls us l h.all hu,nd_ctls us l h.nd⟩
theorem Ct.one (h:Ct P l) (hu:P u):Ct P (En.ctls l [u]):=h.ctls fun v hv=>by rw [List.mem_singleton.1 hv];exact hu
theorem Ct.imp (h:Ct P l) (hi:∀ u,P u->Q u):Ct Q l:=⟨fun u hu=>hi u (h.all u hu),h.nd⟩
theorem Ct.tail (h:Ct P (u::l)):Ct P l:=⟨fun v hv=>h.all v (List.mem_cons_of_mem _ hv),(List.nodup_cons.1 h.nd).2⟩
theorem Ct.head (h:Ct P (u::l)):P u:=h.all u List.mem_cons_self
end
def PA (cr:Int) (u:Pd):Prop:=u=bgn cr\/u=fin 1\/u=ack 0
def PB (cr:Int) (u:Pd):Prop:=u=bgak cr\/u=fin 0\/u=rej\/u=ack 1
def TA (u:Pd):Prop:=(u.kind=2/\u.sq=1)\/(u.kind=3/\u.sq=0)\/u.kind=4\/(u.kind=7/\u.sq=1)\/u.kind=10
def TB (u:Pd):Prop:=(u.kind=1/\u.sq=1)\/(u.kind=3/\u.sq=1)\/u.kind=4\/u.kind=10\/u.kind=11
def Mb (c:Nd.C) (M:Int):Prop:=c.start%16777216<=M/\M<=c.start%16777216+8388608
inductive AO (c:Nd.C) (cr cc t:Int):X->Prop
 |mk {m:Int} {ctl:List Pd} (h:Ct (fun u=>u=bgn cr) ctl):AO c cr cc t (off c (ca 16 cr 2 cc m) [t,0,0,0,0] ctl 0)
inductive AR (c:Nd.C) (cr d i j:Int):X->Prop
 |mk {cc m b k e q M:Int} {ctl:List Pd} {pl st:Bool} (h:Ct (fun u=>u=bgn cr) ctl) (hM:Mb c M) (hq:0<=q/\q<16777216):AR c cr d i j (on c (ca 16 cr 10 cc m) [0,b,k,d,e] ctl pl st q M i j)
inductive AI (c:Nd.C) (cr:Int):X->Prop
 |mk {cc m q:Int} {ctl:List Pd} (h:Ct (PA cr) ctl):AI c cr (off c (ca 16 cr 1 cc m) [0,0,0,0,0] ctl q)
inductive BR (c:Nd.C) (cr d i j:Int):X->Prop
 |mk {m b k e q M:Int} {ctl:List Pd} {pl st:Bool} (h:Ct (fun u=>u=bgak cr) ctl) (hM:Mb c M):BR c cr d i j (on c (cb 16 cr 10 m) [0,b,k,d,e] ctl pl st q M i j)
inductive BI (c:Nd.C) (cr:Int):X->Prop
 |mk {m q:Int} {ctl:List Pd} (h:Ct (PB cr) ctl):BI c cr (off c (cb 16 cr 1 m) [0,0,0,0,0] ctl q)
section
variable {c:Nd.C} {cr cc t d i j:Int} {x:X} {u:Pd} {l:List Int}
theorem AO.deaf (h:AO c cr cc t x) (hu:u.kind=10\/u.kind=3\/u.kind=4):En.receive x u l=(x,[]):=by
 obtain ⟨hc⟩:=h
 obtain ⟨k0,sq,n,ps,mr,lA,ln,lc,self,dt⟩:=u
 dsimp only at hu
 rcases hu with rfl | rfl | rfl
 ·exact off_hears (us:=[]) (by simp) (by simp) (oPoll _ _ _ _ _ _ _ _ _ _ _ _ _)
 ·exact off_hears (us:=[]) (by simp) (by simp) (oEnd _ _ _ _ _ _ _ _ _ _ _ _ _)
 ·exact off_hears (us:=[]) (by simp) (by simp) (oAck _ _ _ _ _ _ _ _ _ _ _ _ _)
theorem AO.refused (h:AO c cr cc t x) (hu:u.kind=7) (hs:u.sq=1):∃ y sg,En.receive x u l=(y,sg)/\AI c cr y/\∀ s ∈ sg,s.kind ≠ 1:=by
 obtain ⟨hc⟩:=h
 obtain ⟨k0,sq,n,ps,mr,lA,ln,lc,self,dt⟩:=u
 dsimp only at hu hs
 subst hu hs
 exact ⟨_,_,off_stops (us:=[]) (by simp) (by simp) (oRej _ _ _ _ _ _ _ _ _ _ _ _),⟨hc.imp fun u hu=>.inl hu⟩,fun s hs=>by rw [List.mem_singleton.1 hs];show (3:Int) ≠ 1;decide⟩
theorem AO.answered (h:AO c cr cc t x) (hG:Pr.Good c) (hu:u.kind=2) (hs:u.sq=1):∃ y sg,En.receive x u l=(y,sg)/\AR c cr c.silent 0 0 y/\(∀ s ∈ sg,s.kind ≠ 1)/\y.poll=false/\y.stat=false:=by
 obtain ⟨hc⟩:=h
 obtain ⟨k0,sq,n,ps,mr,lA,ln,lc,self,dt⟩:=u
 dsimp only at hu hs
 subst hu hs
 obtain ⟨M,m1,m2,he⟩:=off_begins (c:=c) (tm:=[t,0,0,0,0]) (us:=[]) (l:=l) (by simp) (by simp) (oBgak 16 cr cc _ n ps mr lA ln lc self dt)
 refine ⟨_,_,he,?_,fun s hs=>by rw [List.mem_singleton.1 hs];show (2:Int) ≠ 1;decide,rfl,rfl⟩
 have e:Tm.stop [t,0,0,0,0] 0=[0,0,0,0,0]:=rfl
 rw [e,Pr.begin_eq hG]
 exact ⟨hc,⟨m1,m2⟩,by omega⟩
theorem AR.deaf (h:AR c cr d i j x) (hu:u.kind=2):En.receive x u l=(x,[]):=by
 obtain ⟨hc,hM⟩:=h
 obtain ⟨k0,sq,n,ps,mr,lA,ln,lc,self,dt⟩:=u
 dsimp only at hu
 subst hu
 exact on_hears (us:=[]) (by simp) (by simp) (by rfl) (rBgak _ _ _ _ _ _ _ _ _ _ _ _ _)
theorem AR.ended (h:AR c cr d i j x) (hu:u.kind=7\/u.kind=4\/(u.kind=3/\u.sq=0)):∃ y sg,En.receive x u l=(y,sg)/\AI c cr y/\∀ s ∈ sg,s.kind ≠ 1:=by
 obtain ⟨hc,hM⟩:=h
 obtain ⟨k0,sq,n,ps,mr,lA,ln,lc,self,dt⟩:=u
 dsimp only at hu
 have two:∀ (a:Int) (s:Cn.Sig),s ∈ [let_ a,⟨3,Cn.no,true,0,0⟩]->s.kind ≠ 1:=fun a s hs=>by
  rcases List.mem_cons.1 hs with rfl | hs
  ·show (12:Int) ≠ 1;decide
  ·rw [List.mem_singleton.1 hs];show (3:Int) ≠ 1;decide
 rcases hu with rfl | rfl | ⟨rfl,rfl⟩
 ·exact ⟨_,_,on_ends (us:=[]) (by simp) (by simp) (by rfl) (rRej _ _ _ _ _ _ _ _ _ _ _ _ _),⟨hc.imp fun u hu=>.inl hu⟩,two _⟩
 ·exact ⟨_,_,on_ends (us:=[]) (by simp) (by simp) (by rfl) (rAck _ _ _ _ _ _ _ _ _ _ _ _ _),⟨hc.imp fun u hu=>.inl hu⟩,two _⟩
 ·exact ⟨_,_,on_ends (us:=[ack 0]) (by simp) (by simp) (by rfl) (rEnd _ _ _ _ _ _ _ _ _ _ _ _ _),⟨(hc.imp fun u hu=>Or.inl hu).one (.inr (.inr rfl))⟩,fun s hs=>by rw [List.mem_singleton.1 hs];show (3:Int) ≠ 1;decide⟩
theorem AI.stays (h:AI c cr x) (hu:TA u):∃ y sg,En.receive x u l=(y,sg)/\AI c cr y/\∀ s ∈ sg,s.kind ≠ 1:=by
 obtain ⟨hc⟩:=h
 obtain ⟨k0,sq,n,ps,mr,lA,ln,lc,self,dt⟩:=u
 have one:∀ (a:Int) (s:Cn.Sig),s ∈ [let_ a]->s.kind ≠ 1:=fun a s hs=>by rw [List.mem_singleton.1 hs];show (12:Int) ≠ 1;decide
 unfold TA at hu
 dsimp only at hu
 rcases hu with ⟨rfl,rfl⟩ | ⟨rfl,rfl⟩ | rfl | ⟨rfl,rfl⟩ | rfl
 ·exact ⟨_,_,off_hears (us:=[fin 1]) (by simp) (by simp) (iBgak _ _ _ _ _ _ _ _ _ _ _ _ _),⟨hc.one (.inr (.inl rfl))⟩,one _⟩
 ·exact ⟨_,_,off_hears (us:=[ack 0]) (by simp) (by simp) (iEnd _ _ _ _ _ _ _ _ _ _ _ _ _),⟨hc.one (.inr (.inr rfl))⟩,fun s hs=>by cases hs⟩
 ·exact ⟨_,_,off_hears (us:=[]) (by simp) (by simp) (iAck _ _ _ _ _ _ _ _ _ _ _ _ _),⟨hc⟩,fun s hs=>by cases hs⟩
 ·exact ⟨_,_,off_hears (us:=[]) (by simp) (by simp) (iRej _ _ _ _ _ _ _ _ _ _ _ _ _),⟨hc⟩,one _⟩
 ·exact ⟨_,_,off_hears (us:=[fin 1]) (by simp) (by simp) (iPoll _ _ _ _ _ _ _ _ _ _ _ _ _),⟨hc.one (.inr (.inl rfl))⟩,one _⟩
theorem BI.stays (h:BI c cr x) (hu:TB u):∃ y sg,En.receive x u l=(y,sg)/\BI c cr y/\(∀ s ∈ sg,s.kind ≠ 1)/\(u.kind=1->∃ v ∈ y.ctl,v.kind=7)/\((∃ v ∈ x.ctl,v.kind=2\/v.kind=7)->∃ v ∈ y.ctl,v.kind=2\/v.kind=7):=by
 obtain ⟨hc⟩:=h
 rename_i m q ctl
 obtain ⟨k0,sq,n,ps,mr,lA,ln,lc,self,dt⟩:=u
 have one:∀ (a:Int) (s:Cn.Sig),s ∈ [let_ a]->s.kind ≠ 1:=fun a s hs=>by rw [List.mem_singleton.1 hs];show (12:Int) ≠ 1;decide
 have keep:∀ u:Pd,u.kind ≠ 2->u.kind ≠ 7->(∃ v ∈ ctl,v.kind=2\/v.kind=7)->∃ v ∈ En.ctls ctl [u],v.kind=2\/v.kind=7:=fun u h2 h7 ⟨v,hv,hk⟩=>by
  refine ⟨v,List.mem_append.2 (.inl (List.mem_filter.2 ⟨hv,?_⟩)),hk⟩
  have:¬ v.kind=u.kind:=by omega
  simpa using this
 unfold TB at hu
 dsimp only at hu
 rcases hu with ⟨rfl,rfl⟩ | ⟨rfl,rfl⟩ | rfl | rfl | rfl
 ·have hr:rej ∈ En.ctls ctl [rej]:=List.mem_append.2 (.inr List.mem_cons_self)
  exact ⟨_,_,off_hears (us:=[rej]) (by simp) (by simp) (jBgn _ _ _ _ _ _ _ _ _ _ _),⟨hc.one (.inr (.inr (.inl rfl)))⟩,fun s hs=>(by cases hs),fun _=>⟨_,hr,rfl⟩,fun _=>⟨_,hr,.inr rfl⟩⟩
 ·exact ⟨_,_,off_hears (us:=[ack 1]) (by simp) (by simp) (jEnd _ _ _ _ _ _ _ _ _ _ _ _),⟨hc.one (.inr (.inr (.inr rfl)))⟩,fun s hs=>(by cases hs),fun e=>(by cases e),keep _ (by decide) (by decide)⟩
 ·exact ⟨_,_,off_hears (us:=[]) (by simp) (by simp) (jAck _ _ _ _ _ _ _ _ _ _ _ _),⟨hc⟩,fun s hs=>(by cases hs),fun e=>(by cases e),fun e=>e⟩
 ·exact ⟨_,_,off_hears (us:=[fin 0]) (by simp) (by simp) (jPoll _ _ _ _ _ _ _ _ _ _ _ _),⟨hc.one (.inr (.inl rfl))⟩,one _,fun e=>(by cases e),keep _ (by decide) (by decide)⟩
 ·exact ⟨_,_,off_hears (us:=[fin 0]) (by simp) (by simp) (jStat _ _ _ _ _ _ _ _ _ _ _ _),⟨hc.one (.inr (.inl rfl))⟩,one _,fun e=>(by cases e),keep _ (by decide) (by decide)⟩
theorem BR.answers (h:BR c cr d i j x) (hu:u.kind=1) (hs:u.sq=1):∃ y,En.receive x u l=(y,[])/\BR c cr d i j y/\y.stat=x.stat/\y.poll=x.poll/\∃ v ∈ y.ctl,v.kind=2:=by
 obtain ⟨hc,hM⟩:=h
 obtain ⟨k0,sq,n,ps,mr,lA,ln,lc,self,dt⟩:=u
 dsimp only at hu hs
 subst hu hs
 exact ⟨_,on_hears (us:=[bgak cr]) (by simp) (by simp) (by rfl) (yBgn _ _ _ _ _ _ _ _ _ _ _),⟨hc.one rfl,hM⟩,rfl,rfl,_,List.mem_append.2 (.inr List.mem_cons_self),rfl⟩
theorem AR.polled (h:AR c cr d i j x) (hu:u.kind=10) (hn:u.n=c.start%16777216) (hp:0<=u.ps/\u.ps<16777216):∃ y,En.receive x u l=(y,[])/\AR c cr d i j y/\y.stat=true/\y.asked=u.ps/\y.poll=x.poll/\y.ctl=x.ctl:=by
 obtain ⟨hc,hM⟩:=h
 exact ⟨_,on_poll hu hn,⟨hc,hM,hp⟩,rfl,rfl,rfl,rfl⟩
theorem answered_form (b k d e c3 c4:Int):∃ b' k' d' e',Pc.answered [0,b,k,d,e] c3 c4 true=[0,b',k',d',e']:=by
 unfold Pc.answered
 split
 ·exact ⟨_,_,_,_,rfl⟩
 ·split
  ·exact ⟨_,_,_,_,rfl⟩
  ·exact ⟨_,_,_,_,rfl⟩
theorem polled_form (b k d e c1 c2 c3:Int):∃ b' k' d' e',Pc.polled [0,b,k,d,e] c1 c2 c3 true=[0,b',k',d',e']/\(0<d->d'=d):=by
 unfold Pc.polled Pc.watch
 rw [if_pos rfl]
 by_cases hd:0<d
 ·rw [if_pos (by show 0<d;exact hd)]
  exact ⟨_,_,_,_,rfl,fun _=>rfl⟩
 ·rw [if_neg (by show ¬ 0<d;exact hd)]
  exact ⟨_,_,_,_,rfl,fun e=>absurd e hd⟩
theorem BR.told (h:BR c cr d i j x) (hu:u.kind=11) (hn:u.n=c.start%16777216) {a:Int} (hp:u.ps=(c.start%16777216+a)%16777216) (h0:i<=a) (h1:a<=j) (h2:j-i<16777216):∃ y d',En.receive x u []=(y,[])/\BR c cr d' a j y/\y.stat=x.stat/\y.poll=x.poll/\y.ctl=x.ctl:=by
 obtain ⟨hc,hM⟩:=h
 rename_i m b k e q M ctl pl st
 obtain ⟨M',hM',he⟩:=on_stat (cn:=cb 16 cr 10 m) (tm:=[0,b,k,d,e]) (ctl:=ctl) (pl:=pl) (st:=st) (q:=q) hu hn hp h0 h1 h2 hM
 obtain ⟨b',k',d',e',hf⟩:=answered_form b k d e c.silent c.idle
 rw [hf] at he
 exact ⟨_,d',he,⟨hc,hM'⟩,rfl,rfl,rfl⟩
end
end Su
set_option maxRecDepth 20000
namespace Su
open Cn (S Pd SR)
open En (X)
section
variable {c:Nd.C} {cr cc t d i j:Int} {x:X}
theorem dec_less {a:Int} (h:1<=a):Tm.dec a=a-1:=by
 unfold Tm.dec
 first
  |omega
  |(split <;> omega)
theorem AO.tick (h:AO c cr cc t x) (ht:2<=t):∃ y,En.tick x=(y,[])/\AO c cr cc (t-1) y/\y.ctl=x.ctl:=by
 obtain ⟨hc⟩:=h
 rename_i m ctl
 have e:Tm.tick [t,0,0,0,0]=[t-1,0,0,0,0]:=by
  show [Tm.dec t,Tm.dec 0,Tm.dec 0,Tm.dec 0,Tm.dec 0]=_
  rw [dec_less (by omega)]
  rfl
 refine ⟨_,tick_out (by omega),?_,rfl⟩
 rw [e]
 exact ⟨hc⟩
theorem AO.again (h:AO c cr cc 1 x) (hG:Pr.Good c) (hk:cc<16):∃ y,En.tick x=(y,[])/\AO c cr (cc+1) c.cc y/\y.ctl ≠ []:=by
 obtain ⟨hc⟩:=h
 refine ⟨_,tick_again hk,?_,by show En.ctl1 _ _ ≠ [];unfold En.ctl1;simp⟩
 have e:Tm.start [0,0,0,0,0] 0 c.cc=[c.cc,0,0,0,0]:=by
  show [max 1 (min c.cc 1048576),0,0,0,0]=_
  rw [Pr.clamp41 hG.1]
 rw [e]
 exact ⟨hc.one rfl⟩
theorem tick_form (b k e:Int) (hd:1<=d):∃ b' k' e',Tm.tick [0,b,k,d,e]=[0,b',k',d-1,e']:=by
 refine ⟨Tm.dec b,Tm.dec k,Tm.dec e,?_⟩
 show [Tm.dec 0,Tm.dec b,Tm.dec k,Tm.dec d,Tm.dec e]=_
 rw [dec_less hd]
 rfl
theorem AR.tick (h:AR c cr d i j x) (hd:2<=d):∃ y,En.tick x=(y,[])/\AR c cr (d-1) i j y/\y.stat=x.stat/\y.asked=x.asked/\y.ctl=x.ctl:=by
 obtain ⟨hc,hM,hq⟩:=h
 rename_i cc m b k e q M ctl pl st
 obtain ⟨pl',he⟩:=tick_on (c:=c) (cn:=ca 16 cr 10 cc m) (b:=b) (k:=k) (d:=d) (e:=e) (ctl:=ctl) (pl:=pl) (st:=st) (q:=q) (M:=M) (i:=i) (j:=j) (by omega)
 obtain ⟨b',k',e',hf⟩:=tick_form (d:=d) b k e (by omega)
 rw [hf] at he
 exact ⟨_,he,⟨hc,hM,hq⟩,rfl,rfl,rfl⟩
theorem BR.tick (h:BR c cr d i j x) (hd:2<=d):∃ y,En.tick x=(y,[])/\BR c cr (d-1) i j y/\y.stat=x.stat/\y.ctl=x.ctl:=by
 obtain ⟨hc,hM⟩:=h
 rename_i m b k e q M ctl pl st
 obtain ⟨pl',he⟩:=tick_on (c:=c) (cn:=cb 16 cr 10 m) (b:=b) (k:=k) (d:=d) (e:=e) (ctl:=ctl) (pl:=pl) (st:=st) (q:=q) (M:=M) (i:=i) (j:=j) (by omega)
 obtain ⟨b',k',e',hf⟩:=tick_form (d:=d) b k e (by omega)
 rw [hf] at he
 exact ⟨_,he,⟨hc,hM⟩,rfl,rfl⟩
theorem end_form (b k e:Int):Pc.end_ (Tm.tick [0,b,k,1,e])=[0,0,0,0,0]:=rfl
theorem AR.silent (h:AR c cr 1 i j x):∃ y sg,En.tick x=(y,sg)/\AI c cr y/\∀ s ∈ sg,s.kind ≠ 1:=by
 obtain ⟨hc,hM,hq⟩:=h
 rename_i cc m b k e q M ctl pl st
 refine ⟨_,_,tick_silent (rSilent 16 cr cc m),?_,?_⟩
 ·rw [end_form]
  exact ⟨(hc.imp fun u hu=>Or.inl hu).one (.inr (.inl rfl))⟩
 ·intro s hs
  rcases List.mem_cons.1 hs with rfl | hs
  ·show (12:Int) ≠ 1;decide
  ·rw [List.mem_singleton.1 hs];show (3:Int) ≠ 1;decide
theorem BR.silent (h:BR c cr 1 i j x):∃ y sg,En.tick x=(y,sg)/\BI c cr y/\(∀ s ∈ sg,s.kind ≠ 1)/\(∀ v ∈ x.ctl,v ∈ y.ctl):=by
 obtain ⟨hc,hM⟩:=h
 rename_i m b k e q M ctl pl st
 refine ⟨_,_,tick_silent (ySilent 16 cr m),?_,?_,fun v hv=>?_⟩
 ·rw [end_form]
  exact ⟨(hc.imp fun u hu=>Or.inl hu).one (.inr (.inl rfl))⟩
 ·intro s hs
  rcases List.mem_cons.1 hs with rfl | hs
  ·show (12:Int) ≠ 1;decide
  ·rw [List.mem_singleton.1 hs];show (3:Int) ≠ 1;decide
 ·refine List.mem_append.2 (.inl (List.mem_filter.2 ⟨hv,?_⟩))
  rw [hc.all v hv]
  rfl
theorem BI.tick (h:BI c cr x):En.tick x=(x,[]):=by
 obtain ⟨hc⟩:=h
 exact tick_off
end
end Su
set_option maxRecDepth 20000
namespace Su
open Cn (S Pd SR)
open En (X)
section
variable {c:Nd.C} {cr cc t d i j:Int} {x:X}
def talk (x:X):Nat:=x.ctl.length+x.stat.toNat+x.poll.toNat
def lim (x:X) (j:Int):Int:=j+(x.poll.toNat:Int)
theorem talkn_ctl (c:Nd.C) (cn:S) (tm:List Int) (u:Pd) (ctl:List Pd) (pl st:Bool) (q M i j:Int):talk (on c cn tm (u::ctl) pl st q M i j)=talk (on c cn tm ctl pl st q M i j)+1:=by
 show (ctl.length+1)+st.toNat+pl.toNat=ctl.length+st.toNat+pl.toNat+1
 omega
theorem AO.next (h:AO c cr cc t x):(En.next x=(x,none)/\x.ctl=[])\/∃ y,En.next x=(y,some (bgn cr,[]))/\AO c cr cc t y/\talk x=talk y+1/\x.ctl=bgn cr::y.ctl:=by
 obtain ⟨hc⟩:=h
 rename_i m ctl
 cases ctl with
 |nil=>exact .inl ⟨rfl,rfl⟩
 |cons u ctl =>
  obtain rfl:=hc.head
  exact .inr ⟨_,rfl,⟨hc.tail⟩,rfl,rfl⟩
theorem AI.next (h:AI c cr x):(En.next x=(x,none))\/∃ y u,En.next x=(y,some (u,[]))/\AI c cr y/\PA cr u/\talk x=talk y+1:=by
 obtain ⟨hc⟩:=h
 rename_i m q ctl
 cases ctl with
 |nil=>exact .inl rfl
 |cons u ctl=>exact .inr ⟨_,u,rfl,⟨hc.tail⟩,hc.head,rfl⟩
theorem BI.next (h:BI c cr x):(En.next x=(x,none)/\x.ctl=[])\/∃ y u,En.next x=(y,some (u,[]))/\BI c cr y/\PB cr u/\talk x=talk y+1/\x.ctl=u::y.ctl:=by
 obtain ⟨hc⟩:=h
 rename_i q ctl
 cases ctl with
 |nil=>exact .inl ⟨rfl,rfl⟩
 |cons u ctl=>exact .inr ⟨_,u,rfl,⟨hc.tail⟩,hc.head,rfl,rfl⟩
theorem AR.next (h:AR c cr d i j x):(En.next x=(x,none))\/(∃ y,En.next x=(y,some (bgn cr,[]))/\AR c cr d i j y/\talk x=talk y+1/\y.stat=x.stat/\y.asked=x.asked/\y.poll=x.poll)\/(∃ y mr,(0<=mr/\mr<16777216)/\(0<=x.asked/\x.asked<16777216)/\En.next x=(y,some (En.numed 11 (c.start%16777216) x.asked mr Cn.no,[]))/\AR c cr d i j y/\talk x=talk y+1/\x.stat=true/\y.stat=false/\y.poll=x.poll)\/∃ y d',En.next x=(y,some (En.numed 10 (c.start%16777216) ((c.start%16777216+(j+1))%16777216) 0 Cn.no,[]))/\AR c cr d' i (j+1) y/\(0<d->d'=d)/\talk x=talk y+1/\x.poll=true/\y.poll=false:=by
 obtain ⟨hc,hM,hq⟩:=h
 rename_i cc m b k e q M ctl pl st
 cases ctl with
 |cons u ctl =>
  obtain rfl:=hc.head
  exact .inr (.inl ⟨_,rfl,⟨hc.tail,hM,hq⟩,talkn_ctl _ _ _ _ _ _ _ _ _ _ _,rfl,rfl,rfl⟩)
 |nil =>
  cases st with
  |true =>
   obtain ⟨mr,hr,he⟩:=nextn_stat c (ca 16 cr 10 cc m) [0,b,k,d,e] pl q M i j
   refine .inr (.inr (.inl ⟨_,mr,hr,hq,he,⟨hc,hM,hq⟩,?_,rfl,rfl,rfl⟩))
   show 0+1+pl.toNat=0+0+pl.toNat+1
   omega
  |false =>
   cases pl with
   |true =>
    obtain ⟨b',k',d',e',hf,hd⟩:=polled_form b k d e c.poll c.keep c.silent
    have he:=nextn_poll c (ca 16 cr 10 cc m) [0,b,k,d,e] q M i j
    rw [hf] at he
    exact .inr (.inr (.inr ⟨_,d',he,⟨hc,hM,hq⟩,hd,rfl,rfl,rfl⟩))
   |false=>exact .inl (nextn_no c _ _ q M i j)
theorem BR.next (h:BR c cr d i j x) (hs:x.stat=false):(En.next x=(x,none)/\x.ctl=[])\/(∃ y,En.next x=(y,some (bgak cr,[]))/\BR c cr d i j y/\talk x=talk y+1/\y.stat=false/\y.poll=x.poll/\x.ctl=bgak cr::y.ctl)\/∃ y d',En.next x=(y,some (En.numed 10 (c.start%16777216) ((c.start%16777216+(j+1))%16777216) 0 Cn.no,[]))/\BR c cr d' i (j+1) y/\(0<d->d'=d)/\talk x=talk y+1/\y.stat=false/\x.poll=true/\y.poll=false/\x.ctl=y.ctl:=by
 obtain ⟨hc,hM⟩:=h
 rename_i m b k e q M ctl pl st
 have hs:st=false:=hs
 subst hs
 cases ctl with
 |cons u ctl =>
  obtain rfl:=hc.head
  exact .inr (.inl ⟨_,rfl,⟨hc.tail,hM⟩,talkn_ctl _ _ _ _ _ _ _ _ _ _ _,rfl,rfl,rfl⟩)
 |nil =>
  cases pl with
  |true =>
   obtain ⟨b',k',d',e',hf,hd⟩:=polled_form b k d e c.poll c.keep c.silent
   have he:=nextn_poll c (cb 16 cr 10 m) [0,b,k,d,e] q M i j
   rw [hf] at he
   exact .inr (.inr ⟨_,d',he,⟨hc,hM⟩,hd,rfl,rfl,rfl,rfl,rfl⟩)
  |false=>exact .inl ⟨nextn_no c _ _ q M i j,rfl⟩
end
end Su
set_option maxRecDepth 20000
namespace Su
open Cn (S Pd SR)
open En (X)
section
variable {c:Nd.C}
theorem new_bgn (hm:c.most=16) {u:Pd} {l:List Int} (hu:u.kind=1) (hs:u.sq=1):∃ sg,En.receive (En.new c) u l=(off c (cb 16 ((c.start+c.window)%16777216%16777216) 3 u.n) [0,0,0,0,0] [] 0,[sg])/\sg.kind=1:=by
 obtain ⟨k0,sq,n,ps,mr,lA,ln,lc,self,dt⟩:=u
 dsimp only at hu hs
 subst hu hs
 have h:=nBgn c.most ((c.start+c.window)%16777216) n ps mr lA ln lc self dt
 rw [hm] at h
 rw [off_new,hm]
 exact ⟨_,off_hears (us:=[]) (by simp) (by simp) h,rfl⟩
theorem accepts (hG:Pr.Good c) (cr m q:Int):∃ y,En.request (off c (cb 16 cr 3 m) [0,0,0,0,0] [] q) 2 Cn.no 0=(y,[],0)/\BR c cr c.silent 0 0 y/\y.stat=false/\y.poll=false/\y.ctl=[bgak cr]:=by
 obtain ⟨M,m1,m2,hM⟩:=epoch_sn c m
 have e1:Ev.err 2 Cn.no 0=0:=by decide +kernel
 have e2:Ru.may (off c (cb 16 cr 3 m) [0,0,0,0,0] [] q).conn.state 2=true:=by
  show Ru.may 3 2=true
  decide +kernel
 have e3:Cn.askErr (cb 16 cr 3 m) 2 Cn.no=0:=by kernel_rfl
 have e4:En.ask (off c (cb 16 cr 3 m) [0,0,0,0,0] [] q) 2 Cn.no 0=(on c (cb 16 cr 10 m) (Pc.begin_ (Tm.stop [0,0,0,0,0] 0) c.poll c.silent) [bgak cr] false false q M 0 0,[],0):=by
  have e5:En.ask (off c (cb 16 cr 3 m) [0,0,0,0,0] [] q) 2 Cn.no 0=En.askC (off c (cb 16 cr 3 m) [0,0,0,0,0] [] q) 2 Cn.no:=rfl
  rw [e5]
  unfold En.askC
  rw [if_pos (by exact e3)]
  show (let y:=En.brought (off c (cb 16 cr 3 m) [0,0,0,0,0] [] q) (Cn.askS (cb 16 cr 3 m) 2 Cn.no);(y.1,y.2,(0:Int)))=_
  rw [nAcc]
  show (({ (off c (cb 16 cr 10 m) (Pc.begin_ (Tm.stop [0,0,0,0,0] 0) c.poll c.silent) [bgak cr] q) with ep:=some (En.epoch c m) }:X),([]:List Cn.Sig),(0:Int))=_
  rw [hM]
  rfl
 have e:Tm.stop [0,0,0,0,0] 0=[0,0,0,0,0]:=rfl
 rw [e,Pr.begin_eq hG] at e4
 refine ⟨on c (cb 16 cr 10 m) [0,c.poll,0,c.silent,0] [bgak cr] false false q M 0 0,?_,⟨⟨fun u hu=>List.mem_singleton.1 hu,by simp⟩,m1,m2⟩,rfl,rfl,rfl⟩
 unfold En.request
 rw [if_pos e1,if_pos e2,e4]
 rfl
theorem asks (hG:Pr.Good c) (hm:c.most=16):∃ y,En.request (En.new c) 1 Cn.no 0=(y,[],0)/\AO c ((c.start+c.window)%16777216%16777216) 1 c.cc y/\y.ctl=[bgn ((c.start+c.window)%16777216%16777216)]:=by
 have h:=Pr.askE c
 have e:Tm.start [0,0,0,0,0] 0 c.cc=[c.cc,0,0,0,0]:=by
  show [max 1 (min c.cc 1048576),0,0,0,0]=_
  rw [Pr.clamp41 hG.1]
 rw [e,hm] at h
 refine ⟨_,h,?_,rfl⟩
 exact AO.mk (m:=(c.start+c.window)%16777216%16777216) (ctl:=[bgn ((c.start+c.window)%16777216%16777216)]) ⟨fun u hu=>List.mem_singleton.1 hu,by simp⟩
end
end Su
end Go.Proofs.YtlbopdfobgjjaaaGreatDoor

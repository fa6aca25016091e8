/-
  The document's sender, with numbers that go on for ever, and what it is to the program's. Plain: no program is named but the sender's plain form · send.Send: Due, Poll, Next of what goes again.
-/
import Derived.Test.YtlbopdfobgjjaaaGreatDoorSnd
import Derived.Test.YtlbopdfobgjjaaaGreatDoorGapS
import Derived.Test.YtlbopdfobgjjaaaGreatDoorMapD
import Derived.Deep.DeepCutAuto
import Derived.Test.YtlbopdfobgjjaaaGreatDoorSpanL
import Derived.Lib.SliceRun
import Derived.Test.YtlbopdfobgjjaaaGreatDoorRow2
set_option maxHeartbeats 4000000
namespace Go.Proofs.YtlbopdfobgjjaaaGreatDoor
namespace Sf
structure S where
 s:Int
 a:Int
 ms:Int
 ps:Int
 pa:Int
 units:Int
 polls:Int
 most:Nat
 wait:List ByteArray
 kept:List ByteArray
 last:List Int
 again:List Int
def new (start queue polls:Int):S:=
 { s:=start%16777216,a:=start%16777216,ms:=start%16777216,ps:=start%16777216,pa:=start%16777216,units:=0,polls:=max 1 (min polls 256),most:=(max 1 (min queue 256)).toNat,wait:=[],kept:=[],last:=[],again:=[] }
def at_ (x:S) (n:Int):Int:=x.a+(n-x.a)%16777216
def opn (x:S) (ms:Int):S:=if (ms-x.a)%16777216<=8388608/\x.ms<=at_ x ms then { x with ms:=at_ x ms } else x
def put (x:S) (v:ByteArray):S:=if x.wait.length<x.most then { x with wait:=x.wait++[v] } else x
def repeat1 (x:S) (n:Int) (r:List Int):S:={ x with again:=r,last:=x.last.set (n-x.a).toNat x.ps,units:=x.units+1 }
def fresh1 (x:S) (v:ByteArray) (r:List ByteArray):S:={ x with wait:=r,kept:=x.kept++[v],last:=x.last++[x.ps],s:=x.s+1,units:=x.units+1 }
def next (x:S):S × Int × ByteArray × Bool × Bool:=
 match x.again with
 |n::r=>(repeat1 x n r,n,x.kept.getD (n-x.a).toNat default,false,true)
 |[]=>match x.wait with
  |[] => (x, 0, "".toUTF8, false, false)
  |v :: r => if x.ms <= x.s then (x, 0, "".toUTF8, false, false) else (fresh1 x v r, x.s, v, true, true)
def poll (x:S):S:={ x with ps:=x.ps+1,units:=0 }
def ack (x:S) (r:Int):S:={ x with kept:=x.kept.drop (r-x.a).toNat,last:=x.last.drop (r-x.a).toNat,a:=r,again:=x.again.filter fun n=>decide (r<=n) }
def told (_x:S) (r:Int) (l:List Int):List Int:=Sp.nums (Gp.prs (Gp.ats r l))
def may (x:S) (p:Option Int) (n:Int):Bool:=match p with
 |none=>true
 |some p=>decide (x.last.getD (n-x.a).toNat 0<p) && decide (p-x.last.getD (n-x.a).toNat 0<8388608)
def more (x:S) (p:Option Int) (l:List Int):List Int:=(l.map fun i=>x.a+i).filter fun n=>may x p n && !decide (n ∈ x.again)
def nums (x:S):List Int:=(List.range (x.s-x.a).toNat).map fun i:Nat=>x.a+(i:Int)
def merge (x:S) (m:List Int):List Int:=(nums x).filter fun n=>decide (n ∈ x.again) || decide (n ∈ m)
def rep (x:S) (p:Option Int) (l:List Int):S × Int:=({ x with again:=merge x (more x p l) },((more x p l).length:Int))
def pollAt (x:S) (ps:Int):Int:=x.pa+(ps-x.pa)%16777216
def toldOk (x:S) (r:Int) (l:List Int):Bool:=decide (at_ x r<=x.s) && Gp.okSet (at_ x r) x.s l
def stat (x:S) (r mr ps:Int) (l:List Int):S × Int × Int:=
 if x.ps<pollAt x ps then (x,0,12) else if toldOk x r l=false then (x,0,13) else
  let y:=rep (opn { ack x (at_ x r) with pa:=pollAt x ps } mr) (some (pollAt x ps)) (told x (at_ x r) l)
  (y.1,y.2,0)
def ustat (x:S) (r mr:Int) (l:List Int):S × Int × Int:=
 if toldOk x r l=false then (x,0,14) else
  let y:=rep (opn (ack x (at_ x r)) mr) none (told x (at_ x r) l)
  (y.1,y.2,0)
def pm:Int->List ByteArray->List Int->List (Int × (ByteArray × Int))
 |a,v::ks,p::ls=>(a%16777216,(v,p%16777216))::pm (a+1) ks ls
 |_,_,_=>[]
def pa (l:List Int):List Int:=l.map fun n=>n%16777216
def prog (x:S):Sd.S:=⟨x.s%16777216,x.a%16777216,x.ms%16777216,x.ps%16777216,x.pa%16777216,x.units,x.polls,x.most,x.wait,pm x.a x.kept x.last,pa x.again⟩
structure Ok (x:S) (lo hi:Int):Prop where
 lo0:0<=lo/\lo<16777216
 hl:hi-lo<=4000
 la:lo<=x.a
 shi:x.s<=hi
 klen:x.a+(x.kept.length:Int)=x.s
 llen:x.last.length=x.kept.length
 sms:x.s<=x.ms
 msa:x.ms-x.a<=8388608
 lpa:lo<=x.pa
 pas:x.pa<=x.ps
 phi:x.ps<=hi
 lasts:∀ v ∈ x.last,lo<=v/\v<=x.ps
 sorted:x.again.Pairwise (· < ·)
 ags:∀ n ∈ x.again,x.a<=n/\n<x.s
 units:0<=x.units/\x.units<=hi-lo
 polls:1<=x.polls/\x.polls<=256
 most:1<=x.most/\x.most<=256
 wlen:x.wait.length<=x.most
theorem Ok.new (start queue polls hi:Int) (h1:start%16777216<=hi) (h2:hi-start%16777216<=4000):Ok (new start queue polls) (start%16777216) hi where
 lo0:=by omega
 hl:=h2
 la:=Int.le_refl _
 shi:=h1
 klen:=by show start%16777216+(([]:List ByteArray).length:Int)=start%16777216;simp
 llen:=rfl
 sms:=Int.le_refl _
 msa:=by show start%16777216-start%16777216<=_;omega
 lpa:=Int.le_refl _
 pas:=Int.le_refl _
 phi:=h1
 lasts:=fun v hv=>by cases hv
 sorted:=List.Pairwise.nil
 ags:=fun v hv=>by cases hv
 units:=by show (0:Int)<=0/\(0:Int)<=_;omega
 polls:=by show 1<=max 1 (min polls 256)/\max 1 (min polls 256)<=256;omega
 most:=by show 1<=(max 1 (min queue 256)).toNat/\(max 1 (min queue 256)).toNat<=256;omega
 wlen:=by show ([]:List ByteArray).length<=_;simp
theorem Ok.mono {x:S} {lo hi hi':Int} (h:Ok x lo hi) (h1:hi<=hi') (h2:hi'-lo<=4000):Ok x lo hi':=
 { h with hl:=h2,shi:=Int.le_trans h.shi h1,phi:=Int.le_trans h.phi h1,units:=⟨h.units.1,by have:=h.units.2;omega⟩ }
theorem prog_new (start queue polls:Int):Sd.new start queue polls=prog (new start queue polls):=by
 unfold Sd.new prog new pm pa
 simp
/-! What is kept, as a list by numbers. -/
theorem pm_len:∀ (a:Int) (ks:List ByteArray) (ls:List Int),ls.length=ks.length->(pm a ks ls).length=ks.length
 |_,[],[],_=>rfl
 |a,v::ks,p::ls,h=>by
  have:=pm_len (a+1) ks ls (by simpa using h)
  simp [pm,this]
 |_,[],_::_,h=>by simp at h
 |_,_::_,[],h=>by simp at h
theorem pm_keys:∀ (a:Int) (ks:List ByteArray) (ls:List Int),∀ p ∈ pm a ks ls,∃ j:Nat,j<ks.length/\p.1=(a+(j:Int))%16777216
 |a,v::ks,q::ls,p,h=>by
  unfold pm at h
  rcases List.mem_cons.1 h with rfl | h
  ·exact ⟨0,by simp,by simp⟩
  ·obtain ⟨j,h1,h2⟩:=pm_keys (a+1) ks ls p h
   exact ⟨j+1,by simpa using h1,by rw [h2];congr 1;omega⟩
 |_,[],[],p,h=>by simp [pm] at h
 |_,[],_::_,p,h=>by simp [pm] at h
 |_,_::_,[],p,h=>by simp [pm] at h
theorem pm_out {a:Int} {ks:List ByteArray} {ls:List Int} {n:Int} (hk:ks.length<=8000) (h:n<a\/a+(ks.length:Int)<=n) (h1:a-8000000<=n) (h2:n<=a+8000000):n%16777216 ∉ (pm a ks ls).map (·.1):=fun hm=>by
 obtain ⟨p,hp,e⟩:=List.mem_map.1 hm
 obtain ⟨j,h3,h4⟩:=pm_keys a ks ls p hp
 rw [h4] at e
 omega
theorem pm_get:∀ (a:Int) (ks:List ByteArray) (ls:List Int) (j:Nat),ls.length=ks.length->ks.length<=8000->j<ks.length->mget (pm a ks ls) ((a+(j:Int))%16777216)=some (ks.getD j default,ls.getD j 0%16777216)
 |a,v::ks,p::ls,0,h,hk,_=>by
  unfold pm
  rw [mget_cons,if_pos (by simp)]
  rfl
 |a,v::ks,p::ls,j+1,h,hk,hj=>by
  have hk':ks.length+1<=8000:=by simpa using hk
  have hj':j+1<ks.length+1:=by simpa using hj
  have ih:=pm_get (a+1) ks ls j (by simpa using h) (by omega) (by omega)
  unfold pm
  rw [mget_cons,if_neg (by simp only;omega),show a+((j+1:Nat):Int)=a+1+(j:Int) by omega,ih]
  simp
 |_,[],[],j,_,_,hj=>by simp at hj
 |_,[],_::_,_,h,_,_=>by simp at h
 |_,_::_,[],_,h,_,_=>by simp at h
theorem pm_del (a:Int) (v:ByteArray) (ks:List ByteArray) (q:Int) (ls:List Int) (hk:ks.length<=8000):mdel (pm a (v::ks) (q::ls)) (a%16777216)=pm (a+1) ks ls:=by
 have e:pm a (v::ks) (q::ls)=(a%16777216,(v,q%16777216))::pm (a+1) ks ls:=rfl
 rw [e]
 unfold mdel
 rw [List.filter_cons,if_neg (by simp)]
 refine List.filter_eq_self.2 fun p hp=>?_
 obtain ⟨j,h3,h4⟩:=pm_keys (a+1) ks ls p hp
 rw [h4]
 exact decide_eq_true (by omega)
section
variable {x:S} {lo hi:Int}
theorem Ok.kl (h:Ok x lo hi):x.kept.length<=4000:=by have:=h.klen;have:=h.la;have:=h.shi;have:=h.hl;omega
theorem Ok.look (h:Ok x lo hi) {n:Int} (h1:x.a<=n) (h2:n<x.s):mget (prog x).m (n%16777216)=some (x.kept.getD (n-x.a).toNat default,x.last.getD (n-x.a).toNat 0%16777216):=by
 have hk:=h.klen
 have:=pm_get x.a x.kept x.last (n-x.a).toNat h.llen (by have:=h.kl;omega) (by omega)
 rw [show x.a+(((n-x.a).toNat:Nat):Int)=n by omega] at this
 exact this
theorem Ok.put (h:Ok x lo hi) (v:ByteArray):Ok (put x v) lo hi:=by
 unfold Sf.put
 by_cases hc:x.wait.length<x.most
 ·rw [if_pos hc]
  exact { h with wlen:=by show (x.wait++[v]).length<=x.most;simp;omega }
 ·rw [if_neg hc]
  exact h
theorem Ok.opn (h:Ok x lo hi) (ms:Int):Ok (opn x ms) lo hi:=by
 unfold Sf.opn
 by_cases hc:(ms-x.a)%16777216<=8388608/\x.ms<=at_ x ms
 ·rw [if_pos hc]
  exact { h with sms:=by have:=h.sms;show x.s<=at_ x ms;omega,msa:=by show at_ x ms-x.a<=_;unfold at_;omega }
 ·rw [if_neg hc]
  exact h
theorem Ok.prog_opn (h:Ok x lo hi) (ms:Int):Sd.opn (prog x) (ms%16777216)=prog (Sf.opn x ms):=by
 have h1:=h.sms
 have h2:=h.msa
 have h3:=h.klen
 have e1:(ms%16777216-(prog x).a)%16777216=(ms-x.a)%16777216:=by show (ms%16777216-x.a%16777216)%16777216=_;omega
 have e2:((prog x).ms-(prog x).a)%16777216=x.ms-x.a:=by show (x.ms%16777216-x.a%16777216)%16777216=_;omega
 unfold Sd.opn Sf.opn
 rw [e1,e2]
 by_cases hc:(ms-x.a)%16777216<=8388608/\x.ms<=at_ x ms
 ·rw [if_pos hc,if_pos (by unfold at_ at hc;omega)]
  unfold prog at_
  simp only [Sd.S.mk.injEq,and_true,true_and]
  omega
 ·rw [if_neg hc,if_neg (by unfold at_ at hc;omega)]
theorem prog_poll (x:S):({ prog x with ps:=((prog x).ps+1)%16777216,units:=0 }:Sd.S)=prog (poll x):=by
 unfold prog poll
 simp only [Sd.S.mk.injEq,and_true,true_and]
 omega
end
end Sf
namespace Gp
theorem ats_mod {b b':Int} (l:List Int) (hb:b%16777216=b'%16777216):ats b l=ats b' l:=by
 unfold ats
 refine List.map_congr_left fun x _=>?_
 omega
theorem okSet_mod {b b' t t':Int} (l:List Int) (hb:b%16777216=b'%16777216) (ht:t%16777216=t'%16777216):okSet b t l=okSet b' t' l:=by
 unfold okSet
 rw [ats_mod l hb,show (t-b)%16777216=(t'-b')%16777216 by omega]
theorem up_rise (E:Int):∀ (L:List Int) (last:Int),up E last L=true->Sp.Rising (Sp.nums (prs L))/\∀ v ∈ Sp.nums (prs L),last<v/\v<E
 |[],_,_=>⟨by simp [prs,Sp.nums,Sp.Rising],by simp [prs,Sp.nums]⟩
 |[_],_,_=>⟨by simp [prs,Sp.nums,Sp.Rising],by simp [prs,Sp.nums]⟩
 |a::b::r,last,h=>by
  simp only [up,Bool.and_eq_true,decide_eq_true_eq] at h
  obtain ⟨⟨h1,h2⟩,⟨h3,h4⟩,h5⟩:=h
  obtain ⟨i1,i2⟩:=up_rise E r b h5
  have e:Sp.nums (prs (a::b::r))=Sp.run (a,b)++Sp.nums (prs r):=rfl
  rw [e]
  refine ⟨List.pairwise_append.2 ⟨Sp.run_rising _,i1,fun x hx y hy=>?_⟩,fun v hv=>?_⟩
  ·have:=(Sp.mem_run _ _).1 hx
   have:=i2 y hy
   simp only at *
   omega
  ·rcases List.mem_append.1 hv with hv | hv
   ·have:=(Sp.mem_run _ _).1 hv
    simp only at *
    omega
   ·have:=i2 v hv
    omega
end Gp
namespace Sf
section
variable {x:S} {lo hi:Int}
theorem Ok.at_bd (x:S) (n:Int):x.a<=at_ x n/\at_ x n<x.a+16777216/\at_ x n%16777216=n%16777216:=by
 unfold at_
 refine ⟨?_,?_,?_⟩ <;> omega
theorem Ok.within (h:Ok x lo hi) (r:Int):decide ((r-x.a%16777216)%16777216<=(x.s%16777216-x.a%16777216)%16777216)=decide (at_ x r<=x.s):=by
 have:=h.kl
 have:=h.klen
 unfold at_
 congr 1
 apply propext
 omega
theorem Ok.withinP (h:Ok x lo hi) (ps:Int):decide ((ps-x.pa%16777216)%16777216<=(x.ps%16777216-x.pa%16777216)%16777216)=decide (pollAt x ps<=x.ps):=by
 have:=h.lpa
 have:=h.pas
 have:=h.phi
 have:=h.hl
 unfold pollAt
 congr 1
 apply propext
 omega
theorem okSet_at (x:S) (r:Int) (l:List Int):Gp.okSet r (x.s%16777216) l=Gp.okSet (at_ x r) x.s l:=
 Gp.okSet_mod l (Ok.at_bd x r).2.2.symm (by omega)
theorem ats_at (x:S) (r:Int) (l:List Int):Gp.ats r l=Gp.ats (at_ x r) l:=Gp.ats_mod l (Ok.at_bd x r).2.2.symm
/-! acknowledge -/
theorem pm_drop_del (a:Int) (ks:List ByteArray) (ls:List Int) (j:Nat) (hl:ls.length=ks.length) (hk:ks.length<=8000) (hj:j<ks.length) :
  mdel (pm (a+(j:Int)) (ks.drop j) (ls.drop j)) ((a+(j:Int))%16777216)=pm (a+((j+1:Nat):Int)) (ks.drop (j+1)) (ls.drop (j+1)):=by
 rw [List.drop_eq_getElem_cons hj,List.drop_eq_getElem_cons (show j<ls.length by omega),pm_del _ _ _ _ _ (by rw [List.length_drop];omega),show a+(j:Int)+1=a+((j+1:Nat):Int) by omega]
def gone (x:S) (j:Nat):List (Int × (ByteArray × Int)):=pm (x.a+(j:Int)) (x.kept.drop j) (x.last.drop j)
theorem gone_zero (x:S):gone x 0=(prog x).m:=by
 unfold gone
 simp [prog]
theorem Ok.gone_succ (h:Ok x lo hi) (j:Nat) (hj:j<x.kept.length):mdel (gone x j) ((x.a+(j:Int))%16777216)=gone x (j+1):=
 pm_drop_del x.a x.kept x.last j h.llen (by have:=h.kl;omega) hj
theorem Ok.gone_in (h:Ok x lo hi) (j:Nat) (hj:j<=x.kept.length) {n:Int} (h1:x.a<=n) (h2:n<x.s):(mget (gone x j) (n%16777216)).isSome=decide (x.a+(j:Int)<=n):=by
 have hk:=h.klen
 have hl:=h.kl
 have ll:=h.llen
 by_cases hc:x.a+(j:Int)<=n
 ·have:=pm_get (x.a+(j:Int)) (x.kept.drop j) (x.last.drop j) (n-x.a-j).toNat (by simp [ll]) (by rw [List.length_drop];omega) (by rw [List.length_drop];omega)
  rw [show x.a+(j:Int)+(((n-x.a-j).toNat:Nat):Int)=n by omega] at this
  unfold gone
  rw [this,decide_eq_true hc]
  rfl
 ·have:mget (gone x j) (n%16777216)=none:=mget_none.2 (pm_out (by rw [List.length_drop];omega) (Or.inl (by omega)) (by omega) (by omega))
  rw [this,decide_eq_false hc]
  rfl
theorem Ok.ack (h:Ok x lo hi) {r:Int} (h1:x.a<=r) (h2:r<=x.s):Ok (ack x r) lo hi:=by
 have hk:=h.klen
 exact { h with
  la:=by have:=h.la;show lo<=r;omega
  klen:=by show r+((x.kept.drop (r-x.a).toNat).length:Int)=x.s;rw [List.length_drop];omega
  llen:=by show (x.last.drop _).length=(x.kept.drop _).length;simp [h.llen]
  msa:=by have:=h.msa;show x.ms-r<=_;omega
  lasts:=fun v hv=>h.lasts v (List.mem_of_mem_drop hv)
  sorted:=h.sorted.filter _
  ags:=fun n hn=>by
   have h3:=List.mem_filter.1 hn
   have h4:=h.ags n h3.1
   have h5:r<=n:=by simpa using h3.2
   exact ⟨h5,h4.2⟩ }
theorem Ok.prog_ack (h:Ok x lo hi) {r:Int} (h1:x.a<=r) (h2:r<=x.s) :
  ({ prog x with a:=r%16777216,m:=gone x (r-x.a).toNat,again:=(pa x.again).filter fun n=>(mget (gone x (r-x.a).toNat) n).isSome }:Sd.S)=prog (Sf.ack x r):=by
 have hk:=h.klen
 unfold Sf.ack prog
 simp only [Sd.S.mk.injEq,true_and]
 refine ⟨?_,?_⟩
 ·unfold gone
  rw [show x.a+(((r-x.a).toNat:Nat):Int)=r by omega]
 ·unfold pa
  rw [List.filter_map]
  congr 1
  refine List.filter_congr fun n hn=>?_
  have h3:=h.ags n hn
  simp only [Function.comp]
  rw [h.gone_in _ (by omega) h3.1 h3.2,show x.a+(((r-x.a).toNat:Nat):Int)=r by omega]
theorem Ok.paset (h:Ok x lo hi) {p:Int} (h1:x.pa<=p) (h2:p<=x.ps):Ok { x with pa:=p } lo hi:=
 { h with lpa:=by have:=h.lpa;show lo<=p;omega,pas:=h2 }
/-! what goes again -/
theorem more_succ (x:S) (p:Option Int) (l:List Int) (j:Nat) (hj:j<l.length):more x p (l.take (j+1))=if (may x p (x.a+l.getD j 0) && !decide (x.a+l.getD j 0 ∈ x.again))=true then more x p (l.take j)++[x.a+l.getD j 0] else more x p (l.take j):=by
 unfold more
 rw [List.take_succ_eq_append_getElem hj,List.map_append,List.filter_append]
 have e:l.getD j 0=l[j]:=by simp [List.getD,List.getElem?_eq_getElem hj]
 rw [e]
 by_cases hh:(may x p (x.a+l[j]) && !decide (x.a+l[j] ∈ x.again))=true
 ·rw [if_pos hh]
  simp only [List.map_cons,List.map_nil,List.filter_cons,hh,if_true,List.filter_nil]
 ·rw [if_neg hh]
  simp only [List.map_cons,List.map_nil,List.filter_cons,hh,List.filter_nil]
  simp
theorem more_len (x:S) (p:Option Int) (l:List Int):(more x p l).length<=l.length:=by
 unfold more
 refine Nat.le_trans (List.length_filter_le _ _) ?_
 simp
theorem more_mem {x:S} {p:Option Int} {l:List Int} {n:Int}:n ∈ more x p l ↔ (n-x.a ∈ l/\may x p n=true/\n ∉ x.again):=by
 unfold more
 rw [List.mem_filter,List.mem_map]
 constructor
 ·rintro ⟨⟨i,hi,rfl⟩,h2⟩
  rw [show x.a+i-x.a=i by omega]
  rw [Bool.and_eq_true] at h2
  exact ⟨hi,h2.1,by simpa using h2.2⟩
 ·rintro ⟨h1,h2,h3⟩
  exact ⟨⟨n-x.a,h1,by omega⟩,by simp [h2,h3]⟩
theorem more_rising {x:S} {p:Option Int} {l:List Int} (h:Sp.Rising l):Sp.Rising (more x p l):=by
 unfold more Sp.Rising
 refine List.Pairwise.filter _ ?_
 rw [List.pairwise_map]
 exact h.imp (by intro a b hab;omega)
theorem nums_rising (x:S):Sp.Rising (nums x):=by
 unfold nums Sp.Rising
 rw [List.pairwise_map]
 exact List.pairwise_lt_range.imp (by intro a b hab;omega)
theorem mem_nums {x:S} {n:Int}:n ∈ nums x ↔ x.a<=n/\n<x.s:=by
 unfold nums
 rw [List.mem_map]
 constructor
 ·rintro ⟨i,hi,rfl⟩
  have:=List.mem_range.1 hi
  omega
 ·rintro ⟨h1,h2⟩
  exact ⟨(n-x.a).toNat,List.mem_range.2 (by omega),by omega⟩
theorem merge_rising (x:S) (m:List Int):Sp.Rising (merge x m):=(nums_rising x).filter _
theorem mem_merge {x:S} {m:List Int} {n:Int} (hm:∀ n ∈ m,x.a<=n/\n<x.s) (ha:∀ n ∈ x.again,x.a<=n/\n<x.s):n ∈ merge x m ↔ n ∈ x.again++m:=by
 unfold merge
 rw [List.mem_filter,mem_nums,List.mem_append]
 simp only [Bool.or_eq_true,decide_eq_true_eq]
 exact ⟨fun h=>h.2,fun h=>⟨h.elim (ha n) (hm n),h⟩⟩
theorem mem_pa {l:List Int} {n:Int} (hl:∀ m ∈ l,n-8000000<=m/\m<=n+8000000):n%16777216 ∈ pa l ↔ n ∈ l:=by
 unfold pa
 rw [List.mem_map]
 constructor
 ·rintro ⟨m,h1,h2⟩
  have:=hl m h1
  obtain rfl:m=n:=by omega
  exact h1
 ·exact fun h=>⟨n,h,rfl⟩
theorem Ok.contains (h:Ok x lo hi) {p:Option Int} {l:List Int} (hr:Sp.Rising l) (hb:∀ i ∈ l,0<=i/\i<x.s-x.a) (j:Nat) (hj:j<l.length) :
  decide ((x.a+l.getD j 0)%16777216 ∈ pa (x.again++more x p (l.take j)))=decide (x.a+l.getD j 0 ∈ x.again):=by
 have hk:=h.klen
 have hl:=h.kl
 have e:l.getD j 0=l[j]:=by simp [List.getD,List.getElem?_eq_getElem hj]
 have hj1:=hb l[j] (List.getElem_mem hj)
 have hin:∀ m ∈ x.again++more x p (l.take j),x.a<=m/\m<x.s:=fun m hm=>by
  rcases List.mem_append.1 hm with hm | hm
  ·exact h.ags m hm
  ·have:=hb _ (List.mem_of_mem_take (more_mem.1 hm).1)
   omega
 rw [e]
 congr 1
 apply propext
 rw [mem_pa fun m hm=>by have:=hin m hm;omega,List.mem_append]
 refine ⟨fun hh=>hh.elim id fun hm=>?_,Or.inl⟩
 have h1:=(more_mem.1 hm).1
 rw [show x.a+l[j]-x.a=l[j] by omega] at h1
 obtain ⟨i,hi,he⟩:=List.mem_take_iff_getElem.1 h1
 have:=(List.pairwise_iff_getElem.1 hr) i j (by omega) hj (by omega)
 omega
theorem Ok.ahead (h:Ok x lo hi) {p:Int} (h1:lo<=p) (h2:p<=hi) {n:Int} (h3:x.a<=n) (h4:n<x.s) :
  (decide (0<(p%16777216-x.last.getD (n-x.a).toNat 0%16777216)%16777216) && decide ((p%16777216-x.last.getD (n-x.a).toNat 0%16777216)%16777216<8388608))=may x (some p) n:=by
 have hk:=h.klen
 have ll:=h.llen
 have hj:(n-x.a).toNat<x.last.length:=by omega
 have e:x.last.getD (n-x.a).toNat 0=x.last[(n-x.a).toNat]:=by simp [List.getD,List.getElem?_eq_getElem hj]
 have hb:=h.lasts _ (List.getElem_mem hj)
 have:=h.phi
 have:=h.hl
 unfold may
 simp only [e]
 generalize x.last[(n-x.a).toNat]=q at *
 by_cases c1:q<p
 ·rw [decide_eq_true c1,decide_eq_true (show p-q<8388608 by omega),decide_eq_true (show 0<(p%16777216-q%16777216)%16777216 by omega),decide_eq_true (show (p%16777216-q%16777216)%16777216<8388608 by omega)]
 ·rw [decide_eq_false c1]
  by_cases c2:(p%16777216-q%16777216)%16777216<8388608
  ·rw [decide_eq_false (show ¬ 0<(p%16777216-q%16777216)%16777216 by omega)]
   rfl
  ·rw [decide_eq_false c2]
   simp
theorem Ok.sorted_is (h:Ok x lo hi) {p:Option Int} {l:List Int} (hr:Sp.Rising l) (hb:∀ i ∈ l,0<=i/\i<x.s-x.a) {M:List Int} (hp:List.Perm M (pa (x.again++more x p l)))
  (hs:M.Pairwise fun u v=>(u-x.a%16777216)%16777216<=(v-x.a%16777216)%16777216):M=pa (merge x (more x p l)):=by
 have hk:=h.klen
 have hl:=h.kl
 have hm:∀ n ∈ more x p l,x.a<=n/\n<x.s:=fun n hn=>by
  have:=hb _ (more_mem.1 hn).1
  omega
 have hin:∀ m ∈ x.again++more x p l,x.a<=m/\m<x.s:=fun m hm'=>(List.mem_append.1 hm').elim (h.ags m) (hm m)
 have hnd:(x.again++more x p l).Nodup:=by
  refine List.nodup_append.2 ⟨h.sorted.imp (by intro a b hab;omega),(more_rising hr).imp (by intro a b hab;omega),fun a ha b hb' e=>?_⟩
  subst e
  exact (more_mem.1 hb').2.2 ha
 have back:∀ L:List Int,(∀ m ∈ L,x.a<=m/\m<x.s)->(pa L).map (fun u=>x.a+(u-x.a%16777216)%16777216)=L:=fun L hL=>by
  unfold pa
  rw [List.map_map]
  have:∀ y ∈ L,((fun u=>x.a+(u-x.a%16777216)%16777216) ∘ fun n=>n%16777216) y=id y:=fun y hy=>by
   have:=hL y hy
   simp only [Function.comp,id]
   omega
  rw [List.map_congr_left this,List.map_id]
 have hp2:=hp.map (fun u=>x.a+(u-x.a%16777216)%16777216)
 rw [back _ hin] at hp2
 have hle:(M.map (fun u=>x.a+(u-x.a%16777216)%16777216)).Pairwise (· <= ·):=by
  rw [List.pairwise_map]
  exact hs.imp (by intro a b hab;omega)
 have hnd2:=hp2.nodup_iff.2 hnd
 have hlt:Sp.Rising (M.map (fun u=>x.a+(u-x.a%16777216)%16777216)):=by
  unfold Sp.Rising
  exact (hle.and hnd2).imp (by intro a b hab;have:=hab.1;have:=hab.2;omega)
 have e:=Sp.Rising.uniq hlt (merge_rising x (more x p l)) fun n=>by rw [mem_merge hm h.ags,hp2.mem_iff]
 rw [<- e]
 unfold pa
 rw [List.map_map]
 have:∀ y ∈ M,((fun n=>n%16777216) ∘ fun u=>x.a+(u-x.a%16777216)%16777216) y=id y:=fun y hy=>by
  have h1:=hp.mem_iff.1 hy
  unfold pa at h1
  obtain ⟨z,_,rfl⟩:=List.mem_map.1 h1
  simp only [Function.comp,id]
  omega
 rw [List.map_congr_left this,List.map_id]
theorem Ok.rep (h:Ok x lo hi) (p:Option Int) (l:List Int):Ok (rep x p l).1 lo hi:=
 { h with
  sorted:=merge_rising x _
  ags:=fun _n hn=>mem_nums.1 (List.mem_filter.1 hn).1 }
theorem Ok.told (h:Ok x lo hi) {r:Int} {l:List Int} (hk:toldOk x r l=true):Sp.Rising (told x (at_ x r) l)/\(∀ i ∈ told x (at_ x r) l,0<=i/\i<x.s-at_ x r)/\x.a<=at_ x r/\at_ x r<=x.s/\Gp.okSet (at_ x r) x.s l=true:=by
 unfold toldOk at hk
 rw [Bool.and_eq_true,decide_eq_true_eq] at hk
 obtain ⟨h1,h2⟩:=hk
 have h3:=(Ok.at_bd x r).1
 have hkl:=h.klen
 have hl:=h.kl
 have h4:=h2
 unfold Gp.okSet at h4
 simp only [Bool.and_eq_true,decide_eq_true_eq] at h4
 obtain ⟨i1,i2⟩:=Gp.up_rise _ _ _ h4.2
 refine ⟨i1,fun i hi=>?_,h3,h1,h2⟩
 have:=i2 i hi
 omega
end
end Sf
namespace Sf
section
variable {x:S} {lo hi:Int}
theorem Ok.poll_bd (_h:Ok x lo hi) (ps:Int):x.pa<=pollAt x ps:=by unfold pollAt;omega
theorem Ok.stat (h:Ok x lo hi) (r mr ps:Int) (l:List Int):Ok (stat x r mr ps l).1 lo hi:=by
 unfold Sf.stat
 by_cases h1:x.ps<pollAt x ps
 ·rw [if_pos h1]
  exact h
 ·rw [if_neg h1]
  cases h2:toldOk x r l with
  |false=>exact h
  |true =>
   obtain ⟨_,_,h3,h4,_⟩:=h.told h2
   exact (((h.ack h3 h4).paset (p:=pollAt x ps) (h.poll_bd ps) (by show pollAt x ps<=x.ps;omega)).opn mr).rep _ _
theorem Ok.left (h:Ok x lo hi) (j:Nat) (hj:j<x.kept.length):mget (prog x).m ((x.a%16777216+(j:Int))%16777216)=some (x.kept.getD j default,x.last.getD j 0%16777216):=by
 have hk:=h.klen
 have:=pm_get x.a x.kept x.last j h.llen (by have:=h.kl;omega) hj
 rw [show (x.a%16777216+(j:Int))%16777216=(x.a+(j:Int))%16777216 by omega]
 exact this
end
end Sf
open Go.RowKit
theorem spoll_any (p:Nat) (F:Nat->Prop) (st:Sd.S) (w:World) (h:SendAt w p F st) :
  Calls Tryz.prog 82 #[.pointer (some ⟨p,0,none⟩)] w fun e w'=>e=.returned (.tuple #[.int .u32 ((st.ps+1)%16777216),.int .u32 st.s])/\SendAt w' p F { st with ps:=(st.ps+1)%16777216,units:=0 }/\Touch F w w':=by
 obtain ⟨g,b,k,A,c,h1,hF⟩:=h.open_
 have c3:w.cell? ⟨p,3,none⟩=some (.int .u32 st.ps):=h1.blk.cell 3
 have f3:=h1.blk.frozen 3
 have i2:SendIn (w.setCell ⟨p,3,none⟩ (.int .u32 ((st.ps+1)%16777216))) p g b k A c { st with ps:=(st.ps+1)%16777216 }:=h1.scalar 3 _ rfl rfl rfl rfl rfl
 have f5:=i2.blk.frozen 5
 have c5:(w.setCell ⟨p,3,none⟩ (.int .u32 ((st.ps+1)%16777216))).cell? ⟨p,5,none⟩=some (.int .i64 st.units):=i2.blk.cell 5
 have i3:SendIn ((w.setCell ⟨p,3,none⟩ (.int .u32 ((st.ps+1)%16777216))).setCell ⟨p,5,none⟩ (.int .i64 0)) p g b k A c { st with ps:=(st.ps+1)%16777216,units:=0 }:=i2.scalar 5 _ rfl rfl rfl rfl rfl
 have T3:Hid (Touch F w ((w.setCell ⟨p,3,none⟩ (.int .u32 ((st.ps+1)%16777216))).setCell ⟨p,5,none⟩ (.int .i64 0))):=((Touch.refl F w).st hF.p).st hF.p
 have I3:=lh i3
 have HF:=lh hF
 have d0:((w.setCell ⟨p,3,none⟩ (.int .u32 ((st.ps+1)%16777216))).setCell ⟨p,5,none⟩ (.int .i64 0)).cell? ⟨p,0,none⟩=some (.int .u32 st.s):=i3.blk.cell 0
 have d3:((w.setCell ⟨p,3,none⟩ (.int .u32 ((st.ps+1)%16777216))).setCell ⟨p,5,none⟩ (.int .i64 0)).cell? ⟨p,3,none⟩=some (.int .u32 ((st.ps+1)%16777216)):=i3.blk.cell 3
 clear h h1 hF i2 i3
 go_enter Tryz.func82,Tryz.ntmps82
 go_wp2_with fail
 refine (sadd_any st.ps 1 w).mono ?_
 rintro e w1 ⟨rfl,rfl⟩
 simp only
 go_upto_region 2 with (fail)
 generalize (World.setCell (w1.setCell ⟨p,3,none⟩ (.int .u32 ((st.ps+1)%16777216))) ⟨p,5,none⟩ (.int .i64 0))=w2 at *
 go_quiet (fail)
 go_wp2
 go_ret2
 exact ⟨rfl,SendAt.mk' (I3.out.drewN _) HF.out,T3.out.drewN _⟩
theorem ringStr_allm (g:Nat) (b:Option Nat) (most:Nat) (q:List ByteArray) (w:World) (h:RingStr w g b most q) :
  Calls Tryz.prog 159 #[.pointer (some ⟨g,0,none⟩)] w fun e w'=>∃ A' c',e=.returned (.slice A' q.length c')/\Mine strE w w' A' c' q:=by
 obtain ⟨A,c,a,buf,hb,hs,rfl,hm1,hm2,hg⟩:=h
 exact (ringStr_all g A c a most buf q w hb hs ⟨hm1,hm2⟩ hg).mono fun e w' ⟨A',c',h1,h2,h3,h4,_⟩=>⟨A',c',h1,h2,h3,h4⟩
set_option maxRecDepth 4000 in
theorem sleft_any (p:Nat) (F:Nat->Prop) (x:Sf.S) (lo hi:Int) (hok:Sf.Ok x lo hi) (w:World) (h:SendAt w p F (Sf.prog x)) :
  Calls Tryz.prog 100 #[.pointer (some ⟨p,0,none⟩)] w fun e w'=>∃ B d,e=.returned (.slice B (x.kept++x.wait).length d)/\Mine strE w w' B d (x.kept++x.wait):=by
 obtain ⟨g,b,k,A,c,h1,hF⟩:=h.open_
 have HI:=lh h1
 have KEEP:Hid (∀ W,Fresh w W->W.cell? ⟨p,0,none⟩=some (.int .u32 (x.s%16777216))/\W.cell? ⟨p,1,none⟩=some (.int .u32 (x.a%16777216))/\W.cell? ⟨p,7,none⟩=some (.pointer (some ⟨g,0,none⟩))/\W.cell? ⟨p,8,none⟩=some (.map (some k))/\MapAt numK W k (Sd.mapV (Sf.prog x).m)/\RingStr W g b x.most x.wait):=fun W hf =>
  ⟨(hf.blk h1.blk (fun h=>h)).cell 0,(hf.blk h1.blk (fun h=>h)).cell 1,(hf.blk h1.blk (fun h=>h)).cell 7,(hf.blk h1.blk (fun h=>h)).cell 8,h1.map.touch hf (fun h=>h),h1.ring.touch hf (fun h=>h) (fun _ _ h=>h)⟩
 have hk:=hok.klen
 have hl:=hok.kl
 have hwl:=hok.wlen
 have hmo:=hok.most
 have HG:Hid (∀ j,j<x.kept.length->mget (Sd.mapV (Sf.prog x).m) ((x.a+(j:Int))%16777216)=some (Sd.itemV (x.kept.getD j default,x.last.getD j 0%16777216))):=fun j hj=>by
  rw [Sd.mapV_get]
  have:=hok.left j hj
  rw [show (x.a%16777216+(j:Int))%16777216=(x.a+(j:Int))%16777216 by omega] at this
  rw [this]
  rfl
 have hz:∀ W,(zeroValue 247).run Tryz.prog W=.ok (.agg #[.string ByteArray.empty,.int .u32 0]) W:=fun W=>by kernel_rfl
 obtain ⟨c0,c1,c7,c8,_,_⟩:=KEEP.out w (Touch.refl _ _)
 clear h h1 hF hok HI
 go_enter Tryz.func100,Tryz.ntmps100
 go_wp2_with fail
 go_loopw [3,4] (fun s3 s4 wr=>∃ (j:Nat) (C:Option Addr) (d:Nat) (M:List ByteArray),j<=x.kept.length/\s3=.slice C M.length d/\s4=.int .u32 ((x.a+(j:Int))%16777216)/\Hid (M=x.kept.take j)/\Hid (Mine strE w wr C d M)) (fun _ s4 _=>((x.s-intOf s4)%16777216).toNat)
 case atStart=>exact ⟨0,none,0,[],by omega,rfl,by simp,by unfold Hid;simp,Mine.nil _ _⟩
 case round =>
  obtain ⟨j,C,d,M,hj,rfl,rfl,HMe,HM⟩:=hrel
  clear c0 c1 c7 c8
  obtain ⟨c0,c1,c7,c8,hmap,hring⟩:=KEEP.out wr HM.out.fresh
  have HMap:=lh hmap
  have HRing:=lh hring
  clear hmap hring
  have hML:Hid (M.length=j):=by unfold Hid;rw [HMe.out];simp;omega
  by_cases hlt:j<x.kept.length
  ·have hne:((x.a+(j:Int))%16777216==x.s%16777216)=false:=by simp;omega
   have HMs:Hid (x.kept.take (j+1)=M++[x.kept.getD j default]):=by
    unfold Hid
    rw [List.take_succ_eq_append_getElem hlt,HMe.out]
    simp [List.getD,List.getElem?_eq_getElem hlt]
   have HGj:=lh (HG.out j hlt)
   have hnx:((x.a+(j:Int))%16777216+1)%16777216=(x.a+((j+1:Nat):Int))%16777216:=by omega
   have hms:((x.s-(x.a+((j+1:Nat):Int))%16777216)%16777216).toNat<((x.s-(x.a+(j:Int))%16777216)%16777216).toNat:=by omega
   have HSA:=lh (sadd_any ((x.a+(j:Int))%16777216) 1)
   rw [hnx] at HSA
   generalize hv:x.kept.getD j default=v at *
   generalize hq:x.last.getD j 0%16777216=q at *
   generalize hn0:(x.a+(j:Int))%16777216=n0 at *
   have hfd:(Instr.field 247 (Value.agg #[Value.string v,Value.int .u32 q]) 0).run Tryz.prog wr=.ok (.string v) wr:=by kernel_rfl
   have hMb:M.length+1<=8796093022208:=by have:=hML.out;omega
   clear hML HMe HG hv hq hn0 hnx HRing
   go_wp2_with (first
    |(refine wpList_lookM rfl rfl (K:=numK) (k:=n0) rfl rfl HMap.out Tryz.underlying158 (hz _) ?_;rw [if_neg (by decide),HGj.out];simp only [Option.getD_some,Sd.itemV])
    |(at_builtin;refine app_str rfl rfl (l:=M) (l2:=[v]) rfl rfl (by exact HM.out.sl.alloc _) (Sl.rd (Sl.lit strE _ _ rfl _ _ rfl _ rfl (by decide))) (by simp;omega) ?_;intro A2 c2 L2 w2 hL2 hs2 ht2 hA2)
    |(go_at_call 62;refine (HSA.out _).mono ?_;rintro e' w' ⟨rfl,rfl⟩))
   have HM2:=lh ((HM.out.alloc (.cells #[.string v] 9)).app hs2 ht2 hA2)
   have HMe2:Hid (L2=x.kept.take (j+1)):=by unfold Hid;rw [hL2.out,HMs.out]
   go_roundw
   case rel=>exact ⟨j+1,A2,c2,L2,hlt,rfl,rfl,HMe2,HM2⟩
   case measure=>simp only [intOf];exact hms
  ·obtain rfl:j=x.kept.length:=by omega
   have hne:((x.a+(x.kept.length:Int))%16777216==x.s%16777216)=true:=by rw [hk];simp
   have HA:=lh (ringStr_allm g b x.most x.wait wr HRing.out)
   have HME:Hid (M=x.kept):=by unfold Hid;rw [HMe.out,List.take_length]
   have hMb:M.length+x.wait.length<=8796093022208:=by have:=hML.out;omega
   clear hML HMe HG HRing HMap
   go_wp2_with fail
   refine HA.out.mono ?_
   rintro e w3 ⟨B,d3,rfl,m3⟩
   have HM3:=lh (HM.out.old m3.fresh)
   have HW:=lh m3.sl.rd
   clear m3
   simp only
   go_wp2_with (at_builtin;refine app_str rfl rfl (l:=M) (l2:=x.wait) rfl rfl HM3.out.sl HW.out hMb ?_;intro A2 c2 L2 w2 hL2 hs2 ht2 hA2)
   have HM4:=lh (HM3.out.app hs2 ht2 hA2)
   have HL2:Hid (L2=x.kept++x.wait):=by unfold Hid;rw [hL2.out,HME.out]
   go_ret
   exact ⟨A2,c2,by rw [<- HL2.out];rfl,HL2.out ▸ HM4.out⟩
theorem swithin_any (a x b:Int) (w:World):Calls Tryz.prog 215 #[.int .u32 a,.int .u32 x,.int .u32 b] w fun e w'=>e=.returned (.bool (decide ((x-a)%16777216<=(b-a)%16777216)))/\w'=w:=by
 have H1:=lh (to_any a x)
 have H2:=lh (to_any a b)
 generalize (x-a)%16777216=d at *
 generalize (b-a)%16777216=f at *
 go_enter Tryz.func215,Tryz.ntmps215
 go_wp2_with fail
 refine (H1.out _).mono ?_
 rintro e w1 ⟨rfl,rfl⟩
 simp only
 go_wp2_with fail
 refine (H2.out _).mono ?_
 rintro e w1 ⟨rfl,rfl⟩
 simp only
 go_wp2
 go_ret
 exact ⟨rfl,rfl⟩
def ToldPost (x:Sf.S) (r:Int) (l:List Int) (w:World) (e:Ending) (w':World):Prop:=
 (Sf.toldOk x r l=true->∃ C g S,e=.returned (.tuple #[.slice C S.length g,.bool true])/\Mine spanE w w' C g S/\Sp.IsOf (Gp.prs (Gp.ats (Sf.at_ x r) l)) S) /\
 (Sf.toldOk x r l=false->e=.returned (.tuple #[.slice none 0 0,.bool false])/\Fresh w w')
theorem stold_any (p:Nat) (F:Nat->Prop) (x:Sf.S) (lo hi:Int) (hok:Sf.Ok x lo hi) (r:Int) (A:Option Addr) (c:Nat) (l:List Int) (w:World) (h:SendAt w p F (Sf.prog x)) (hr:Rd numE w A c l) (hl:l.length<=1000000) :
  Calls Tryz.prog 216 #[.pointer (some ⟨p,0,none⟩),.int .u32 r,.slice A l.length c] w (ToldPost x r l w):=by
 obtain ⟨g,b,k,A',c',h1,hF⟩:=h.open_
 have c0:w.cell? ⟨p,0,none⟩=some (.int .u32 (x.s%16777216)):=h1.blk.cell 0
 have c1:w.cell? ⟨p,1,none⟩=some (.int .u32 (x.a%16777216)):=h1.blk.cell 1
 have HWI:Hid (∀ W,Calls Tryz.prog 215 #[.int .u32 (x.a%16777216),.int .u32 r,.int .u32 (x.s%16777216)] W fun e w'=>e=.returned (.bool (decide (Sf.at_ x r<=x.s)))/\w'=W):=fun W=>by
  rw [<- hok.within r]
  exact swithin_any _ _ _ W
 have HS:Hid (∀ W,Fresh w W->Calls Tryz.prog 238 #[.int .u32 r,.int .u32 (x.s%16777216),.slice A l.length c] W (SetPost r (x.s%16777216) l W)):=fun W hf=>gset_any r (x.s%16777216) A c l W (hr.touch hf (fun _ _ _ h=>h)) hl
 have HP:Hid (∀ W e w',Fresh w W->SetPost r (x.s%16777216) l W e w'->Sf.at_ x r<=x.s->ToldPost x r l w e w'):=fun W e w' hf hp hle=>by
  have e1:Sf.toldOk x r l=Gp.okSet r (x.s%16777216) l:=by unfold Sf.toldOk;rw [decide_eq_true hle,Sf.okSet_at];rfl
  unfold ToldPost
  rw [e1,<- Sf.ats_at x r l]
  refine ⟨fun h=>?_,fun h=>?_⟩
  ·obtain ⟨C,g,S,e1,m,ho⟩:=hp.1 h
   exact ⟨C,g,S,e1,m.back hf,ho⟩
  ·obtain ⟨e1,f1⟩:=hp.2 h
   exact ⟨e1,hf.trans f1 (fun _ _ h=>h)⟩
 have HN:Hid (¬ Sf.at_ x r<=x.s->Sf.toldOk x r l=false):=fun hn=>by unfold Sf.toldOk;rw [decide_eq_false hn];rfl
 clear h h1 hF hok hr
 generalize x.s%16777216=sv at *
 generalize x.a%16777216=av at *
 go_enter Tryz.func216,Tryz.ntmps216
 by_cases hle:Sf.at_ x r<=x.s
 ·rw [decide_eq_true hle] at HWI
  have HP2:=lh (fun W e w' hf h=>HP.out W e w' hf h hle)
  clear HP HN hle
  go_upto_region 1 with (fail)
  go_quiet ((go_at_call 215;refine Calls.quiet_of_same (HWI.out _)))
  have F1:Hid (Fresh w (w.drewN nq)):=(Touch.refl _ _).drewN _
  have c0':(w.drewN nq).cell? ⟨p,0,none⟩=some (.int .u32 sv):=c0
  generalize w.drewN nq=w1 at *
  go_wp2_with fail
  refine (HS.out _ F1.out).mono ?_
  rintro e w2 hp
  have HQ:=HP2.out _ e w2 F1.out hp
  clear hp HP2 HS HWI c0 c0' c1
  cases ht:Sf.toldOk x r l with
  |true =>
   obtain ⟨C,g2,S,rfl,m,ho⟩:=HQ.1 ht
   have HM:=lh m
   have HO:=lh ho
   clear HQ m ho
   go_wp2
   go_ret2
   exact ⟨fun _=>⟨C,g2,S,rfl,HM.out,HO.out⟩,fun hh=>absurd (ht.symm.trans hh) (by decide)⟩
  |false =>
   obtain ⟨rfl,f⟩:=HQ.2 ht
   have HM:=lh f
   clear HQ f
   go_wp2
   go_ret2
   exact ⟨fun hh=>absurd (ht.symm.trans hh) (by decide),fun _=>⟨rfl,HM.out⟩⟩
 ·rw [decide_eq_false hle] at HWI
  have HF:=HN.out hle
  clear HP HN hle HS
  go_upto_region 1 with (fail)
  go_quiet ((go_at_call 215;refine Calls.quiet_of_same (HWI.out _)))
  go_wp2
  go_ret2
  exact ⟨fun hh=>absurd (HF.symm.trans hh) (by decide),fun _=>⟨rfl,(Touch.refl _ _).drewN _⟩⟩
set_option maxRecDepth 4000 in
theorem sackcl_any (s p k:Nat) (m:List (Int × (ByteArray × Int))) (n:Int) (w:World) (cs:w.cell? ⟨s,0,none⟩=some (.pointer (some ⟨p,0,none⟩))) (c8:w.cell? ⟨p,8,none⟩=some (.map (some k))) (hm:MapAt numK w k (Sd.mapV m)) :
  Calls Tryz.prog 240 #[.int .u32 n,.pointer (some ⟨s,0,none⟩)] w fun e w'=>e=.returned (.bool (!(mget m n).isSome))/\Fresh w w':=by
 have hz:∀ W,(zeroValue 247).run Tryz.prog W=.ok (.agg #[.string ByteArray.empty,.int .u32 0]) W:=fun W=>by kernel_rfl
 have HM:=lh hm
 have HL:Hid (∃ v q,(mget (Sd.mapV m) n).getD (.agg #[.string ByteArray.empty,.int .u32 0])=.agg #[.string v,.int .u32 q]/\(mget (Sd.mapV m) n).isSome=(mget m n).isSome):=by
  unfold Hid
  rw [Sd.mapV_get]
  cases mget m n with
  |none=>exact ⟨_,_,rfl,rfl⟩
  |some y=>exact ⟨_,_,rfl,rfl⟩
 obtain ⟨v,q,hv,hs⟩:=HL.out
 have HV:=lh hv
 have HS:=lh hs
 clear hm hv hs HL
 generalize (mget m n).isSome=z at *
 go_enter Tryz.func240,Tryz.ntmps240
 go_wp2_with (refine wpList_lookM rfl rfl (K:=numK) (k:=n) rfl rfl HM.out Tryz.underlying158 (hz _) ?_;rw [if_pos rfl,HV.out,HS.out])
 go_ret
 exact ⟨rfl,(by first | exact ((Touch.refl _ _).alloc _) | exact (((Touch.refl _ w).alloc _).setCell (fun h=>by simp at h) _))⟩
set_option maxRecDepth 4000 in
theorem sidxf_any (s:Nat) (pr:Int->Bool) (A:Option Addr) (c:Nat) (l:List Int) (w:World) (h:Rd numE w A c l) (hl:l.length<=1000000)
  (hp:∀ W x,Fresh w W->Calls Tryz.prog 240 #[.int .u32 x,.pointer (some ⟨s,0,none⟩)] W fun e w'=>e=.returned (.bool (pr x))/\Fresh W w') :
  Calls Tryz.prog 171 #[.slice A l.length c,.func (.func 240) #[] #[.pointer (some ⟨s,0,none⟩)]] w fun e w'=>Fresh w w'/\((e=.returned (.int .i64 (-1))/\∀ x ∈ l,pr x=false)\/∃ k:Nat,k<l.length/\e=.returned (.int .i64 k)/\pr (l.getD k 0)=true/\∀ x ∈ l.take k,pr x=false):=by
 have H:=lh h
 have HP:=lh hp
 have eg:∀ args w,(callFunc 240 args).run Tryz.prog w=.ok (.enter 240 args) w:=enters_of Tryz.func240 (by kernel_rfl) rfl
 clear h hp
 go_enter Tryz.func171,Tryz.ntmps171
 go_wp2_with fail
 go_loopw [8] (fun s8 wr=>∃ k:Nat,k<=l.length/\s8=.int .i64 k/\Hid (∀ x ∈ l.take k,pr x=false)/\Hid (Fresh w wr)) (fun s8 _=>l.length-(intOf s8).toNat)
 case atStart=>exact ⟨0,by omega,rfl,fun x hx=>by simp at hx,Touch.refl _ _⟩
 case round =>
  obtain ⟨k,hk,rfl,HB,HF⟩:=hrel
  by_cases hlt:k<l.length
  ·have hk1:(k:Int)<(l.length:Int):=by omega
   have hk0:(0:Int)<=(k:Int):=by omega
   obtain ⟨g,o,rfl,_,c0⟩:=(H.out.touch HF.out (fun _ _ _ h=>h)).num_at k hlt
   have HT:Hid (l.take (k+1)=l.take k++[l.getD k 0]):=by
    unfold Hid
    rw [List.take_succ_eq_append_getElem hlt]
    simp [List.getD,List.getElem?_eq_getElem hlt]
   generalize hy:l.getD k 0=y at *
   have HC:=lh (HP.out wr y HF.out)
   generalize hz:pr y=z at *
   go_wp2_with fail
   refine HC.out.mono ?_
   rintro e w2 ⟨rfl,f2⟩
   have F2:=lh (HF.out.trans f2 (fun _ _ h=>h))
   clear f2 HC HF eg
   cases z with
   |true =>
    go_wp2
    go_ret
    exact ⟨F2.out,.inr ⟨k,hlt,rfl,by rw [hy,hz],HB.out⟩⟩
   |false =>
    have HB2:Hid (∀ x ∈ l.take (k+1),pr x=false):=fun x hx=>by
     rw [HT.out] at hx
     rcases List.mem_append.1 hx with hx | hx
     ·exact HB.out x hx
     ·rw [List.mem_singleton.1 hx]
      exact hz
    clear HB
    go_wp2
    go_roundw
    case rel=>exact ⟨k+1,hlt,by go_num,HB2,F2⟩
    case measure=>simp [intOf];omega
  ·obtain rfl:k=l.length:=by omega
   have HB2:Hid (∀ x ∈ l,pr x=false):=fun x hx=>HB.out x (by rw [List.take_length];exact hx)
   clear HB
   go_wp2
   go_ret
   exact ⟨HF.out,.inl ⟨rfl,HB2.out⟩⟩
theorem filt_succ (pr:Int->Bool) (l:List Int) (j:Nat) (hj:j<l.length):(l.take (j+1)).filter (fun x=>!pr x)=if pr (l.getD j 0)=true then (l.take j).filter (fun x=>!pr x) else (l.take j).filter (fun x=>!pr x)++[l.getD j 0]:=by
 have e:l.getD j 0=l[j]:=by simp [List.getD,List.getElem?_eq_getElem hj]
 rw [List.take_succ_eq_append_getElem hj,List.filter_append,e]
 by_cases h:pr l[j]=true
 ·rw [if_pos h]
  simp [h]
 ·rw [if_neg h]
  simp [h]
theorem filt_le (pr:Int->Bool) (l:List Int) (j:Nat):((l.take j).filter (fun x=>!pr x)).length<=j:=by
 refine Nat.le_trans (List.length_filter_le _ _) ?_
 simp
 omega
structure DelAt (pr:Int->Bool) (l M:List Int) (j:Nat):Prop where
 len:M.length=l.length
 take:M.take ((l.take j).filter (fun x=>!pr x)).length=(l.take j).filter (fun x=>!pr x)
 drop:M.drop j=l.drop j
theorem DelAt.getD {pr:Int->Bool} {l M:List Int} {j:Nat} (h:DelAt pr l M j) (_hj:j<l.length):M.getD j 0=l.getD j 0:=by
 have h1:M[j]?=l[j]?:=by
  have:=congrArg (fun L=>L[0]?) h.drop
  simpa using this
 simp [List.getD,h1]
theorem DelAt.skip {pr:Int->Bool} {l M:List Int} {j:Nat} (h:DelAt pr l M j) (hj:j<l.length) (hp:pr (l.getD j 0)=true):DelAt pr l M (j+1):=by
 refine ⟨h.len,?_,?_⟩
 ·rw [filt_succ pr l j hj,if_pos hp]
  exact h.take
 ·have:=congrArg (List.drop 1) h.drop
  simpa [List.drop_drop,Nat.add_comm] using this
theorem DelAt.keep {pr:Int->Bool} {l M:List Int} {j:Nat} (h:DelAt pr l M j) (hj:j<l.length) (hp:pr (l.getD j 0)=false):DelAt pr l (M.set ((l.take j).filter (fun x=>!pr x)).length (l.getD j 0)) (j+1):=by
 have hle:=filt_le pr l j
 have e:=filt_succ pr l j hj
 rw [if_neg (by rw [hp];decide)] at e
 refine ⟨by rw [List.length_set];exact h.len,?_,?_⟩
 ·rw [e,List.length_append,List.length_singleton,List.take_succ_eq_append_getElem (by rw [List.length_set,h.len];omega),List.getElem_set_self,List.take_set_of_le (Nat.le_refl _),h.take]
 ·rw [List.drop_set_of_lt (by omega)]
  have:=congrArg (List.drop 1) h.drop
  simpa [List.drop_drop,Nat.add_comm] using this
theorem DelAt.first {pr:Int->Bool} {l:List Int} {k:Nat} (hk:k<=l.length) (h:∀ x ∈ l.take k,pr x=false):DelAt pr l l k/\((l.take k).filter (fun x=>!pr x)).length=k:=by
 have e:(l.take k).filter (fun x=>!pr x)=l.take k:=List.filter_eq_self.2 fun x hx=>by simp [h x hx]
 have e2:(l.take k).length=k:=by simp;omega
 exact ⟨⟨rfl,by rw [e,e2],rfl⟩,by rw [e,e2]⟩
theorem Sl.tail_set {w:World} {g o c:Nat} {l:List Int} (h:Sl numE w (some ⟨g,o,none⟩) c l) (i:Nat) (hi:i<=l.length) (vs:List Value) (hv:i+vs.length<=c) :
  Sl numE (w.setCells g (o+i) vs) (some ⟨g,o,none⟩) c (l.take i):=by
 refine ⟨by have:=h.1;simp;omega,h.2.1,h.2.2.1,fun ad ha=>?_⟩
 obtain ⟨h1,cs,hb,h2,h3⟩:=h.2.2.2 ad ha
 injection ha with ha
 subst ha
 have hz:numE.size=1:=rfl
 rw [hz,Nat.mul_one] at h2 h3
 simp only at h2 h3 hb
 have e1:numE.all (l.take i)=(numE.all l).take i:=by have:=numE.all_take l i;rw [hz,Nat.mul_one] at this;exact this.symm
 have e2:(l.take i).length=i:=by simp;omega
 have hcl:=h.1
 refine ⟨rfl,_,Blk.setCells_at vs (o+i) hb (by omega),?_,?_⟩
 ·rw [hz,Nat.mul_one]
  show o+c<=_
  simp
  omega
 ·show List.take _ (List.drop o _)=_
  rw [hz,Nat.mul_one,e1,<- h3,e2,List.take_take,Nat.min_eq_left hi,List.append_assoc,List.drop_append_of_le_length (by simp;omega),List.take_append_of_le_length (by simp;omega),List.drop_take,List.take_take]
  congr 1
  omega
set_option maxRecDepth 4000 in
theorem sdelf_any (s:Nat) (pr:Int->Bool) (g o c:Nat) (l:List Int) (w:World) (h:Sl numE w (some ⟨g,o,none⟩) c l) (hl:l.length<=1000000)
  (hp:∀ W x,Touch (· = g) w W->Calls Tryz.prog 240 #[.int .u32 x,.pointer (some ⟨s,0,none⟩)] W fun e w'=>e=.returned (.bool (pr x))/\Fresh W w') :
  Calls Tryz.prog 239 #[.slice (some ⟨g,o,none⟩) l.length c,.func (.func 240) #[] #[.pointer (some ⟨s,0,none⟩)]] w fun e w'=>e=.returned (.slice (some ⟨g,o,none⟩) (l.filter fun x=>!pr x).length c)/\Sl numE w' (some ⟨g,o,none⟩) c (l.filter fun x=>!pr x)/\Touch (· = g) w w':=by
 have H:=lh h
 have HP:=lh hp
 have HI:=lh (sidxf_any s pr (some ⟨g,o,none⟩) c l w h.rd hl (fun W x hf=>hp W x (hf.mono (fun _ _ h=>h.elim))))
 have eg:∀ args w,(callFunc 240 args).run Tryz.prog w=.ok (.enter 240 args) w:=enters_of Tryz.func240 (by kernel_rfl) rfl
 have hcl:=h.1
 have hcm:=h.2.1
 unfold maxLen at hcm
 clear h hp
 go_enter Tryz.func239,Tryz.ntmps239
 go_wp2_with fail
 refine HI.out.mono ?_
 rintro e w1 ⟨f1,hcase⟩
 have F1:=lh f1
 rcases hcase with ⟨rfl,hall⟩ | ⟨k,hk,rfl,hpk,hfirst⟩
 ·have HA:Hid (l.filter (fun x=>!pr x)=l):=List.filter_eq_self.2 fun x hx=>by simp [hall x hx]
  clear f1 hall HI HP
  simp only
  go_wp2
  go_ret
  exact ⟨by rw [HA.out];rfl,by rw [HA.out];exact H.out.touch F1.out (fun _ _ h=>h),F1.out.mono (fun _ _ h=>h.elim)⟩
 ·have hke:((k:Int)==-1)=false:=by simp
  obtain ⟨d1,d2⟩:=DelAt.first (pr:=pr) (l:=l) (Nat.le_of_lt hk) hfirst
  have HD0:=lh (d1.skip hk hpk)
  have HL0:Hid (((l.take (k+1)).filter (fun x=>!pr x)).length=k):=by unfold Hid;rw [filt_succ pr l k hk,if_pos hpk];exact d2
  have S1:=lh (H.out.touch f1 (fun _ _ h=>h))
  have T1:Hid (Touch (· = g) w w1):=f1.mono (fun _ _ h=>h.elim)
  clear f1 d1 d2 hfirst hpk HI F1 H
  simp only
  go_wp2_with fail
  go_loopw [5,6] (fun s5 s6 wr=>∃ (i j:Nat) (M:List Int),j<=l.length/\i<j/\s5=.int .i64 i/\s6=.int .i64 j/\Hid (((l.take j).filter (fun x=>!pr x)).length=i)/\Hid (DelAt pr l M j)/\Hid (Sl numE wr (some ⟨g,o,none⟩) c M)/\Hid (Touch (· = g) w wr)) (fun _ s6 _=>l.length-(intOf s6).toNat)
  case atStart=>exact ⟨k,k+1,l,hk,by omega,rfl,by go_num,HL0,HD0,S1,T1⟩
  case round =>
   clear HD0 HL0 S1 T1
   obtain ⟨i,j,M,hj,hij,rfl,rfl,HL,HD,HS,HT⟩:=hrel
   by_cases hlt:j<l.length
   ·have hj1:(j:Int)<(l.length:Int):=by omega
    have hj0:(0:Int)<=(j:Int):=by omega
    have hi1:(i:Int)<(l.length:Int):=by omega
    have hi0:(0:Int)<=(i:Int):=by omega
    have hML:M.length=l.length:=HD.out.len
    obtain ⟨_,_,e1,_,c0⟩:=HS.out.num_at j (by omega)
    cases e1
    rw [HD.out.getD hlt] at c0
    have HK:=lh (fun h=>HD.out.keep hlt h)
    have HSk:=lh (fun h=>HD.out.skip hlt h)
    have HLs:=lh (filt_succ pr l j hlt)
    have HC:=lh (HP.out wr (l.getD j 0) HT.out)
    generalize hy:l.getD j 0=y at *
    generalize hz:pr y=z at *
    go_wp2_with fail
    refine HC.out.mono ?_
    rintro e w2 ⟨rfl,f2⟩
    have S2:=lh (HS.out.touch f2 (fun _ _ h=>h))
    have T2:=lh (HT.out.trans f2 (fun _ _ h=>h.elim))
    clear f2 HC HS HT
    cases z with
    |true =>
     go_wp2
     go_roundw
     case rel=>exact ⟨i,j+1,M,hlt,by omega,rfl,by go_num,by unfold Hid;rw [HLs.out];simp only [if_true];exact HL.out,HSk.out (by first | rfl | trivial),S2,T2⟩
     case measure=>simp [intOf];omega
    |false =>
     obtain ⟨_,_,e1,_,ci⟩:=S2.out.num_at i (by omega)
     cases e1
     have fi:=S2.out.frozen g o rfl (o+i)
     have S3:=lh (S2.out.set1 rfl rfl (i:=i) (x:=y) (u:=.int .u32 y) rfl)
     have T3:Hid (Touch (· = g) w (w2.setCell ⟨g,o+i,none⟩ (.int .u32 y))):=T2.out.st rfl
     have HK2:=lh (HK.out rfl)
     rw [HL.out] at HK2
     go_wp2
     go_roundw
     case rel=>exact ⟨i+1,j+1,M.set i y,hlt,by omega,by go_num,by go_num,by unfold Hid;rw [HLs.out];simp only [Bool.false_eq_true,if_false];rw [List.length_append,HL.out];rfl,HK2,S3,T3⟩
     case measure=>simp [intOf];omega
   ·obtain rfl:j=l.length:=by omega
    have hi1:(i:Int)<=(l.length:Int):=by omega
    have hi0:(0:Int)<=(i:Int):=by omega
    have hn0:((l.length:Nat):Int)<=(c:Int):=by omega
    clear hlt hj
    have hS:=HS.out
    have hML:M.length=l.length:=HD.out.len
    have hci:(c=i)=False:=by simp;omega
    have hclr:∀ ty,(Builtin.clear_ #[47] ty #[.slice (some ⟨g,o+i,none⟩) (l.length-i) (c-i)]).run Tryz.prog wr=.ok (.tuple #[]) (wr.setCells g (o+i) (List.replicate (l.length-i) (.int .u32 0))):=fun ty =>
     Lib.run_clear_slice wr 47 46 ty (.int .u32 0) Tryz.underlying47 (fun W=>by kernel_rfl) rfl rfl g (o+i) (l.length-i) (c-i) (by omega)
      (fun j hj=>by
       obtain ⟨_,_,e1,_,c0⟩:=hS.num_at (i+j) (by omega)
       cases e1
       rw [Nat.add_assoc,c0]
       rfl)
      (fun j hj=>hS.frozen g o rfl _)
    have HE:Hid (Sl numE (wr.setCells g (o+i) (List.replicate (l.length-i) (.int .u32 0))) (some ⟨g,o,none⟩) c (l.filter fun x=>!pr x)):=by
     have h1:=HD.out.take
     rw [HL.out,List.take_length] at h1
     unfold Hid
     rw [<- h1]
     exact hS.tail_set i (by omega) _ (by simp;omega)
    have HT2:Hid (Touch (· = g) w (wr.setCells g (o+i) (List.replicate (l.length-i) (.int .u32 0)))):=Touch.setCells (S:=(· = g)) rfl _ _ HT.out
    have HLf:Hid ((l.filter fun x=>!pr x).length=i):=by have:=HL.out;rw [List.take_length] at this;exact this
    clear hS hML HS HD HL HT HP
    go_upto_region 11 with (fail)
    go_wp2
    go_ret
    exact ⟨by rw [HLf.out];rfl,HE.out,HT2.out⟩
theorem sdelf_none (s:Nat) (pr:Int->Bool) (w:World)
  (hp:∀ W x,Fresh w W->Calls Tryz.prog 240 #[.int .u32 x,.pointer (some ⟨s,0,none⟩)] W fun e w'=>e=.returned (.bool (pr x))/\Fresh W w') :
  Calls Tryz.prog 239 #[.slice none 0 0,.func (.func 240) #[] #[.pointer (some ⟨s,0,none⟩)]] w fun e w'=>e=.returned (.slice none 0 0)/\Fresh w w':=by
 have HI:=lh (sidxf_any s pr none 0 [] w (Sl.nil numE w).rd (by decide) hp)
 clear hp
 go_enter Tryz.func239,Tryz.ntmps239
 go_wp2_with fail
 refine HI.out.mono ?_
 rintro e w1 ⟨f1,hcase⟩
 have F1:=lh f1
 rcases hcase with ⟨rfl,hall⟩ | ⟨k,hk,_⟩
 ·clear f1 hall HI
  simp only
  go_wp2
  go_ret
  exact ⟨rfl,F1.out⟩
 ·exact absurd hk (by simp)
def DelPost (w:World) (A:Option Addr) (c:Nat) (L:List Int) (e:Ending) (w':World):Prop:=e=.returned (.slice A L.length c)/\Sl numE w' A c L/\Touch (fun k=>A.map Addr.block=some k) w w'
theorem sdel_any (s:Nat) (pr:Int->Bool) (A:Option Addr) (c:Nat) (l:List Int) (w:World) (h:Sl numE w A c l) (hl:l.length<=1000000)
  (hp:∀ W x,Touch (fun k=>A.map Addr.block=some k) w W->Calls Tryz.prog 240 #[.int .u32 x,.pointer (some ⟨s,0,none⟩)] W fun e w'=>e=.returned (.bool (pr x))/\Fresh W w') :
  Calls Tryz.prog 239 #[.slice A l.length c,.func (.func 240) #[] #[.pointer (some ⟨s,0,none⟩)]] w (DelPost w A c (l.filter fun x=>!pr x)):=by
 cases A with
 |none =>
  obtain rfl:c=0:=h.2.2.1 rfl
  obtain rfl:l=[]:=List.eq_nil_of_length_eq_zero (by have:=h.1;omega)
  refine (sdelf_none s pr w fun W x hf=>hp W x (hf.mono (fun _ _ h=>h.elim))).mono ?_
  rintro e w' ⟨rfl,f⟩
  exact ⟨rfl,Sl.nil _ _,f.mono (fun _ _ h=>h.elim)⟩
 |some ad =>
  obtain ⟨hs,_⟩:=h.2.2.2 ad rfl
  obtain ⟨g,o,sp⟩:=ad
  obtain rfl:sp=none:=hs
  refine (sdelf_any s pr g o c l w h hl fun W x hf=>hp W x (hf.mono (fun k _ e=>by rw [e];rfl))).mono ?_
  rintro e w' ⟨rfl,h1,h2⟩
  exact ⟨rfl,h1,h2.mono (fun k _ e=>by rw [e];rfl)⟩
end Go.Proofs.YtlbopdfobgjjaaaGreatDoor

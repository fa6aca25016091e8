/-
  node, plain: what an end is, and what each call makes of it. No program is named · node, plain: what an end is between two calls (Fit), and that each call keeps it. No program is named · node.Node: an end in memory, with or without an epoch. Each part lies in blocks of a number of its own: k the end, k + 1 its connection, k + 2 its timers, k + 3 the row of units, k + 4 what goes out first, k + 5 the sender, k + 6 the receiver, k + 7 what was left; k + 8 what was handed out · node, plain: what a request keeps. No program is named.
-/
import Derived.Test.YtlbopdfobgjjaaaGreatDoorOpen2
import Derived.Test.YtlbopdfobgjjaaaGreatDoorCnW
import Derived.Test.YtlbopdfobgjjaaaGreatDoorEvD
import Derived.Test.YtlbopdfobgjjaaaGreatDoorGapS
import Derived.Test.YtlbopdfobgjjaaaGreatDoorSndD
import Derived.Test.YtlbopdfobgjjaaaGreatDoorRf
import Derived.Test.YtlbopdfobgjjaaaGreatDoorCloP
import Derived.Test.YtlbopdfobgjjaaaGreatDoorSnd
import Derived.Test.YtlbopdfobgjjaaaGreatDoorRcvA
namespace Go.Proofs.YtlbopdfobgjjaaaGreatDoor
namespace En
structure X where
 c:Nd.C
 conn:Cn.S
 tm:List Int
 ctl:List Cn.Pd
 units:List Cn.Pd
 left:List ByteArray
 poll:Bool
 stat:Bool
 asked:Int
 lacks:Bool
 ep:Option (Sf.S × Rf.S)
def new (c:Nd.C):X:=⟨c,Cn.new c.most ((c.start+c.window)%16777216),[0,0,0,0,0],[],[],[],false,false,0,false,none⟩
def ready (x:X):Bool:=x.ep.isSome
def sIdle (s:Sf.S):Bool:=decide (s.wait.length=0) && decide (s.kept.length=0)
def idle (x:X):Bool:=match x.ep with
 |none=>true
 |some e=>sIdle e.1
def ctl1 (l:List Cn.Pd) (u:Cn.Pd):List Cn.Pd:=(l.filter fun x=>!(x.kind==u.kind))++[u]
def ctls (l us:List Cn.Pd):List Cn.Pd:=us.foldl ctl1 l
def timed (x:X) (t:Int):X:=if t=1 then { x with tm:=Tm.start x.tm 0 x.c.cc } else if t=2 then { x with tm:=Tm.stop x.tm 0 } else x
def over (x:X):X:={ x with poll:=false,stat:=false }
def leftOf (x:X):List ByteArray:=match x.ep with
 |none=>[]
 |some e=>e.1.kept++e.1.wait
def ended (x:X):X:=over { x with tm:=Pc.end_ x.tm,left:=leftOf x,ep:=none }
def epoch (c:Nd.C) (ms:Int):Sf.S × Rf.S:=(Sf.opn (Sf.new c.start c.queue c.polls) ms,Rf.new c.start c.window)
def begun (x:X) (ms:Int):X:=over { x with ep:=some (epoch x.c ms),tm:=Pc.begin_ x.tm x.c.poll x.c.silent }
def bring1 (x:X) (r:Cn.R):X:=timed { x with ctl:=ctls x.ctl r.units } r.timer
def bring2 (x:X) (r:Cn.R):X:=if r.ends then ended (bring1 x r) else bring1 x r
def bring (x:X) (r:Cn.R):X:=if r.begins then begun (bring2 x r) r.ms else bring2 x r
def brought (x:X) (y:Cn.SR):X × List Cn.Sig:=(bring { x with conn:=y.1 } y.2,y.2.sigs)
def lack (x:X):Bool:=match x.ep with
 |none=>false
 |some e=>decide (0<e.1.wait.length) && (e.1.s==e.1.ms)
def rep (code n:Int):Cn.Sig:=⟨12,Cn.no,false,code,n⟩
def credit (x:X) (l:List Cn.Sig):X × List Cn.Sig:=
 ({ x with lacks:=lack x },if lack x && !x.lacks then l++[rep 87 0] else if (x.lacks && !lack x) && ready x then l++[rep 88 0] else l)
def msg (kind:Int) (d:ByteArray):Cn.Sig:=⟨kind,d,false,0,0⟩
def umsg (kind:Int) (d:ByteArray):Cn.Pd:=⟨kind,0,0,0,0,none,0,0,false,d⟩
def putS (x:X) (d:ByteArray):X × List Cn.Sig × Int:=match x.ep with
 |none=>(x,[],8)
 |some e=>if e.1.wait.length<e.1.most then ({ x with ep:=some (Sf.put e.1 d,e.2),tm:=Pc.busy x.tm x.c.poll x.c.silent },[],0) else (x,[],7)
def putU (x:X) (u:Cn.Pd):X × List Cn.Sig × Int:=if (x.units.length:Int)<x.c.units then ({ x with units:=x.units++[u] },[],0) else (x,[],7)
def took (r:Rf.S) (n:Int):Rf.S:={ r with inbox:=r.inbox.drop (max 0 (min n (r.inbox.length:Int))).toNat }
def take (x:X) (n:Int):X:=match x.ep with
 |none=>x
 |some e=>{ x with ep:=some (e.1,took e.2 n) }
def askC (x:X) (kind:Int) (d:ByteArray):X × List Cn.Sig × Int:=
 if Cn.askErr x.conn kind d=0 then let y:=brought x (Cn.askS x.conn kind d);(y.1,y.2,0) else (x,[],Cn.askErr x.conn kind d)
def ask (x:X) (kind:Int) (d:ByteArray) (n:Int):X × List Cn.Sig × Int:=
 if kind=7 then putS x d
 else if kind=8 then putU x (umsg 13 d)
 else if kind=9 then putU x (umsg 14 d)
 else if kind=10 then (take x n,[],0)
 else if kind=11 then ({ x with left:=[] },x.left.map (msg 11),0)
 else askC x kind d
def request (x:X) (kind:Int) (d:ByteArray) (n:Int):X × List Cn.Sig × Int:=
 if Ev.err kind d n=0 then
  if Ru.may x.conn.state kind then
   let y:=ask x kind d n
   if y.2.2=0 then let z:=credit y.1 y.2.1;(z.1,z.2,0) else (y.1,[],y.2.2)
  else (x,[],8)
 else (x,[],Ev.err kind d n)
def fail (x:X) (code:Int):X × List Cn.Sig:=brought x (Cn.failS x.conn code)
def again (count:Int):List Cn.Sig:=if count=0 then [] else [rep 86 count]
def transfer (x:X) (e:Sf.S × Rf.S) (u:Cn.Pd) (l:List Int):X × List Cn.Sig:=
 if u.kind=8 then let d:=Rf.data e.2 u.n u.data;({ x with ep:=some (e.1,d.1) },d.2.map (msg 8))
 else if u.kind=10 then
  if Rf.pollOk e.2 u.n then ({ x with ep:=some (e.1,Rf.poll e.2 u.n),stat:=true,asked:=u.ps },[]) else fail x 81
 else if u.kind=11 then
  let y:=Sf.stat e.1 u.n u.mr u.ps l
  if y.2.2=12 then fail x 82
  else if y.2.2=13 then fail x 83
  else ({ x with ep:=some (y.1,e.2),tm:=Pc.answered x.tm x.c.silent x.c.idle (sIdle y.1) },again y.2.1)
 else
  let y:=Sf.ustat e.1 u.n u.mr l
  if y.2.2=0 then ({ x with ep:=some (y.1,e.2) },again y.2.1) else fail x 84
def ofEp (kind:Int):Bool:=kind==8 || kind==10 || kind==11 || kind==12
def hear (x:X) (u:Cn.Pd) (l:List Int):X × List Cn.Sig:=
 if u.kind=13 then (x,[msg 9 u.data])
 else if u.kind=14 then (x,[msg 10 u.data])
 else match x.ep with
  |none=>brought x (Cn.hearS x.conn u)
  |some e=>if ofEp u.kind then transfer x e u l else brought x (Cn.hearS x.conn u)
def receive (x:X) (u:Cn.Pd) (l:List Int):X × List Cn.Sig:=let y:=hear x u l;credit y.1 y.2
def due (x:X) (t:Int):X × List Cn.Sig:=
 if t=0 then brought x (Cn.expireS x.conn)
 else if t=3 then brought x (Cn.silentS x.conn)
 else ({ x with poll:=x.poll || ready x },[])
def dues:List Int->X × List Cn.Sig->X × List Cn.Sig
 |[],y=>y
 |t::r,y=>let z:=due y.1 t;dues r (z.1,y.2++z.2)
def tick (x:X):X × List Cn.Sig:=let y:=dues (Tm.over x.tm) ({ x with tm:=Tm.tick x.tm },[]);credit y.1 y.2
def spansOf (r:Rf.S):List (Int × Int):=(Rf.missing r).foldl (fun out n=>Sp.mergeStep out (n-r.R,n-r.R+1)) []
def pairs (r:Rf.S):List Int:=Gp.gl (r.R%16777216) (spansOf r)
def numed (kind n ps mr:Int) (data:ByteArray):Cn.Pd:=⟨kind,0,n,ps,mr,none,0,0,false,data⟩
def next (x:X):X × Option (Cn.Pd × List Int):=
 match x.ctl with
 |u::r=>({ x with ctl:=r },some (u,[]))
 |[]=>match x.units with
  |u::r=>({ x with units:=r },some (u,[]))
  |[]=>match x.ep with
   |none=>(x,none)
   |some (s,r) =>
    if x.stat then
     let r':=Rf.renew r
     ({ x with stat:=false,ep:=some (s,r') },some (numed 11 (r'.R%16777216) x.asked (r'.MR%16777216) Cn.no,pairs r'))
    else
     let g:=Rf.gap r
     if g.2.2.2 then ({ x with ep:=some (s,g.1) },some (numed 12 (g.1.R%16777216) 0 (g.1.MR%16777216) Cn.no,[g.2.1%16777216,g.2.2.1%16777216]))
     else if x.poll || decide (s.polls<=s.units) then
      ({ x with poll:=false,ep:=some (Sf.poll s,g.1),tm:=Pc.polled x.tm x.c.poll x.c.keep x.c.silent (sIdle s) },some (numed 10 (s.s%16777216) ((s.ps+1)%16777216) 0 Cn.no,[]))
     else
      let n:=Sf.next s
      ({ x with ep:=some (n.1,g.1) },if n.2.2.2.2 then some (numed 8 (n.2.1%16777216) 0 0 n.2.2.1,[]) else none)
end En
namespace En
structure Fit (x:X) (hi hi2:Int):Prop where
 nd:(x.ctl.map (·.kind)).Nodup
 ks:∀ u ∈ x.ctl,1<=u.kind/\u.kind<=15
 b1:x.c.start%16777216<=hi/\hi-x.c.start%16777216<=4000
 b2:x.c.start%16777216<=hi2/\hi2-x.c.start%16777216<=8000000
 ep:∀ e,x.ep=some e->Sf.Ok e.1 (x.c.start%16777216) hi/\Rf.Ok e.2 (x.c.start%16777216) hi2
 st:x.ep.isSome=(x.conn.state==10)
theorem few {l:List Cn.Pd} (h1:(l.map (·.kind)).Nodup) (h2:∀ u ∈ l,1<=u.kind/\u.kind<=15):l.length<=15:=by
 have:=Rf.nodup_len 1 15 _ h1 (fun n hn=>by
  obtain ⟨u,hu,rfl⟩:=List.mem_map.1 hn
  have:=h2 u hu
  omega)
 simpa using this
theorem Fit.ctl {x:X} {hi hi2:Int} (h:Fit x hi hi2):x.ctl.length<=1000:=by have:=few h.nd h.ks;omega
theorem Fit.mono {x:X} {hi hi2 hi' hi2':Int} (h:Fit x hi hi2) (h1:hi<=hi') (h2:hi2<=hi2') (h3:hi'-x.c.start%16777216<=4000) (h4:hi2'-x.c.start%16777216<=8000000):Fit x hi' hi2':=
 ⟨h.nd,h.ks,by have:=h.b1;omega,by have:=h.b2;omega,fun e he=>⟨(h.ep e he).1.mono h1 h3,(h.ep e he).2.mono h2 h4⟩,h.st⟩
theorem Fit.ends {x:X} {hi hi2:Int} (h:Fit x hi hi2) {y:Cn.SR} (hy:Cn.Ends x.conn y):y.2.ends=true->∃ e lo hi,x.ep=some e/\Sf.Ok e.1 lo hi:=fun e=>by
 have h1:=h.st
 rw [hy.en e] at h1
 obtain ⟨p,hp⟩:=Option.isSome_iff_exists.1 h1
 exact ⟨p,_,_,hp,(h.ep p hp).1⟩
theorem ctl1_nd {l:List Cn.Pd} {u:Cn.Pd} (h:(l.map (·.kind)).Nodup):((ctl1 l u).map (·.kind)).Nodup:=by
 unfold ctl1
 rw [List.map_append,List.nodup_append]
 refine ⟨?_,by simp,?_⟩
 ·exact h.sublist (List.filter_sublist.map _)
 ·intro a ha b hb
  obtain ⟨v,hv,rfl⟩:=List.mem_map.1 ha
  have:=(List.mem_filter.1 hv).2
  simp only [List.map_cons,List.map_nil,List.mem_singleton] at hb
  subst hb
  simpa using this
theorem ctl1_ks {l:List Cn.Pd} {u:Cn.Pd} (h:∀ u ∈ l,1<=u.kind/\u.kind<=15) (hu:1<=u.kind/\u.kind<=15):∀ v ∈ ctl1 l u,1<=v.kind/\v.kind<=15:=by
 intro v hv
 rcases List.mem_append.1 hv with hv | hv
 ·exact h v (List.mem_filter.1 hv).1
 ·rw [List.mem_singleton.1 hv];exact hu
theorem ctls_ok:∀ (us l:List Cn.Pd),(l.map (·.kind)).Nodup->(∀ u ∈ l,1<=u.kind/\u.kind<=15)->(∀ u ∈ us,1<=u.kind/\u.kind<=15)->((ctls l us).map (·.kind)).Nodup/\∀ u ∈ ctls l us,1<=u.kind/\u.kind<=15
 |[],l,h1,h2,_=>⟨h1,h2⟩
 |u::us,l,h1,h2,h3=>ctls_ok us (ctl1 l u) (ctl1_nd h1) (ctl1_ks h2 (h3 u (by simp))) (fun v hv=>h3 v (by simp [hv]))
theorem bring1_k (x:X) (r:Cn.R):(bring1 x r).ctl=ctls x.ctl r.units/\(bring1 x r).conn=x.conn/\(bring1 x r).ep=x.ep/\(bring1 x r).c=x.c:=by
 unfold bring1 timed
 split
 ·exact ⟨rfl,rfl,rfl,rfl⟩
 ·split <;> exact ⟨rfl,rfl,rfl,rfl⟩
theorem bring_k (x:X) (r:Cn.R):(bring x r).ctl=ctls x.ctl r.units/\(bring x r).conn=x.conn/\(bring x r).c=x.c/\(bring x r).ep=if r.begins then some (epoch x.c r.ms) else if r.ends then none else x.ep:=by
 obtain ⟨h1,h2,h3,h4⟩:=bring1_k x r
 unfold bring bring2
 cases r.begins <;> cases r.ends
 ·exact ⟨h1,h2,h4,h3⟩
 ·exact ⟨h1,h2,h4,rfl⟩
 ·exact ⟨h1,h2,h4,by show some (epoch (bring1 x r).c r.ms)=_;rw [h4];rfl⟩
 ·exact ⟨h1,h2,h4,by show some (epoch (bring1 x r).c r.ms)=_;rw [h4];rfl⟩
theorem Fit.brought {x:X} {hi hi2:Int} (h:Fit x hi hi2) {y:Cn.SR} (hy:Cn.Ends x.conn y):Fit (En.brought x y).1 hi hi2:=by
 unfold En.brought
 obtain ⟨h1,h2,h3,h4⟩:=bring_k { x with conn:=y.1 } y.2
 obtain ⟨c1,c2⟩:=ctls_ok y.2.units x.ctl h.nd h.ks hy.un
 have b1:=h.b1
 have b2:=h.b2
 refine ⟨by rw [h1];exact c1,by rw [h1];exact c2,by rw [h3];exact b1,by rw [h3];exact b2,fun e he=>?_,?_⟩
 ·rw [h3]
  rw [h4] at he
  split at he
  ·injection he with he
   subst he
   exact ⟨(Sf.Ok.new _ _ _ hi b1.1 b1.2).opn _,Rf.Ok.new _ _ hi2 b2.1 b2.2⟩
  ·split at he
   ·cases he
   ·exact h.ep e he
 ·rw [h2,h4]
  show _=(y.1.state==10)
  rw [hy.st]
  have hs:=h.st
  cases y.2.begins
  ·cases y.2.ends
   ·simpa using hs
   ·simp
  ·rfl
theorem brought_c (x:X) (y:Cn.SR):(En.brought x y).1.c=x.c:=(bring_k { x with conn:=y.1 } y.2).2.2.1
theorem brought_sg (x:X) {y:Cn.SR} (hy:Cn.Ends x.conn y):(En.brought x y).2.length<=1000:=Nat.le_trans hy.sg (by decide)
theorem fail_ok {x:X} {hi hi2:Int} (h:Fit x hi hi2) (code:Int):Fit (En.fail x code).1 hi hi2/\(En.fail x code).2.length<=1000:=⟨h.brought (Cn.fail_ends _ _),brought_sg x (Cn.fail_ends _ _)⟩
theorem again_sg (n:Int):(again n).length<=1000:=by unfold again;split <;> simp
theorem Fit.parts {x x':X} {hi hi2 hi2':Int} (h:Fit x hi hi2) (e:Sf.S × Rf.S) (h0:x.ep.isSome=true) (h1:x'.ctl=x.ctl) (h2:x'.c=x.c) (h3:x'.conn=x.conn) (h4:x'.ep=some e) (h5:Sf.Ok e.1 (x.c.start%16777216) hi) (h6:Rf.Ok e.2 (x.c.start%16777216) hi2') (h7:hi2<=hi2') (h8:hi2'-x.c.start%16777216<=8000000):Fit x' hi hi2':=by
 refine ⟨by rw [h1];exact h.nd,by rw [h1];exact h.ks,by rw [h2];exact h.b1,by rw [h2];have:=h.b2;omega,fun e' he=>?_,?_⟩
 ·rw [h4] at he
  injection he with he
  subst he
  rw [h2]
  exact ⟨h5,h6⟩
 ·rw [h3,h4,<- h.st,h0]
  rfl
end En
open Go.RowKit
set_option maxRecDepth 20000
def lab (D:Nat->Nat) (h v:Nat):Nat->Nat:=fun b=>if b<h then D b else v
def Lab (k:Nat) (D D':Nat->Nat) (h:Nat):Prop:=(∀ b,b<h->D' b=D b)/\∀ b,h<=b->k<=D' b/\D' b<=k+8
theorem lab_lab (k:Nat) (D:Nat->Nat) (h i:Nat) (hi:i<=8):Lab k D (lab D h (k+i)) h:=by
 refine ⟨fun b hb=>if_pos hb,fun b hb=>?_⟩
 unfold lab
 rw [if_neg (by omega)]
 omega
theorem lab_new {D:Nat->Nat} {h v b:Nat} (hb:h<=b):lab D h v b=v:=if_neg (by omega)
theorem lab_old {D:Nat->Nat} {h v b:Nat} (hb:b<h):lab D h v b=D b:=if_pos hb
def Of (D:Nat->Nat) (i:Nat):Nat->Prop:=fun b=>D b=i
def All (D:Nat->Nat) (k:Nat):Nat->Prop:=fun b=>k<=D b/\D b<k+8
theorem SendAt.cutE {w:World} {p:Nat} {F:Nat->Prop} {st:Sd.S} (h:SendAt w p F st):SendAt w p (fun x=>F x/\x<w.heap.size) st:=by
 obtain ⟨g,b,k,A,c,h1,hF⟩:=h.open_
 exact SendAt.mk' h1 ⟨⟨hF.p,h1.blk.lt⟩,⟨hF.g,h1.ring.lt⟩,fun x hx=>⟨hF.b x hx,h1.ring.ltb x hx⟩,⟨hF.k,h1.map.lt⟩,fun ad ha=>⟨hF.A ad ha,h1.ag.lt ad ha⟩⟩
namespace En
def ptr (p:Option Nat):Value:=.pointer (p.map fun g=>⟨g,0,none⟩)
def X.cells (x:X) (cn pc un:Nat) (sp rp:Option Nat) (A:Option Addr) (ca:Nat) (B:Option Addr) (cb:Nat):List Value:=
 x.c.cells++[.pointer (some ⟨cn,0,none⟩),.pointer (some ⟨pc,0,none⟩),ptr sp,ptr rp,.slice A x.ctl.length ca,.pointer (some ⟨un,0,none⟩),.bool x.poll,.bool x.stat,.int .u32 x.asked,.bool x.lacks,.slice B x.left.length cb]
end En
section
variable {k:Nat} {D D':Nat->Nat} {w w':World}
def PC (k:Nat) (D:Nat->Nat) (w:World) (cn:Nat) (s:Cn.S):Prop:=ConnAt w cn s/\Cn.Ok s/\D cn=k+1
def PP (k:Nat) (D:Nat->Nat) (w:World) (pc:Nat) (tm:List Int) (c:Nd.C):Prop:=Pk w pc tm c.cc c.poll c.keep c.silent c.idle/\D pc=k+2
def PU (k:Nat) (D:Nat->Nat) (w:World) (un:Nat) (us:List Cn.Pd) (m:Nat):Prop:=∃ b,RingPdu w un b m us/\D un=k+3/\∀ g,b=some g->D g=k+3
def PL (k:Nat) (D:Nat->Nat) (w:World) (A:Option Addr) (ca:Nat) (l:List Cn.Pd):Prop:=Sl pduE w A ca l/\∀ ad,A=some ad->D ad.block=k+4
def PF (k:Nat) (D:Nat->Nat) (w:World) (B:Option Addr) (cb:Nat) (l:List ByteArray):Prop:=Sl strE w B cb l/\∀ ad,B=some ad->D ad.block=k+7
def PS (k:Nat) (D:Nat->Nat) (w:World) (p:Nat) (s:Sf.S):Prop:=∃ F,SendAt w p F (Sf.prog s)/\∀ b,F b->D b=k+5/\b<w.heap.size
def PR (k:Nat) (D:Nat->Nat) (w:World) (p:Nat) (r:Rf.S):Prop:=∃ F,RecvAt w p F (Rf.prog r)/\∀ b,F b->D b=k+6/\b<w.heap.size
def PE (k:Nat) (D:Nat->Nat) (w:World) (sp rp:Option Nat):Option (Sf.S × Rf.S)->Prop
 |none=>sp=none/\rp=none
 |some e=>∃ p q,sp=some p/\rp=some q/\PS k D w p e.1/\PR k D w q e.2
structure EndIn (k:Nat) (D:Nat->Nat) (w:World) (n cn pc un:Nat) (sp rp:Option Nat) (A:Option Addr) (ca:Nat) (B:Option Addr) (cb:Nat) (x:En.X):Prop where
 b:Blk w n 104 (x.cells cn pc un sp rp A ca B cb)/\D n=k
 c:PC k D w cn x.conn
 p:PP k D w pc x.tm x.c
 u:PU k D w un x.units x.c.units.toNat
 l:PL k D w A ca x.ctl
 f:PF k D w B cb x.left
 e:PE k D w sp rp x.ep
theorem PC.keep {cn:Nat} {s:Cn.S} {T:Nat->Prop} (h:PC k D w cn s) (ht:Touch T w w') (hT:∀ b,T b->D b ≠ k+1) (hD:∀ b,b<w.heap.size->D' b=D b):PC k D' w' cn s:=
 ⟨ht.blk h.1 (fun e=>hT _ e h.2.2),h.2.1,(hD _ h.1.lt).trans h.2.2⟩
theorem PP.keep {pc:Nat} {tm:List Int} {c:Nd.C} {T:Nat->Prop} (h:PP k D w pc tm c) (ht:Touch T w w') (hT:∀ b,T b->D b ≠ k+2) (hD:∀ b,b<w.heap.size->D' b=D b):PP k D' w' pc tm c:=
 ⟨Bk.touch h.1 ht (fun e=>hT _ e h.2),(hD _ h.1.2.2.lt).trans h.2⟩
theorem PU.keep {un:Nat} {us:List Cn.Pd} {m:Nat} {T:Nat->Prop} (h:PU k D w un us m) (ht:Touch T w w') (hT:∀ b,T b->D b ≠ k+3) (hD:∀ b,b<w.heap.size->D' b=D b):PU k D' w' un us m:=by
 obtain ⟨b,h1,h2,h3⟩:=h
 exact ⟨b,h1.touch ht (fun e=>hT _ e h2) (fun g hg e=>hT _ e (h3 g hg)),(hD _ h1.lt).trans h2,fun g hg=>(hD _ (h1.ltb g hg)).trans (h3 g hg)⟩
theorem PL.keep {A:Option Addr} {ca:Nat} {l:List Cn.Pd} {T:Nat->Prop} (h:PL k D w A ca l) (ht:Touch T w w') (hT:∀ b,T b->D b ≠ k+4) (hD:∀ b,b<w.heap.size->D' b=D b):PL k D' w' A ca l:=
 ⟨h.1.touch ht (fun ad ha e=>hT _ e (h.2 ad ha)),fun ad ha=>(hD _ (h.1.lt ad ha)).trans (h.2 ad ha)⟩
theorem PF.keep {A:Option Addr} {ca:Nat} {l:List ByteArray} {T:Nat->Prop} (h:PF k D w A ca l) (ht:Touch T w w') (hT:∀ b,T b->D b ≠ k+7) (hD:∀ b,b<w.heap.size->D' b=D b):PF k D' w' A ca l:=
 ⟨h.1.touch ht (fun ad ha e=>hT _ e (h.2 ad ha)),fun ad ha=>(hD _ (h.1.lt ad ha)).trans (h.2 ad ha)⟩
theorem PS.keep {p:Nat} {s:Sf.S} {T:Nat->Prop} (h:PS k D w p s) (ht:Touch T w w') (hT:∀ b,T b->D b ≠ k+5) (hD:∀ b,b<w.heap.size->D' b=D b):PS k D' w' p s:=by
 obtain ⟨F,h1,h2⟩:=h
 exact ⟨F,h1.touch ht (fun b hb _ e=>hT _ e (h2 b hb).1),fun b hb=>⟨(hD _ (h2 b hb).2).trans (h2 b hb).1,Nat.lt_of_lt_of_le (h2 b hb).2 ht.size⟩⟩
theorem PR.keep {p:Nat} {r:Rf.S} {T:Nat->Prop} (h:PR k D w p r) (ht:Touch T w w') (hT:∀ b,T b->D b ≠ k+6) (hD:∀ b,b<w.heap.size->D' b=D b):PR k D' w' p r:=by
 obtain ⟨F,h1,h2⟩:=h
 exact ⟨F,h1.touch ht (fun b hb e=>hT _ e (h2 b hb).1),fun b hb=>⟨(hD _ (h2 b hb).2).trans (h2 b hb).1,Nat.lt_of_lt_of_le (h2 b hb).2 ht.size⟩⟩
theorem PE.keep {sp rp:Option Nat} {e:Option (Sf.S × Rf.S)} {T:Nat->Prop} (h:PE k D w sp rp e) (ht:Touch T w w') (hT:∀ b,T b->D b ≠ k+5/\D b ≠ k+6) (hD:∀ b,b<w.heap.size->D' b=D b):PE k D' w' sp rp e:=by
 cases e with
 |none=>exact h
 |some e =>
  obtain ⟨p,q,h1,h2,h3,h4⟩:=h
  exact ⟨p,q,h1,h2,h3.keep ht (fun b hb=>(hT b hb).1) hD,h4.keep ht (fun b hb=>(hT b hb).2) hD⟩
variable {n cn pc un:Nat} {sp rp:Option Nat} {A B:Option Addr} {ca cb:Nat} {x:En.X}
theorem EndIn.keep {T:Nat->Prop} (h:EndIn k D w n cn pc un sp rp A ca B cb x) (ht:Touch T w w') (hT:∀ b,T b->¬ (k<=D b/\D b<k+8)) (hD:∀ b,b<w.heap.size->D' b=D b):EndIn k D' w' n cn pc un sp rp A ca B cb x:=
 have hn:∀ i,i<8->∀ b,T b->D b ≠ k+i:=fun i hi b hb e=>hT b hb (by omega)
 ⟨⟨ht.blk h.b.1 (fun e=>hn 0 (by omega) _ e h.b.2),(hD _ h.b.1.lt).trans h.b.2⟩,h.c.keep ht (hn 1 (by omega)) hD,h.p.keep ht (hn 2 (by omega)) hD,h.u.keep ht (hn 3 (by omega)) hD,h.l.keep ht (hn 4 (by omega)) hD,h.f.keep ht (hn 7 (by omega)) hD,h.e.keep ht (fun b hb=>⟨hn 5 (by omega) b hb,hn 6 (by omega) b hb⟩) hD⟩
theorem EndIn.old (h:EndIn k D w n cn pc un sp rp A ca B cb x) (ht:Fresh w w') (hD:∀ b,b<w.heap.size->D' b=D b):EndIn k D' w' n cn pc un sp rp A ca B cb x:=h.keep ht (fun _ e=>e.elim) hD
theorem EndIn.turn {T:Nat->Prop} {i:Nat} (h:EndIn k D w n cn pc un sp rp A ca B cb x) (ht:Touch T w w') (hT:∀ b,T b->D b=k+i) (hD:∀ b,b<w.heap.size->D' b=D b) :
  (i ≠ 0->Blk w' n 104 (x.cells cn pc un sp rp A ca B cb)/\D' n=k)/\(i ≠ 1->PC k D' w' cn x.conn)/\(i ≠ 2->PP k D' w' pc x.tm x.c)/\(i ≠ 3->PU k D' w' un x.units x.c.units.toNat)/\(i ≠ 4->PL k D' w' A ca x.ctl)/\(i ≠ 7->PF k D' w' B cb x.left)/\(i ≠ 5->i ≠ 6->PE k D' w' sp rp x.ep):=
 ⟨fun hi=>⟨ht.blk h.b.1 (fun e=>by have:=hT _ e;have:=h.b.2;omega),(hD _ h.b.1.lt).trans h.b.2⟩,fun hi=>h.c.keep ht (fun b hb=>by have:=hT _ hb;omega) hD,fun hi=>h.p.keep ht (fun b hb=>by have:=hT _ hb;omega) hD,fun hi=>h.u.keep ht (fun b hb=>by have:=hT _ hb;omega) hD,fun hi=>h.l.keep ht (fun b hb=>by have:=hT _ hb;omega) hD,fun hi=>h.f.keep ht (fun b hb=>by have:=hT _ hb;omega) hD,fun hi hj=>h.e.keep ht (fun b hb=>by have:=hT _ hb;omega) hD⟩
theorem EndIn.conned {s:Cn.S} {T:Nat->Prop} (h:EndIn k D w n cn pc un sp rp A ca B cb x) (hc:ConnAt w' cn s) (ho:Cn.Ok s) (ht:Touch T w w') (hT:∀ b,T b->D b=k+1) (hD:∀ b,b<w.heap.size->D' b=D b):EndIn k D' w' n cn pc un sp rp A ca B cb { x with conn:=s }:=by
 obtain ⟨h0,-,h2,h3,h4,h5,h6⟩:=h.turn ht hT hD
 exact ⟨h0 (by omega),⟨hc,ho,(hD _ h.c.1.lt).trans h.c.2.2⟩,h2 (by omega),h3 (by omega),h4 (by omega),h5 (by omega),h6 (by omega) (by omega)⟩
theorem EndIn.paced {tm:List Int} {T:Nat->Prop} (h:EndIn k D w n cn pc un sp rp A ca B cb x) (hp:Pk w' pc tm x.c.cc x.c.poll x.c.keep x.c.silent x.c.idle) (ht:Touch T w w') (hT:∀ b,T b->D b=k+2) (hD:∀ b,b<w.heap.size->D' b=D b):EndIn k D' w' n cn pc un sp rp A ca B cb { x with tm:=tm }:=by
 obtain ⟨h0,h1,-,h3,h4,h5,h6⟩:=h.turn ht hT hD
 exact ⟨h0 (by omega),h1 (by omega),⟨hp,(hD _ h.p.1.2.2.lt).trans h.p.2⟩,h3 (by omega),h4 (by omega),h5 (by omega),h6 (by omega) (by omega)⟩
theorem EndIn.sent {s s':Sf.S} {r:Rf.S} {T:Nat->Prop} {p:Nat} (h:EndIn k D w n cn pc un sp rp A ca B cb x) (he:x.ep=some (s,r)) (hsp:sp=some p) (hs:PS k D' w' p s') (ht:Touch T w w') (hT:∀ b,T b->D b=k+5) (hD:∀ b,b<w.heap.size->D' b=D b):EndIn k D' w' n cn pc un sp rp A ca B cb { x with ep:=some (s',r) }:=by
 obtain ⟨h0,h1,h2,h3,h4,h5,-⟩:=h.turn ht hT hD
 have e:=h.e
 rw [he] at e
 obtain ⟨p',q,e1,e2,-,e4⟩:=e
 exact ⟨h0 (by omega),h1 (by omega),h2 (by omega),h3 (by omega),h4 (by omega),h5 (by omega),p,q,hsp,e2,hs,e4.keep ht (fun b hb=>by have:=hT _ hb;omega) hD⟩
theorem EndIn.recvd {s:Sf.S} {r r':Rf.S} {T:Nat->Prop} {q:Nat} (h:EndIn k D w n cn pc un sp rp A ca B cb x) (he:x.ep=some (s,r)) (hrp:rp=some q) (hr:PR k D' w' q r') (ht:Touch T w w') (hT:∀ b,T b->D b=k+6) (hD:∀ b,b<w.heap.size->D' b=D b):EndIn k D' w' n cn pc un sp rp A ca B cb { x with ep:=some (s,r') }:=by
 obtain ⟨h0,h1,h2,h3,h4,h5,-⟩:=h.turn ht hT hD
 have e:=h.e
 rw [he] at e
 obtain ⟨p,q',e1,e2,e3,-⟩:=e
 exact ⟨h0 (by omega),h1 (by omega),h2 (by omega),h3 (by omega),h4 (by omega),h5 (by omega),p,q,e1,hrp,e3.keep ht (fun b hb=>by have:=hT _ hb;omega) hD,hr⟩
theorem EndIn.put {x':En.X} {sp' rp':Option Nat} {A' B':Option Addr} {ca' cb':Nat} (h:EndIn k D w n cn pc un sp rp A ca B cb x) (i:Nat) (u:Value) (hc:(x.cells cn pc un sp rp A ca B cb).set i u=x'.cells cn pc un sp' rp' A' ca' B' cb')
  (h1:x'.conn=x.conn) (h2:x'.tm=x.tm/\x'.c=x.c) (h3:x'.units=x.units) (hl:PL k D w A' ca' x'.ctl) (hf:PF k D w B' cb' x'.left) (he:PE k D w sp' rp' x'.ep):EndIn k D (w.setCell ⟨n,i,none⟩ u) n cn pc un sp' rp' A' ca' B' cb' x':=by
 have hb:=h.b.1.set i u
 rw [hc] at hb
 have ht:=Touch.set1 w n i u
 have hT:∀ j,j ≠ 0->∀ b,b=n->D b ≠ k+j:=fun j hj b hb e=>by subst hb;have:=h.b.2;omega
 refine ⟨⟨hb,h.b.2⟩,?_,?_,?_,hl.keep ht (hT 4 (by omega)) (fun _ _=>rfl),hf.keep ht (hT 7 (by omega)) (fun _ _=>rfl),he.keep ht (fun b hb=>⟨hT 5 (by omega) b hb,hT 6 (by omega) b hb⟩) (fun _ _=>rfl)⟩
 ·rw [h1];exact h.c.keep ht (hT 1 (by omega)) (fun _ _=>rfl)
 ·rw [h2.1,h2.2];exact h.p.keep ht (hT 2 (by omega)) (fun _ _=>rfl)
 ·rw [h3,h2.2];exact h.u.keep ht (hT 3 (by omega)) (fun _ _=>rfl)
end
def EndAt (k:Nat) (D:Nat->Nat) (w:World) (n:Nat) (x:En.X):Prop:=∃ cn pc un sp rp A ca B cb,EndIn k D w n cn pc un sp rp A ca B cb x
structure EndTo (k:Nat) (D D':Nat->Nat) (w w':World) (n:Nat) (x:En.X):Prop where
 at_:EndAt k D' w' n x
 lab:Lab k D D' w.heap.size
 touch:Touch (All D k) w w'
section
variable {k:Nat} {D D' D2:Nat->Nat} {w w' w2:World} {n:Nat} {x y:En.X}
theorem Lab.refl (k:Nat) (D:Nat->Nat) (w:World) (hD:∀ b,w.heap.size<=b->k<=D b/\D b<=k+8):Lab k D D w.heap.size:=⟨fun _ _=>rfl,hD⟩
theorem Lab.trans (h:Lab k D D' w.heap.size) (h':Lab k D' D2 w'.heap.size) (hs:w.heap.size<=w'.heap.size):Lab k D D2 w.heap.size:=
 ⟨fun b hb=>(h'.1 b (by omega)).trans (h.1 b hb),fun b hb=>by
  by_cases e:b<w'.heap.size
  ·rw [h'.1 b e];exact h.2 b hb
  ·exact h'.2 b (by omega)⟩
theorem Touch.then (ht:Touch (All D k) w w') (hl:Lab k D D' w.heap.size) (h:Touch (All D' k) w' w2):Touch (All D k) w w2:=ht.trans h fun b hb e=>by
 unfold All at *
 rw [hl.1 b hb] at e
 exact e
theorem EndTo.then (h:EndTo k D D' w w' n x) (h':EndTo k D' D2 w' w2 n y):EndTo k D D2 w w2 n y:=
 ⟨h'.at_,h.lab.trans h'.lab h.touch.size,h.touch.then h.lab h'.touch⟩
theorem EndAt.old (h:EndAt k D w n x) (ht:Fresh w w') (hD:∀ b,b<w.heap.size->D' b=D b):EndAt k D' w' n x:=by
 obtain ⟨cn,pc,un,sp,rp,A,ca,B,cb,h⟩:=h
 exact ⟨cn,pc,un,sp,rp,A,ca,B,cb,h.old ht hD⟩
theorem EndAt.other {k2:Nat} (h:EndAt k2 D w n x) (ht:Touch (All D k) w w') (hD:∀ b,b<w.heap.size->D' b=D b) (hk:k2+8<=k\/k+8<=k2):EndAt k2 D' w' n x:=by
 obtain ⟨cn,pc,un,sp,rp,A,ca,B,cb,h⟩:=h
 exact ⟨cn,pc,un,sp,rp,A,ca,B,cb,h.keep ht (fun b hb=>by unfold All at hb;omega) hD⟩
def EndMid (k:Nat) (D:Nat->Nat) (w:World) (n cn pc un:Nat) (x:En.X) (w':World):Prop:=∃ D' sp rp A ca B cb,EndIn k D' w' n cn pc un sp rp A ca B cb x/\Lab k D D' w.heap.size/\Touch (All D k) w w'
theorem EndIn.own {cn pc un:Nat} {sp rp:Option Nat} {A B:Option Addr} {ca cb:Nat} (h:EndIn k D w n cn pc un sp rp A ca B cb x):k<=D n/\D n<k+8:=by have:=h.b.2;omega
theorem EndIn.ctlp {cn pc un:Nat} {sp rp:Option Nat} {A B A':Option Addr} {ca cb ca':Nat} {l:List Cn.Pd} {T:Nat->Prop} (h:EndIn k D w n cn pc un sp rp A ca B cb x) (hs:PL k D' w' A' ca' l) (ht:Touch T w w') (hT:∀ b,T b->D b=k+4) (hD:∀ b,b<w.heap.size->D' b=D b) :
  w'.cell? ⟨n,15,none⟩=some (.slice A x.ctl.length ca)/\w'.frozen? ⟨n,15,none⟩=false/\EndIn k D' (w'.setCell ⟨n,15,none⟩ (.slice A' l.length ca')) n cn pc un sp rp A' ca' B cb { x with ctl:=l }:=by
 obtain ⟨h0,h1,h2,h3,-,h5,h6⟩:=h.turn ht hT hD
 have h0:=h0 (by omega)
 have hb:=h0.1.set 15 (.slice A' l.length ca')
 have hu:=Touch.set1 w' n 15 (.slice A' l.length ca')
 have hN:∀ j,j ≠ 0->∀ b,b=n->D' b ≠ k+j:=fun j hj b hb e=>by subst hb;have:=h0.2;omega
 exact ⟨h0.1.cell 15,h0.1.frozen 15,⟨hb,h0.2⟩,(h1 (by omega)).keep hu (hN 1 (by omega)) (fun _ _=>rfl),(h2 (by omega)).keep hu (hN 2 (by omega)) (fun _ _=>rfl),(h3 (by omega)).keep hu (hN 3 (by omega)) (fun _ _=>rfl),hs.keep hu (hN 4 (by omega)) (fun _ _=>rfl),(h5 (by omega)).keep hu (hN 7 (by omega)) (fun _ _=>rfl),(h6 (by omega) (by omega)).keep hu (fun b hb=>⟨hN 5 (by omega) b hb,hN 6 (by omega) b hb⟩) (fun _ _=>rfl)⟩
end
namespace En
theorem putS_ok {x:X} {hi hi2:Int} (h:Fit x hi hi2) (d:ByteArray):Fit (putS x d).1 hi hi2:=by
 unfold putS
 cases he:x.ep with
 |none=>exact h
 |some e =>
  have h0:x.ep.isSome=true:=by rw [he];rfl
  simp only
  split
  ·exact h.parts _ h0 rfl rfl rfl rfl ((h.ep e he).1.put d) (h.ep e he).2 (Int.le_refl _) h.b2.2
  ·exact h
theorem take_ok {x:X} {hi hi2:Int} (h:Fit x hi hi2) (m:Int):Fit (take x m) hi hi2:=by
 unfold take
 cases he:x.ep with
 |none=>exact h
 |some e =>
  have h0:x.ep.isSome=true:=by rw [he];rfl
  exact h.parts _ h0 rfl rfl rfl rfl (h.ep e he).1 ((h.ep e he).2.take _) (Int.le_refl _) h.b2.2
theorem putU_ok {x:X} {hi hi2:Int} (h:Fit x hi hi2) (u:Cn.Pd):Fit (putU x u).1 hi hi2:=by
 unfold putU
 split
 ·exact ⟨h.nd,h.ks,h.b1,h.b2,h.ep,h.st⟩
 ·exact h
theorem ask_ok {x:X} {hi hi2:Int} (h:Fit x hi hi2) (kd:Int) (d:ByteArray) (m:Int):Fit (ask x kd d m).1 hi hi2:=by
 unfold ask
 repeat' split
 ·exact putS_ok h d
 ·exact putU_ok h _
 ·exact putU_ok h _
 ·exact take_ok h m
 ·exact ⟨h.nd,h.ks,h.b1,h.b2,h.ep,h.st⟩
 ·unfold askC
  split
  ·exact h.brought (Cn.ask_ends _ _ _)
  ·exact h
end En
end Go.Proofs.YtlbopdfobgjjaaaGreatDoor

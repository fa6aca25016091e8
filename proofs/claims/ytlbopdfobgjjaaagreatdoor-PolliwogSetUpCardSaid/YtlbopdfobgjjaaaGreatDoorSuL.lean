/-
  Two ends over ways that lose, plain: the phases of both, and of the ways between them; what is said. No program is named · Two ends over ways that lose, plain: what is lost, and what is heard. No program is named · Two ends over ways that lose, plain: the beginning, the end of a round, a tick; and that the ends may be. No program is named · Two ends over ways that lose, plain: both ends and both ways, by their numbers. No program is named.
-/
import Derived.Test.YtlbopdfobgjjaaaGreatDoorSuG2
namespace Go.Proofs.YtlbopdfobgjjaaaGreatDoor
set_option maxRecDepth 20000
namespace Su
open Cn (S Pd SR)
open En (X)
structure Env where
 a:Nd.C
 b:Nd.C
def crd (c:Nd.C):Int:=(c.start+c.window)%16777216%16777216
structure Env.Ok (E:Env):Prop where
 ga:Pr.Good E.a
 gb:Pr.Good E.b
 ma:E.a.most=16
 mb:E.b.most=16
 st:E.b.start%16777216=E.a.start%16777216
def Env.s (E:Env):Int:=E.a.start%16777216
inductive WG:Pd->Prop
 |bgn {n:Int} (h:0<=n/\n<16777216):WG (bgn n)
 |bgak {n:Int} (h:0<=n/\n<16777216):WG (bgak n)
 |fin {s:Int} (h:0<=s/\s<=1):WG (fin s)
 |ack {s:Int} (h:0<=s/\s<=1):WG (ack s)
 |rej:WG rej
 |poll {n p:Int} (h:0<=n/\n<16777216) (h':0<=p/\p<16777216):WG (En.numed 10 n p 0 Cn.no)
 |stat {n p m:Int} (h:0<=n/\n<16777216) (h':0<=p/\p<16777216) (h'':0<=m/\m<16777216):WG (En.numed 11 n p m Cn.no)
theorem crd_lt (c:Nd.C):0<=crd c/\crd c<16777216:=by unfold crd;omega
theorem PA.wg {c:Nd.C} {u:Pd} (h:PA (crd c) u):WG u:=by
 rcases h with rfl | rfl | rfl
 ·exact .bgn (crd_lt c)
 ·exact .fin (by omega)
 ·exact .ack (by omega)
theorem PB.wg {c:Nd.C} {u:Pd} (h:PB (crd c) u):WG u:=by
 rcases h with rfl | rfl | rfl | rfl
 ·exact .bgak (crd_lt c)
 ·exact .fin (by omega)
 ·exact .rej
 ·exact .ack (by omega)
inductive Qn (s k0 k1:Int):List Pd->List Int->Prop
 |nil:Qn s k0 k1 [] []
 |one {u:Pd} {l:List Pd} {P:List Int} (hk:u.kind=k0) (hs:u.sq=1) (h:Qn s k0 k1 l P):Qn s k0 k1 (u::l) P
 |num {u:Pd} {l:List Pd} {P:List Int} {a:Int} (hk:u.kind=k1) (hn:u.n=s) (hp:u.ps=(s+a)%16777216) (h:Qn s k0 k1 l P):Qn s k0 k1 (u::l) (a::P)
section
variable {s k0 k1:Int} {l:List Pd} {P:List Int} {u:Pd}
theorem Qn.put0 (h:Qn s k0 k1 l P) (hk:u.kind=k0) (hs:u.sq=1):Qn s k0 k1 (l++[u]) P:=by
 induction h with
 |nil=>exact .one hk hs .nil
 |one a b _ ih=>exact .one a b ih
 |num a b c _ ih=>exact .num a b c ih
theorem Qn.put1 {a:Int} (h:Qn s k0 k1 l P) (hk:u.kind=k1) (hn:u.n=s) (hp:u.ps=(s+a)%16777216):Qn s k0 k1 (l++[u]) (P++[a]):=by
 induction h with
 |nil=>exact .num hk hn hp .nil
 |one a b _ ih=>exact .one a b ih
 |num a b c _ ih=>exact .num a b c ih
theorem Qn.ones (h:∀ u ∈ l,u.kind=k0/\u.sq=1):Qn s k0 k1 l []:=by
 induction l with
 |nil=>exact .nil
 |cons u l ih=>exact .one (h u List.mem_cons_self).1 (h u List.mem_cons_self).2 (ih fun v hv=>h v (List.mem_cons_of_mem _ hv))
end
def Up (P:List Int):Prop:=P.Pairwise (· <= ·)
theorem Up.sub {P Q:List Int} (h:Up P) (hs:Q.Sublist P):Up Q:=List.Pairwise.sublist hs h
theorem Up.poll {P:List Int} {i j:Int} (h:Up (i::(P++[j]))):Up (i::(P++[j+1]++[j+1])):=by
 unfold Up at *
 simp only [List.pairwise_cons,List.pairwise_append,List.mem_append,List.mem_singleton,List.not_mem_nil] at *
 obtain ⟨h1,h2,h3,h4⟩:=h
 have hij:=h1 j (.inr rfl)
 refine ⟨?_,⟨h2,⟨fun _=>False.elim,List.Pairwise.nil⟩,fun a ha b hb=>?_⟩,⟨fun _=>False.elim,List.Pairwise.nil⟩,fun a ha b hb=>?_⟩
 ·rintro a ((ha | rfl) | rfl)
  ·exact h1 a (.inl ha)
  ·omega
  ·omega
 ·have:=h4 a ha j rfl;omega
 ·rcases ha with ha | rfl
  ·have:=h4 a ha j rfl;omega
  ·omega
theorem Up.mid {P:List Int} {i j a:Int} (h:Up (i::(a::P++[j]))):i<=a/\a<=j:=by
 unfold Up at h
 simp only [List.cons_append,List.pairwise_cons,List.mem_cons,List.mem_append,List.not_mem_nil,or_false] at h
 exact ⟨h.1 a (.inl rfl),h.2.1 j (.inr rfl)⟩
theorem Up.ends {P:List Int} {i j:Int} (h:Up (i::(P++[j]))):i<=j:=by
 unfold Up at h
 simp only [List.pairwise_cons,List.mem_append,List.mem_singleton] at h
 exact h.1 j (.inr rfl)
def TI (s:Int) (u:Pd):Prop:=(u.kind=2/\u.sq=1)\/(u.kind=3/\u.sq=0)\/(u.kind=7/\u.sq=1)\/(u.kind=10/\u.n=s/\0<=u.ps/\u.ps<16777216)\/u.kind=4
theorem TI.ta {s:Int} {u:Pd} (h:TI s u):TA u:=by
 rcases h with h | h | h | h | h
 ·exact .inl h
 ·exact .inr (.inl h)
 ·exact .inr (.inr (.inr (.inl h)))
 ·exact .inr (.inr (.inr (.inr h.1)))
 ·exact .inr (.inr (.inl h))
def TH (u:Pd):Prop:=(u.kind=1/\u.sq=1)\/u.kind=10\/u.kind=11
theorem TH.tb {u:Pd} (h:TH u):TB u:=by
 rcases h with h | h | h
 ·exact .inl h
 ·exact .inr (.inr (.inr (.inl h)))
 ·exact .inr (.inr (.inr (.inr h)))
theorem Qn.ti {s:Int} {l:List Pd} {P:List Int} (h:Qn s 2 10 l P):∀ u ∈ l,TI s u:=by
 induction h with
 |nil=>exact fun u hu=>(by cases hu)
 |one a b _ ih =>
  intro u hu
  rcases List.mem_cons.1 hu with rfl | hu
  ·exact .inl ⟨a,b⟩
  ·exact ih u hu
 |num a b c _ ih =>
  intro u hu
  rcases List.mem_cons.1 hu with rfl | hu
  ·exact .inr (.inr (.inr (.inl ⟨a,b,by omega,by omega⟩)))
  ·exact ih u hu
def Ans (l:List Pd):Prop:=∃ u ∈ l,u.kind=2\/u.kind=7
inductive OB (E:Env):Bool->X->List Pd->Prop
 |new:OB E false (En.new E.b) []
 |inc {m:Int}:OB E true (off E.b (cb 16 (crd E.b) 3 m) [0,0,0,0,0] [] 0) []
 |ready {b:X} {d j:Int} {qa:List Pd} {P:List Int} (h:BR E.b (crd E.b) d 0 j b) (hs:b.stat=false) (hd:1<=d) (hl:lim b j+d<=41) (hq:Qn E.s 2 10 qa P) (hu:Up (0::(P++[j]))):OB E false b qa
 |idle {b:X} {qa:List Pd} (h:BI E.b (crd E.b) b) (hq:∀ u ∈ qa,TI E.s u):OB E false b qa
structure Cnt (K:Bool) (cc n:Int) (FB FA:Prop):Prop where
 c1:cc<=n\/(cc<=n+1/\FB)
 c2:cc<=6\/(6<=n/\cc<=7/\(FB\/FA))\/(K=true/\6<=n/\cc<=8/\FA)
theorem Cnt.imp {K:Bool} {cc n:Int} {FB FA FB' FA':Prop} (h:Cnt K cc n FB FA) (h1:FB->FB') (h2:FA->FA'):Cnt K cc n FB' FA':=
 ⟨h.c1.imp id fun x=>⟨x.1,h1 x.2⟩,h.c2.imp id fun x=>x.imp (fun y=>⟨y.1,y.2.1,y.2.2.imp h1 h2⟩) fun y=>⟨y.1,y.2.1,y.2.2.1,h2 y.2.2.2⟩⟩
theorem Cnt.less {K:Bool} {cc n:Int} {FB FA FB' FA':Prop} (h:Cnt K cc n FB FA) (hn:n<6):Cnt K cc (n+1) FB' FA':=
 ⟨.inl (by rcases h.c1 with h | h <;> omega),.inl (by rcases h.c2 with h | h | h <;> omega)⟩
theorem Cnt.more {K:Bool} {cc n:Int} {FB FA FB' FA':Prop} (h:Cnt K cc n FB FA) (h1:FB\/FA->FB'\/FA') (h2:FA->FA'):Cnt K cc (n+1) FB' FA':=
 ⟨.inl (by rcases h.c1 with h | h <;> omega),h.c2.imp id fun x=>x.imp (fun y=>⟨by omega,y.2.1,h1 y.2.2⟩) fun y=>⟨y.1,by omega,y.2.2.1,h2 y.2.2.2⟩⟩
def Due (E:Env) (a:X) (T:List Int):Prop:=(a.stat=false/\T=[])\/∃ t,a.stat=true/\T=[t]/\a.asked=(E.s+t)%16777216
inductive Ph (E:Env) (Z K:Bool) (e n:Int):Bool->X->X->List Pd->List Pd->Prop
 |out {inc:Bool} {cc t:Int} {a b:X} {qa qb:List Pd} (ha:AO E.a (crd E.a) cc t a) (ht:1<=t) (he:e=E.a.cc*cc-t) (hb:OB E inc b qa) (hq:∀ u ∈ qb,u.kind=1/\u.sq=1) (hc:Cnt K cc n (qb ≠ []\/a.ctl ≠ []) (Ans qa\/Ans b.ctl\/inc=true)) (hz:Z=true->qb=[]/\a.ctl=[]):Ph E Z K e n inc a b qa qb
 |both {d d' i j:Int} {a b:X} {qa qb:List Pd} {S P T:List Int} (ha:AR E.a (crd E.a) d 0 0 a) (hp:a.poll=false) (hb:BR E.b (crd E.b) d' i j b) (hs:b.stat=false) (hi:0<=i) (hl:lim b j<=41) (hqa:Qn E.s 2 10 qa P) (hqb:Qn E.s 1 11 qb S) (hT:Due E a T) (hu:Up (i::(S++T++P++[j]))):Ph E Z K e n false a b qa qb
 |half {d j:Int} {a b:X} {qa qb:List Pd} (ha:AR E.a (crd E.a) d 0 j a) (hd:1<=d) (hj:0<=j) (hl:lim a j+d<=41) (he:e+d<=400) (hb:BI E.b (crd E.b) b) (hqa:∀ u ∈ qa,TI E.s u) (hqb:∀ u ∈ qb,TH u):Ph E Z K e n false a b qa qb
 |idle {a b:X} {qa qb:List Pd} (ha:AI E.a (crd E.a) a) (hb:BI E.b (crd E.b) b) (hqa:∀ u ∈ qa,TA u) (hqb:∀ u ∈ qb,TB u):Ph E Z K e n false a b qa qb
section
variable {E:Env} {Z K inc:Bool} {e n:Int} {a b:X} {qa qb:List Pd}
theorem mem_put {P:Pd->Prop} {l:List Pd} {u:Pd} (h:∀ v ∈ l,P v) (hu:P u):∀ v ∈ l++[u],P v:=fun v hv=>by
 rcases List.mem_append.1 hv with hv | hv
 ·exact h v hv
 ·rw [List.mem_singleton.1 hv];exact hu
theorem PA.tb {c:Int} {u:Pd} (h:PA c u):TB u:=by
 rcases h with rfl | rfl | rfl
 ·exact .inl ⟨rfl,rfl⟩
 ·exact .inr (.inl ⟨rfl,rfl⟩)
 ·exact .inr (.inr (.inl rfl))
theorem PB.ta {c:Int} {u:Pd} (h:PB c u):TA u:=by
 rcases h with rfl | rfl | rfl | rfl
 ·exact .inl ⟨rfl,rfl⟩
 ·exact .inr (.inl ⟨rfl,rfl⟩)
 ·exact .inr (.inr (.inr (.inl ⟨rfl,rfl⟩)))
 ·exact .inr (.inr (.inl rfl))
theorem PB.ti {c s:Int} {u:Pd} (h:PB c u):TI s u:=by
 rcases h with rfl | rfl | rfl | rfl
 ·exact .inl ⟨rfl,rfl⟩
 ·exact .inr (.inl ⟨rfl,rfl⟩)
 ·exact .inr (.inr (.inl ⟨rfl,rfl⟩))
 ·exact .inr (.inr (.inr (.inr rfl)))
theorem s_lt (E:Env):0<=E.s/\E.s<16777216:=by unfold Env.s;omega
theorem Ph.sayA (h:Ph E Z K e n inc a b qa qb):En.next a=(a,none)\/∃ y u,En.next a=(y,some (u,[]))/\Ph E Z K e n inc y b qa (qb++[u])/\WG u/\talk a=talk y+1:=by
 cases h with
 |out ha ht he hb hq hc hz =>
  rcases ha.next with ⟨h1,-⟩ | ⟨y,h1,h2,h3,h4⟩
  ·exact .inl h1
  ·refine .inr ⟨y,_,h1,.out h2 ht he hb (mem_put hq ⟨rfl,rfl⟩) (hc.imp (fun _=>.inl (by simp)) id) (fun hZ=>?_),.bgn (crd_lt _),h3⟩
   have:=(hz hZ).2
   rw [h4] at this
   cases this
 |both ha hp hb hs hi hl hqa hqb hT hu =>
  rename_i d d' i j S P T
  rcases ha.next with h1 | ⟨y,h1,h2,h3,h4,h5,h6⟩ | ⟨y,mr,hm,hq,h1,h2,h3,h4,h5,h6⟩ | ⟨y,d',h1,h2,h3,h4,h5,h6⟩
  ·exact .inl h1
  ·exact .inr ⟨y,_,h1,.both h2 (h6.trans hp) hb hs hi hl hqa (hqb.put0 rfl rfl) (by unfold Due;rw [h4,h5];exact hT) hu,.bgn (crd_lt _),h3⟩
  ·rcases hT with ⟨e1,-⟩ | ⟨t,e1,rfl,e3⟩
   ·rw [h4] at e1;cases e1
   ·refine .inr ⟨y,_,h1,.both (S:=S++[t]) (T:=[]) h2 (h6.trans hp) hb hs hi hl hqa (hqb.put1 (a:=t) rfl rfl ?_) (.inl ⟨h5,rfl⟩) (by simpa using hu),.stat (s_lt E) hq hm,h3⟩
    exact e3
  ·rw [hp] at h5;cases h5
 |half ha hd hj hl he hb hqa hqb =>
  rename_i d j
  rcases ha.next with h1 | ⟨y,h1,h2,h3,h4,h5,h6⟩ | ⟨y,mr,hm,hq,h1,h2,h3,h4,h5,h6⟩ | ⟨y,d',h1,h2,h3,h4,h5,h6⟩
  ·exact .inl h1
  ·exact .inr ⟨y,_,h1,.half h2 hd hj (by unfold lim at *;rw [h6];exact hl) he hb hqa (mem_put hqb (.inl ⟨rfl,rfl⟩)),.bgn (crd_lt _),h3⟩
  ·exact .inr ⟨y,_,h1,.half h2 hd hj (by unfold lim at *;rw [h6];exact hl) he hb hqa (mem_put hqb (.inr (.inr rfl))),.stat (s_lt E) hq hm,h3⟩
  ·have e1:=h3 (by omega)
   subst e1
   refine .inr ⟨y,_,h1,.half h2 hd (by omega) ?_ he hb hqa (mem_put hqb (.inr (.inl rfl))),.poll (s_lt E) (by omega),h4⟩
   unfold lim at *
   rw [h5] at hl
   rw [h6]
   show j+1+(0:Nat)+_<=_
   have:j+(1:Nat)+d'<=41:=hl
   omega
 |idle ha hb hqa hqb =>
  rcases ha.next with h1 | ⟨y,u,h1,h2,h3,h4⟩
  ·exact .inl h1
  ·exact .inr ⟨y,u,h1,.idle h2 hb hqa (mem_put hqb h3.tb),h3.wg,h4⟩
theorem Ans.put {l:List Pd} {u:Pd} (h:Ans l):Ans (l++[u]):=by
 obtain ⟨v,hv,hk⟩:=h
 exact ⟨v,List.mem_append.2 (.inl hv),hk⟩
theorem Ans.says {l c c':List Pd} {u:Pd} {p:Prop} (hc:c=u::c') (h:Ans l\/Ans c\/p):Ans (l++[u])\/Ans c'\/p:=by
 rcases h with h | ⟨v,hv,hk⟩ | h
 ·exact .inl h.put
 ·rw [hc] at hv
  rcases List.mem_cons.1 hv with rfl | hv
  ·exact .inl ⟨_,List.mem_append.2 (.inr List.mem_cons_self),hk⟩
  ·exact .inr (.inl ⟨v,hv,hk⟩)
 ·exact .inr (.inr h)
theorem OB.say (hE:E.Ok) (h:OB E inc b qa):(En.next b=(b,none)/\(inc=false->b.ctl=[]))\/∃ y u,En.next b=(y,some (u,[]))/\OB E inc y (qa++[u])/\WG u/\talk b=talk y+1/\∀ p:Prop,Ans qa\/Ans b.ctl\/p->Ans (qa++[u])\/Ans y.ctl\/p:=by
 cases h with
 |new=>exact .inl ⟨rfl,fun _=>rfl⟩
 |inc=>exact .inl ⟨rfl,fun _=>rfl⟩
 |ready h hs hd hl hq hu =>
  rcases h.next hs with ⟨h1,h2⟩ | ⟨y,h1,h2,h3,h4,h5,h6⟩ | ⟨y,d',h1,h2,h3,h4,h5,h6,h7,h8⟩
  ·exact .inl ⟨h1,fun _=>h2⟩
  ·exact .inr ⟨y,_,h1,.ready h2 h4 hd (by unfold lim at *;rw [h5];exact hl) (hq.put0 rfl rfl) hu,.bgak (crd_lt _),h3,fun p hp=>Ans.says h6 hp⟩
  ·have e1:=h3 (by omega)
   subst e1
   rw [hE.st] at h1
   refine .inr ⟨y,_,h1,.ready h2 h5 hd ?_ (hq.put1 rfl rfl rfl) hu.poll,.poll (s_lt E) (by omega),h4,fun p hp=>?_⟩
   ·unfold lim at *
    rw [h6] at hl
    rw [h7]
    have z0:((Bool.toNat false:Nat):Int)=0:=rfl
    have z1:((Bool.toNat true:Nat):Int)=1:=rfl
    omega
   ·rw [h8] at hp
    exact hp.imp Ans.put id
 |idle h hq =>
  rcases h.next with ⟨h1,h2⟩ | ⟨y,u,h1,h2,h3,h4,h5⟩
  ·exact .inl ⟨h1,fun _=>h2⟩
  ·refine .inr ⟨y,u,h1,.idle h2 (mem_put hq h3.ti),h3.wg,h4,fun p hp=>Ans.says h5 hp⟩
theorem Ph.sayB (hE:E.Ok) (h:Ph E Z K e n inc a b qa qb):En.next b=(b,none)\/∃ y u,En.next b=(y,some (u,[]))/\Ph E Z K e n inc a y (qa++[u]) qb/\WG u/\talk b=talk y+1:=by
 cases h with
 |out ha ht he hb hq hc hz =>
  rcases hb.say hE with ⟨h1,-⟩ | ⟨y,u,h1,h2,h3,h4,h5⟩
  ·exact .inl h1
  ·exact .inr ⟨y,u,h1,.out ha ht he h2 hq (hc.imp id (h5 _)) hz,h3,h4⟩
 |both ha hp hb hs hi hl hqa hqb hT hu =>
  rename_i d d' i j S P T
  rcases hb.next hs with ⟨h1,h2⟩ | ⟨y,h1,h2,h3,h4,h5,h6⟩ | ⟨y,d',h1,h2,h3,h4,h5,h6,h7,h8⟩
  ·exact .inl h1
  ·exact .inr ⟨y,_,h1,.both ha hp h2 h4 hi (by unfold lim at *;rw [h5];exact hl) (hqa.put0 rfl rfl) hqb hT hu,.bgak (crd_lt _),h3⟩
  ·rw [hE.st] at h1
   refine .inr ⟨y,_,h1,.both (P:=P++[j+1]) ha hp h2 h5 hi ?_ (hqa.put1 rfl rfl rfl) hqb hT ?_,.poll (s_lt E) (by omega),h4⟩
   ·unfold lim at *
    rw [h6] at hl
    rw [h7]
    have z0:((Bool.toNat false:Nat):Int)=0:=rfl
    have z1:((Bool.toNat true:Nat):Int)=1:=rfl
    omega
   ·have:=Up.poll hu
    simpa [List.append_assoc] using this
 |half ha hd hj hl he hb hqa hqb =>
  rcases hb.next with ⟨h1,-⟩ | ⟨y,u,h1,h2,h3,h4,h5⟩
  ·exact .inl h1
  ·refine .inr ⟨y,u,h1,.half ha hd hj hl he h2 (mem_put hqa h3.ti) hqb,h3.wg,h4⟩
 |idle ha hb hqa hqb =>
  rcases hb.next with ⟨h1,-⟩ | ⟨y,u,h1,h2,h3,h4,h5⟩
  ·exact .inl h1
  ·exact .inr ⟨y,u,h1,.idle ha h2 (mem_put hqa h3.ta) hqb,h3.wg,h4⟩
end
end Su
set_option maxRecDepth 20000
namespace Su
open Cn (S Pd SR)
open En (X)
section
variable {E:Env} {Z K inc:Bool} {e n:Int} {a b:X} {u:Pd} {qa qb:List Pd}
theorem sub_app {i j:Int} {S T P S' T' P':List Int} (hS:S'.Sublist S) (hT:T'.Sublist T) (hP:P'.Sublist P) (h:Up (i::(S++T++P++[j]))):Up (i::(S'++T'++P'++[j])):=
 h.sub (((hS.append hT).append hP).append (List.Sublist.refl _) |>.cons_cons i)
theorem Qn.rest {s k0 k1:Int} {l:List Pd} {P:List Int} (h:Qn s k0 k1 (u::l) P):∃ P',Qn s k0 k1 l P'/\P'.Sublist P:=by
 cases h with
 |one _ _ h=>exact ⟨_,h,List.Sublist.refl _⟩
 |num _ _ _ h=>exact ⟨_,h,List.sublist_cons_self _ _⟩
theorem OB.rest (h:OB E inc b (u::qa)):OB E inc b qa:=by
 cases h with
 |ready h hs hd hl hq hu =>
  obtain ⟨P',h1,h2⟩:=hq.rest
  exact .ready h hs hd hl h1 (hu.sub ((h2.append (List.Sublist.refl _)).cons_cons 0))
 |idle h hq=>exact .idle h fun v hv=>hq v (List.mem_cons_of_mem _ hv)
theorem Ph.loseA (h:Ph E Z K e n inc a b (u::qa) qb) (hn:n<6):Ph E Z K e (n+1) inc a b qa qb:=by
 cases h with
 |out ha ht he hb hq hc hz=>exact .out ha ht he hb.rest hq (hc.less hn) hz
 |both ha hp hb hs hi hl hqa hqb hT hu =>
  obtain ⟨P',h1,h2⟩:=hqa.rest
  exact .both ha hp hb hs hi hl h1 hqb hT (sub_app (List.Sublist.refl _) (List.Sublist.refl _) h2 hu)
 |half ha hd hj hl he hb hqa hqb=>exact .half ha hd hj hl he hb (fun v hv=>hqa v (List.mem_cons_of_mem _ hv)) hqb
 |idle ha hb hqa hqb=>exact .idle ha hb (fun v hv=>hqa v (List.mem_cons_of_mem _ hv)) hqb
theorem Ph.loseB (h:Ph E Z K e n inc a b qa (u::qb)) (hn:n<6):Ph E Z K e (n+1) inc a b qa qb:=by
 cases h with
 |out ha ht he hb hq hc hz=>exact .out ha ht he hb (fun v hv=>hq v (List.mem_cons_of_mem _ hv)) (hc.less hn) (fun hZ=>by cases (hz hZ).1)
 |both ha hp hb hs hi hl hqa hqb hT hu =>
  obtain ⟨P',h1,h2⟩:=hqb.rest
  exact .both ha hp hb hs hi hl hqa h1 hT (sub_app h2 (List.Sublist.refl _) (List.Sublist.refl _) hu)
 |half ha hd hj hl he hb hqa hqb=>exact .half ha hd hj hl he hb hqa (fun v hv=>hqb v (List.mem_cons_of_mem _ hv))
 |idle ha hb hqa hqb=>exact .idle ha hb hqa (fun v hv=>hqb v (List.mem_cons_of_mem _ hv))
theorem ans_rest (h2:u.kind ≠ 2) (h7:u.kind ≠ 7) {p:Prop} (h:Ans (u::qa)\/p):Ans qa\/p:=by
 rcases h with ⟨v,hv,hk⟩ | h
 ·rcases List.mem_cons.1 hv with rfl | hv
  ·omega
  ·exact .inl ⟨v,hv,hk⟩
 ·exact .inr h
theorem OB.toA (hE:E.Ok) (h:OB E inc b (u::qa)) {cc t:Int} (ha:AO E.a (crd E.a) cc t a) (he:e+E.a.silent<=400) (hq:∀ v ∈ qb,v.kind=1/\v.sq=1):(En.receive a u []=(a,[])/\u.kind ≠ 2/\u.kind ≠ 7)\/∃ y sg,En.receive a u []=(y,sg)/\(∀ s ∈ sg,s.kind ≠ 1)/\Ph E Z K e (n+1) false y b qa qb:=by
 have hG:=hE.ga
 obtain ⟨⟨a0,b0⟩,⟨a1,b1⟩,⟨a2,b2⟩,⟨a3,b3⟩,⟨a4,b4⟩,h13,h23⟩:=id hG
 cases h with
 |ready h hs hd hl hq' hu =>
  rename_i d j P
  cases hq' with
  |one hk hs' hq' =>
   obtain ⟨y,sg,h1,h2,h3,h4,h5⟩:=ha.answered (l:=[]) hG hk hs'
   refine .inr ⟨y,sg,h1,h3,.both (S:=[]) (T:=[]) h2 h4 h hs (Int.le_refl _) (by omega) hq' (.ones (k0:=1) hq) (.inl ⟨h5,rfl⟩) ?_⟩
   simpa using hu
  |num hk hn hp hq'=>exact .inl ⟨ha.deaf (.inl hk),by omega,by omega⟩
 |idle h hq' =>
  rcases hq' u List.mem_cons_self with ⟨hk,hs⟩ | ⟨hk,hs⟩ | ⟨hk,hs⟩ | ⟨hk,hs⟩ | hk
  ·obtain ⟨y,sg,h1,h2,h3,h4,h5⟩:=ha.answered (l:=[]) hG hk hs
   refine .inr ⟨y,sg,h1,h3,.half h2 (by omega) (Int.le_refl _) ?_ he h (fun v hv=>hq' v (List.mem_cons_of_mem _ hv)) (fun v hv=>.inl (hq v hv))⟩
   unfold lim
   rw [h4]
   show 0+((0:Nat):Int)+_<=_
   omega
  ·exact .inl ⟨ha.deaf (.inr (.inl hk)),by omega,by omega⟩
  ·obtain ⟨y,sg,h1,h2,h3⟩:=ha.refused (l:=[]) hk hs
   exact .inr ⟨y,sg,h1,h3,.idle h2 h (fun v hv=>(hq' v (List.mem_cons_of_mem _ hv)).ta) (fun v hv=>.inl (hq v hv))⟩
  ·exact .inl ⟨ha.deaf (.inl hk),by omega,by omega⟩
  ·exact .inl ⟨ha.deaf (.inr (.inr hk)),by omega,by omega⟩
theorem Ph.hearA (hE:E.Ok) (h:Ph E Z K e n inc a b (u::qa) qb):∃ y sg,En.receive a u []=(y,sg)/\(∀ s ∈ sg,s.kind ≠ 1)/\Ph E Z K e (n+1) inc y b qa qb:=by
 have hG:=hE.ga
 obtain ⟨⟨a0,b0⟩,⟨a1,b1⟩,⟨a2,b2⟩,⟨a3,b3⟩,⟨a4,b4⟩,h13,h23⟩:=id hG
 cases h with
 |out ha ht he hb hq hc hz =>
  rename_i cc t
  have hi:inc=false:=by cases hb <;> rfl
  subst hi
  have hcc:cc<=8:=by rcases hc.c2 with h | h | h <;> omega
  have hm:E.a.cc*cc<=41*8:=by
   rcases Int.lt_or_le cc 0 with hneg | hpos
   ·have:=Int.mul_nonpos_of_nonneg_of_nonpos (a:=E.a.cc) (b:=cc) (by omega) (by omega)
    omega
   ·have:=Int.mul_le_mul b0 hcc hpos (by omega)
    omega
  rcases hb.toA (Z:=Z) (K:=K) (n:=n) hE ha (e:=e) (by omega) hq with ⟨h1,h2,h3⟩ | h1
  ·exact ⟨a,[],h1,fun s hs=>(by cases hs),.out ha ht he hb.rest hq (hc.more (fun x=>x.imp id (ans_rest h2 h3)) (ans_rest h2 h3)) hz⟩
  ·exact h1
 |both ha hp hb hs hi hl hqa hqb hT hu =>
  cases hqa with
  |one hk hs' hqa=>exact ⟨a,[],ha.deaf hk,fun s hs=>(by cases hs),.both ha hp hb hs hi hl hqa hqb hT hu⟩
  |num hk hn hp' hqa =>
   rename_i d d' i j S T P t
   obtain ⟨y,h1,h2,h3,h4,h5,h6⟩:=ha.polled (l:=[]) hk hn (by omega)
   refine ⟨y,[],h1,fun s hs=>(by cases hs),.both (T:=[t]) h2 (h5.trans hp) hb hs hi hl hqa hqb (.inr ⟨t,h3,rfl,h4.trans hp'⟩) (hu.sub ?_)⟩
   have hx:(S++(t::P++[j])).Sublist (S++(T++(t::P++[j]))):=(List.Sublist.refl S).append (List.sublist_append_right T _)
   have hy:=hx.cons_cons i
   simp only [List.append_assoc,List.cons_append,List.nil_append] at hy ⊢
   exact hy
 |half ha hd hj hl he hb hqa hqb =>
  rcases hqa u List.mem_cons_self with ⟨hk,hs⟩ | ⟨hk,hs⟩ | ⟨hk,hs⟩ | ⟨hk,hs,hp⟩ | hk
  ·exact ⟨a,[],ha.deaf hk,fun s hs=>(by cases hs),.half ha hd hj hl he hb (fun v hv=>hqa v (List.mem_cons_of_mem _ hv)) hqb⟩
  ·obtain ⟨y,sg,h1,h2,h3⟩:=ha.ended (u:=u) (l:=[]) (.inr (.inr ⟨hk,hs⟩))
   exact ⟨y,sg,h1,h3,.idle h2 hb (fun v hv=>(hqa v (List.mem_cons_of_mem _ hv)).ta) (fun v hv=>(hqb v hv).tb)⟩
  ·obtain ⟨y,sg,h1,h2,h3⟩:=ha.ended (u:=u) (l:=[]) (.inl hk)
   exact ⟨y,sg,h1,h3,.idle h2 hb (fun v hv=>(hqa v (List.mem_cons_of_mem _ hv)).ta) (fun v hv=>(hqb v hv).tb)⟩
  ·obtain ⟨y,h1,h2,h3,h4,h5,h6⟩:=ha.polled (l:=[]) hk hs hp
   exact ⟨y,[],h1,fun s hs=>(by cases hs),.half h2 hd hj (by unfold lim at *;rw [h5];exact hl) he hb (fun v hv=>hqa v (List.mem_cons_of_mem _ hv)) hqb⟩
  ·obtain ⟨y,sg,h1,h2,h3⟩:=ha.ended (u:=u) (l:=[]) (.inr (.inl hk))
   exact ⟨y,sg,h1,h3,.idle h2 hb (fun v hv=>(hqa v (List.mem_cons_of_mem _ hv)).ta) (fun v hv=>(hqb v hv).tb)⟩
 |idle ha hb hqa hqb =>
  obtain ⟨y,sg,h1,h2,h3⟩:=ha.stays (l:=[]) (hqa u List.mem_cons_self)
  exact ⟨y,sg,h1,h3,.idle h2 hb (fun v hv=>hqa v (List.mem_cons_of_mem _ hv)) hqb⟩
theorem OB.heard (hE:E.Ok) (h:OB E false b qa) (hk:u.kind=1) (hs:u.sq=1):∃ y sg,En.receive b u []=(y,sg)/\((∀ s ∈ sg,s.kind ≠ 1)/\OB E false y qa/\Ans y.ctl\/(∃ s,sg=[s]/\s.kind=1)/\OB E true y qa):=by
 cases h with
 |new =>
  obtain ⟨sg,h1,h2⟩:=new_bgn (l:=[]) hE.mb hk hs
  exact ⟨_,_,h1,.inr ⟨⟨sg,rfl,h2⟩,.inc⟩⟩
 |ready h hs' hd hl hq hu =>
  obtain ⟨y,h1,h2,h3,h4,v,hv,hk'⟩:=h.answers (l:=[]) hk hs
  exact ⟨y,[],h1,.inl ⟨fun s hs=>(by cases hs),.ready h2 (h3.trans hs') hd (by unfold lim at *;rw [h4];exact hl) hq hu,v,hv,.inl hk'⟩⟩
 |idle h hq =>
  obtain ⟨y,sg,h1,h2,h3,h4,-⟩:=h.stays (l:=[]) (.inl ⟨hk,hs⟩)
  obtain ⟨v,hv,hk'⟩:=h4 hk
  exact ⟨y,sg,h1,.inl ⟨h3,.idle h2 hq,v,hv,.inr hk'⟩⟩
theorem Ph.hearB (hE:E.Ok) (h:Ph E Z K e n false a b qa (u::qb)):∃ y sg,En.receive b u []=(y,sg)/\((∀ s ∈ sg,s.kind ≠ 1)/\Ph E Z K e (n+1) false a y qa qb\/(∃ s,sg=[s]/\s.kind=1)/\Ph E Z K e (n+1) true a y qa qb):=by
 cases h with
 |out ha ht he hb hq hc hz =>
  obtain ⟨hk,hs⟩:=hq u List.mem_cons_self
  have hq':∀ v ∈ qb,v.kind=1/\v.sq=1:=fun v hv=>hq v (List.mem_cons_of_mem _ hv)
  obtain ⟨y,sg,h1,h2⟩:=hb.heard hE hk hs
  refine ⟨y,sg,h1,h2.imp (fun h=>⟨h.1,.out ha ht he h.2.1 hq' (hc.more (fun _=>.inr (.inr (.inl h.2.2))) (fun _=>.inr (.inl h.2.2))) (fun hZ=>by cases (hz hZ).1)⟩) fun h=>⟨h.1,.out ha ht he h.2 hq' (hc.more (fun _=>.inr (.inr (.inr rfl))) (fun _=>.inr (.inr rfl))) (fun hZ=>by cases (hz hZ).1)⟩⟩
 |both ha hp hb hs hi hl hqa hqb hT hu =>
  cases hqb with
  |one hk hs' hqb =>
   obtain ⟨y,h1,h2,h3,h4,-⟩:=hb.answers (l:=[]) hk hs'
   exact ⟨y,[],h1,.inl ⟨fun s hs=>(by cases hs),.both ha hp h2 (h3.trans hs) hi (by unfold lim at *;rw [h4];exact hl) hqa hqb hT hu⟩⟩
  |num hk hn hp' hqb =>
   rename_i d d' i j P T S t
   have hm:=Up.mid (P:=S++T++P) (i:=i) (j:=j) (a:=t) (by simpa using hu)
   have hj:j<=41:=by unfold lim at hl;omega
   obtain ⟨y,d'',h1,h2,h3,h4,h5⟩:=hb.told (a:=t) hk (hn.trans hE.st.symm) (by rw [hE.st];exact hp') hm.1 hm.2 (by omega)
   refine ⟨y,[],h1,.inl ⟨fun s hs=>(by cases hs),.both ha hp h2 (h3.trans hs) (by omega) (by unfold lim at *;rw [h4];exact hl) hqa hqb hT (hu.sub ?_)⟩⟩
   simp only [List.cons_append]
   exact List.sublist_cons_self _ _
 |half ha hd hj hl he hb hqa hqb =>
  obtain ⟨y,sg,h1,h2,h3,-⟩:=hb.stays (l:=[]) (hqb u List.mem_cons_self).tb
  exact ⟨y,sg,h1,.inl ⟨h3,.half ha hd hj hl he h2 hqa (fun v hv=>hqb v (List.mem_cons_of_mem _ hv))⟩⟩
 |idle ha hb hqa hqb =>
  obtain ⟨y,sg,h1,h2,h3,-⟩:=hb.stays (l:=[]) (hqb u List.mem_cons_self)
  exact ⟨y,sg,h1,.inl ⟨h3,.idle ha h2 hqa (fun v hv=>hqb v (List.mem_cons_of_mem _ hv))⟩⟩
theorem Ph.accepts (hE:E.Ok) (h:Ph E Z K e n true a b qa qb):∃ y,En.request b 2 Cn.no 0=(y,[],0)/\Ph E Z K e n false a y qa qb:=by
 cases h with
 |out ha ht he hb hq hc hz =>
  cases hb with
  |inc =>
   rename_i m
   obtain ⟨y,h1,h2,h3,h4,h5⟩:=Su.accepts hE.gb (crd E.b) m 0
   obtain ⟨⟨a0,b0⟩,⟨a1,b1⟩,⟨a2,b2⟩,⟨a3,b3⟩,⟨a4,b4⟩,h13,h23⟩:=id hE.gb
   have hA:Ans y.ctl:=by rw [h5];exact ⟨_,List.mem_cons_self,.inl rfl⟩
   refine ⟨y,h1,.out ha ht he (.ready h2 h3 a3 ?_ .nil ?_) hq (hc.imp id fun _=>.inr (.inl hA)) hz⟩
   ·unfold lim
    rw [h4]
    show 0+((0:Nat):Int)+_<=_
    omega
   ·show Up [0,0]
    unfold Up
    simp
end
end Su
set_option maxRecDepth 20000
namespace Su
open Cn (S Pd SR)
open En (X)
section
variable {E:Env} {Z K inc:Bool} {e n:Int} {a b:X} {u:Pd} {qa qb:List Pd}
theorem Ph.dry (h:Ph E Z K e n inc a b qa []) (hn:En.next a=(a,none)):Ph E true K e n inc a b qa []:=by
 cases h with
 |out ha ht he hb hq hc hz =>
  rcases ha.next with ⟨-,h1⟩ | ⟨y,h1,-⟩
  ·exact .out ha ht he hb hq hc fun _=>⟨rfl,h1⟩
  ·rw [hn] at h1
   cases h1
 |both ha hp hb hs hi hl hqa hqb hT hu=>exact .both ha hp hb hs hi hl hqa hqb hT hu
 |half ha hd hj hl he hb hqa hqb=>exact .half ha hd hj hl he hb hqa hqb
 |idle ha hb hqa hqb=>exact .idle ha hb hqa hqb
theorem Ph.told (hE:E.Ok) (h:Ph E Z K e n false a b [] qb) (hn:En.next b=(b,none)):Ph E Z false e n false a b [] qb:=by
 cases h with
 |out ha ht he hb hq hc hz =>
  rcases hb.say hE with ⟨-,h1⟩ | ⟨y,u,h1,-⟩
  ·have h1:=h1 rfl
   refine .out ha ht he hb hq ⟨hc.c1,?_⟩ hz
   have hno:¬ (Ans []\/Ans b.ctl\/false=true):=by
    rw [h1]
    rintro (⟨v,hv,-⟩ | ⟨v,hv,-⟩ | h)
    ·cases hv
    ·cases hv
    ·cases h
   rcases hc.c2 with h | h | h
   ·exact .inl h
   ·exact .inr (.inl h)
   ·exact absurd h.2.2.2 hno
  ·rw [hn] at h1
   cases h1
 |both ha hp hb hs hi hl hqa hqb hT hu=>exact .both ha hp hb hs hi hl hqa hqb hT hu
 |half ha hd hj hl he hb hqa hqb=>exact .half ha hd hj hl he hb hqa hqb
 |idle ha hb hqa hqb=>exact .idle ha hb hqa hqb
theorem OB.tick (hE:E.Ok) (h:OB E false b qa):∃ y sg,En.tick b=(y,sg)/\OB E false y qa/\(Ans b.ctl->Ans y.ctl):=by
 obtain ⟨⟨a0,b0⟩,⟨a1,b1⟩,⟨a2,b2⟩,⟨a3,b3⟩,⟨a4,b4⟩,h13,h23⟩:=id hE.gb
 cases h with
 |new=>exact ⟨_,_,tick_off,.new,fun h=>h⟩
 |ready h hs hd hl hq hu =>
  rename_i d j P
  by_cases h1:d=1
  ·subst h1
   obtain ⟨y,sg,e1,e2,e3,e4⟩:=h.silent
   exact ⟨y,sg,e1,.idle e2 hq.ti,fun ⟨v,hv,hk⟩=>⟨v,e4 v hv,hk⟩⟩
  ·obtain ⟨y,e1,e2,e3,e4⟩:=h.tick (by omega)
   refine ⟨y,[],e1,.ready e2 (e3.trans hs) (by omega) ?_ hq hu,fun h=>by rw [e4];exact h⟩
   have hp:(y.poll.toNat:Int)<=1:=by cases y.poll <;> decide
   have hp':(0:Int)<=(b.poll.toNat:Int):=by omega
   unfold lim at *
   omega
 |idle h hq=>exact ⟨_,_,h.tick,.idle h hq,fun h=>h⟩
theorem Ph.tick (hE:E.Ok) (h:Ph E true false e n false a b qa qb) (h1:¬ (a.conn.state=10/\b.conn.state=10)) (h2:¬ (a.conn.state=1/\b.conn.state=1)):e<=400/\∃ ya sa yb sb,En.tick a=(ya,sa)/\En.tick b=(yb,sb)/\Ph E false true (e+1) n false ya yb qa qb:=by
 obtain ⟨⟨a0,b0⟩,⟨a1,b1⟩,⟨a2,b2⟩,⟨a3,b3⟩,⟨a4,b4⟩,h13,h23⟩:=id hE.ga
 cases h with
 |out ha ht he hb hq hc hz =>
  rename_i cc t
  obtain ⟨z1,z2⟩:=hz rfl
  have hcn:cc<=n:=by
   rcases hc.c1 with h | h
   ·exact h
   ·rcases h.2 with h' | h'
    ·exact absurd z1 h'
    ·exact absurd z2 h'
  have hc2:cc<=6\/(6<=n/\cc<=7/\(Ans qa\/Ans b.ctl)):=by
   rcases hc.c2 with h | ⟨h,h',h''⟩ | ⟨h,-⟩
   ·exact .inl h
   ·refine .inr ⟨h,h',?_⟩
    rcases h'' with (h'' | h'') | (h'' | h'' | h'')
    ·exact absurd z1 h''
    ·exact absurd z2 h''
    ·exact .inl h''
    ·exact .inr h''
    ·cases h''
   ·cases h
  have hcc:cc<=7:=by rcases hc2 with h | h <;> omega
  have hm:E.a.cc*cc<=41*7:=by
   rcases Int.lt_or_le cc 0 with hneg | hpos
   ·have:=Int.mul_nonpos_of_nonneg_of_nonpos (a:=E.a.cc) (b:=cc) (by omega) (by omega)
    omega
   ·have:=Int.mul_le_mul b0 hcc hpos (by omega)
    omega
  obtain ⟨yb,sb,e1,e2,e3⟩:=hb.tick hE
  by_cases ht1:t=1
  ·subst ht1
   obtain ⟨ya,e4,e5,e6⟩:=ha.again hE.ga (by omega)
   refine ⟨by omega,ya,[],yb,sb,e4,e1,.out e5 a0 ?_ e2 hq ⟨.inr ⟨by omega,.inr e6⟩,?_⟩ (fun h=>by cases h)⟩
   ·rw [Int.mul_add,he];omega
   ·rcases hc2 with h | ⟨h,h',h''⟩
    ·rcases Int.lt_or_le cc 6 with h6 | h6
     ·exact .inl (by omega)
     ·exact .inr (.inl ⟨by omega,by omega,.inl (.inr e6)⟩)
    ·exact .inr (.inr ⟨rfl,h,by omega,h''.imp id fun x=>.inl (e3 x)⟩)
  ·obtain ⟨ya,e4,e5,e6⟩:=ha.tick (by omega)
   refine ⟨by omega,ya,[],yb,sb,e4,e1,.out e5 (by omega) (by omega) e2 hq ⟨.inl hcn,?_⟩ (fun h=>by cases h)⟩
   rcases hc2 with h | ⟨h,h',h''⟩
   ·exact .inl h
   ·exact .inr (.inl ⟨h,h',.inr (h''.imp id fun x=>.inl (e3 x))⟩)
 |both ha hp hb hs hi hl hqa hqb hT hu =>
  refine absurd ⟨?_,?_⟩ h1
  ·cases ha;rfl
  ·cases hb;rfl
 |half ha hd hj hl he hb hqa hqb =>
  rename_i d j
  refine ⟨by omega,?_⟩
  by_cases hd1:d=1
  ·subst hd1
   obtain ⟨y,sg,e1,e2,e3⟩:=ha.silent
   exact ⟨y,sg,b,[],e1,hb.tick,.idle e2 hb (fun v hv=>(hqa v hv).ta) (fun v hv=>(hqb v hv).tb)⟩
  ·obtain ⟨y,e1,e2,e3,e4,e5⟩:=ha.tick (by omega)
   refine ⟨y,[],b,[],e1,hb.tick,.half e2 (by omega) hj ?_ (by omega) hb hqa hqb⟩
   have hp:(y.poll.toNat:Int)<=1:=by cases y.poll <;> decide
   have hp':(0:Int)<=(a.poll.toNat:Int):=by omega
   unfold lim at *
   omega
 |idle ha hb hqa hqb =>
  refine absurd ⟨?_,?_⟩ h2
  ·cases ha;rfl
  ·cases hb;rfl
theorem begins (hE:E.Ok):∃ y,En.request (En.new E.a) 1 Cn.no 0=(y,[],0)/\Ph E false true 0 0 false y (En.new E.b) [] []:=by
 obtain ⟨⟨a0,b0⟩,⟨a1,b1⟩,⟨a2,b2⟩,⟨a3,b3⟩,⟨a4,b4⟩,h13,h23⟩:=id hE.ga
 obtain ⟨y,h1,h2,h3⟩:=asks hE.ga hE.ma
 refine ⟨y,h1,.out h2 a0 (by omega) .new (fun u hu=>(by cases hu)) ⟨.inr ⟨by omega,.inr (by rw [h3];simp)⟩,.inl (by omega)⟩ (fun h=>by cases h)⟩
end
structure Fits (x:X):Prop where
 fit:En.Fit x (x.c.start%16777216+41) (x.c.start%16777216+41)
 lf:x.left=[]
 us:x.units=[]
 ag:∀ p,x.ep=some p->p.1.again=[]
 wt:∀ p,x.ep=some p->p.1.wait=[]/\p.2.gaps=[]
theorem fit_off {P:Pd->Prop} {c:Nd.C} {cn:S} {tm:List Int} {ctl:List Pd} {q:Int} (h:Ct P ctl) (hk:∀ u,P u->1<=u.kind/\u.kind<=15) (hs:cn.state ≠ 10):Fits (off c cn tm ctl q):=
 ⟨⟨h.nd,fun u hu=>hk u (h.all u hu),⟨by show c.start%16777216<=c.start%16777216+41;omega,by show c.start%16777216+41-c.start%16777216<=4000;omega⟩,⟨by show c.start%16777216<=c.start%16777216+41;omega,by show c.start%16777216+41-c.start%16777216<=8000000;omega⟩,fun p hp=>(by cases hp),by
  show false=(cn.state==10)
  exact (beq_false_of_ne hs).symm⟩,rfl,rfl,fun p hp=>(by cases hp),fun p hp=>(by cases hp)⟩
theorem fit_on {P:Pd->Prop} {c:Nd.C} {cn:S} {tm:List Int} {ctl:List Pd} {pl st:Bool} {q M i j:Int} (h:Ct P ctl) (hk:∀ u,P u->1<=u.kind/\u.kind<=15) (hs:cn.state=10) (hM:Mb c M) (hi:0<=i) (hij:i<=j) (hj:j<=41):Fits (on c cn tm ctl pl st q M i j):=by
 have hn:=Sf.Ok.new c.start c.queue c.polls (c.start%16777216+41) (by omega) (by omega)
 refine ⟨⟨h.nd,fun u hu=>hk u (h.all u hu),⟨by show c.start%16777216<=c.start%16777216+41;omega,by show c.start%16777216+41-c.start%16777216<=4000;omega⟩,⟨by show c.start%16777216<=c.start%16777216+41;omega,by show c.start%16777216+41-c.start%16777216<=8000000;omega⟩,fun p hp=>?_,by
  show true=(cn.state==10)
  rw [hs]
  rfl⟩,rfl,rfl,fun p hp=>?_,fun p hp=>(by cases hp;exact ⟨rfl,rfl⟩)⟩
 ·cases hp
  refine ⟨{ hn with sms:=?_,msa:=?_,lpa:=?_,pas:=?_,phi:=?_,lasts:=fun v hv=>(by cases hv) },Rf.Ok.new _ _ _ (by show c.start%16777216<=c.start%16777216+41;omega) (by show c.start%16777216+41-c.start%16777216<=8000000;omega)⟩
  ·exact hM.1
  ·have:=hM.2
   show M-c.start%16777216<=8388608
   omega
  ·show c.start%16777216<=c.start%16777216+i
   omega
  ·show c.start%16777216+i<=c.start%16777216+j
   omega
  ·show c.start%16777216+j<=c.start%16777216+41
   omega
 ·cases hp
  rfl
section
variable {E:Env} {Z K inc:Bool} {e n:Int} {a b:X} {u:Pd} {qa qb:List Pd}
theorem k15 (k:Int) (h:1<=k/\k<=15):1<=k/\k<=15:=h
theorem PA.ks {c:Int} {u:Pd} (h:PA c u):1<=u.kind/\u.kind<=15:=by
 rcases h with rfl | rfl | rfl
 ·exact k15 1 (by decide)
 ·exact k15 3 (by decide)
 ·exact k15 4 (by decide)
theorem PB.ks {c:Int} {u:Pd} (h:PB c u):1<=u.kind/\u.kind<=15:=by
 rcases h with rfl | rfl | rfl | rfl
 ·exact k15 2 (by decide)
 ·exact k15 3 (by decide)
 ·exact k15 7 (by decide)
 ·exact k15 4 (by decide)
theorem AR.fits {c:Nd.C} {cr d i j:Int} {x:X} (h:AR c cr d i j x) (hi:0<=i) (hij:i<=j) (hj:j<=41):Fits x:=by
 obtain ⟨hc,hM,-⟩:=h
 exact fit_on (P:=PA cr) (hc.imp fun u hu=>.inl hu) (fun u hu=>PA.ks hu) rfl hM hi hij hj
theorem BR.fits {c:Nd.C} {cr d i j:Int} {x:X} (h:BR c cr d i j x) (hi:0<=i) (hij:i<=j) (hj:j<=41):Fits x:=by
 obtain ⟨hc,hM⟩:=h
 exact fit_on (P:=PB cr) (hc.imp fun u hu=>.inl hu) (fun u hu=>PB.ks hu) rfl hM hi hij hj
theorem BI.fits {c:Nd.C} {cr:Int} {x:X} (h:BI c cr x):Fits x:=by
 obtain ⟨hc⟩:=h
 exact fit_off hc (fun u hu=>hu.ks) (by show (1:Int) ≠ 10;decide)
theorem fits_new (c:Nd.C):Fits (En.new c):=fit_off (P:=PA 0) .nil (fun u hu=>hu.ks) (by show (1:Int) ≠ 10;decide)
theorem OB.fits (h:OB E inc b qa):Fits b:=by
 cases h with
 |new=>exact fits_new _
 |inc=>exact fit_off (P:=PA 0) .nil (fun u hu=>hu.ks) (by show (3:Int) ≠ 10;decide)
 |ready h hs hd hl hq hu=>exact h.fits (Int.le_refl _) hu.ends (by unfold lim at hl;omega)
 |idle h hq=>exact h.fits
theorem Ph.fits (h:Ph E Z K e n inc a b qa qb):Fits a/\Fits b:=by
 cases h with
 |out ha ht he hb hq hc hz =>
  refine ⟨?_,hb.fits⟩
  obtain ⟨hk⟩:=ha
  exact fit_off (P:=PA (crd E.a)) (hk.imp fun u hu=>.inl hu) (fun u hu=>PA.ks hu) (by show (2:Int) ≠ 10;decide)
 |both ha hp hb hs hi hl hqa hqb hT hu=>exact ⟨ha.fits (Int.le_refl _) (Int.le_refl _) (by decide),hb.fits hi hu.ends (by unfold lim at hl;omega)⟩
 |half ha hd hj hl he hb hqa hqb=>exact ⟨ha.fits (Int.le_refl _) hj (by unfold lim at hl;omega),hb.fits⟩
 |idle ha hb hqa hqb =>
  refine ⟨?_,hb.fits⟩
  obtain ⟨hc⟩:=ha
  exact fit_off hc (fun u hu=>hu.ks) (by show (1:Int) ≠ 10;decide)
end
end Su
set_option maxRecDepth 20000
namespace Su
open Cn (S Pd SR)
open En (X)
def upd {α:Type} (f:Nat->α) (i:Nat) (v:α):Nat->α:=fun k=>if k=i then v else f k
theorem upd_at {α:Type} (f:Nat->α) (i:Nat) (v:α):upd f i v i=v:=if_pos rfl
theorem upd_ne {α:Type} (f:Nat->α) {i k:Nat} (v:α) (h:k ≠ i):upd f i v k=f k:=if_neg h
structure Sy where
 x:Nat->X
 q:Nat->List Pd
def Sy.setX (s:Sy) (i:Nat) (y:X):Sy:=⟨upd s.x i y,s.q⟩
def Sy.setQ (s:Sy) (i:Nat) (l:List Pd):Sy:=⟨s.x,upd s.q i l⟩
def mu (i:Nat) (s:Sy):Nat:=(s.q i).length+talk (s.x (1-i))
structure PhS (E:Env) (Z K:Bool) (e n:Int) (inc:Bool) (v:Nat) (s:Sy):Prop where
 v2:v<2
 ph:Ph E Z K e n inc (s.x v) (s.x (1-v)) (s.q v) (s.q (1-v))
 wg:∀ k,∀ u ∈ s.q k,WG u
theorem wg_upd {q:Nat->List Pd} (h:∀ k,∀ u ∈ q k,WG u) (i:Nat) {l:List Pd} (hl:∀ u ∈ l,WG u):∀ k,∀ u ∈ upd q i l k,WG u:=fun k u hu=>by
 unfold upd at hu
 split at hu
 ·exact hl u hu
 ·exact h k u hu
theorem wg_tail {q:Nat->List Pd} (h:∀ k,∀ u ∈ q k,WG u) {i:Nat} {u:Pd} {r:List Pd} (hq:q i=u::r):∀ k,∀ u ∈ upd q i r k,WG u:=wg_upd h i fun v hv=>h i v (by rw [hq];exact List.mem_cons_of_mem _ hv)
theorem wg_put {q:Nat->List Pd} (h:∀ k,∀ u ∈ q k,WG u) (i:Nat) {u:Pd} (hu:WG u):∀ k,∀ z ∈ upd q i (q i++[u]) k,WG z:=wg_upd h i fun v hv=>by
 rcases List.mem_append.1 hv with hv | hv
 ·exact h i v hv
 ·rw [List.mem_singleton.1 hv];exact hu
theorem two {i v:Nat} (hi:i<2) (hv:v<2):(i=v/\1-i=1-v)\/(i=1-v/\1-i=v):=by omega
section
variable {E:Env} {Z K inc:Bool} {e n:Int} {v i:Nat} {s:Sy} {u:Pd} {r:List Pd}
theorem PhS.say (hE:E.Ok) (h:PhS E Z K e n inc v s) (hi:i<2):En.next (s.x i)=(s.x i,none)\/∃ y u,En.next (s.x i)=(y,some (u,[]))/\PhS E Z K e n inc v ((s.setX i y).setQ (1-i) (s.q (1-i)++[u]))/\WG u/\talk (s.x i)=talk y+1:=by
 obtain ⟨hv,h,hw⟩:=h
 have hne:1-v ≠ v:=by omega
 have hne':v ≠ 1-v:=by omega
 rcases two hi hv with ⟨rfl,-⟩ | ⟨rfl,e2⟩
 ·rcases h.sayA with h1 | ⟨y,u,h1,h2,h3,h4⟩
  ·exact .inl h1
  ·refine .inr ⟨y,u,h1,⟨hv,?_,wg_put hw _ h3⟩,h3,h4⟩
   show Ph E Z K e n inc (upd s.x i y i) (upd s.x i y (1-i)) (upd s.q (1-i) _ i) (upd s.q (1-i) _ (1-i))
   rw [upd_at,upd_at,upd_ne _ _ hne,upd_ne _ _ hne']
   exact h2
 ·rw [e2]
  rcases h.sayB hE with h1 | ⟨y,u,h1,h2,h3,h4⟩
  ·exact .inl h1
  ·refine .inr ⟨y,u,h1,⟨hv,?_,wg_put hw _ h3⟩,h3,h4⟩
   show Ph E Z K e n inc (upd s.x (1-v) y v) (upd s.x (1-v) y (1-v)) (upd s.q v _ v) (upd s.q v _ (1-v))
   rw [upd_at,upd_at,upd_ne _ _ hne,upd_ne _ _ hne']
   exact h2
theorem mu_say (hi:i<2) {y:X} (ht:talk (s.x i)=talk y+1) {k:Nat} (hk:k<2):mu k ((s.setX i y).setQ (1-i) (s.q (1-i)++[u]))=mu k s:=by
 unfold mu
 rcases two hk hi with ⟨rfl,-⟩ | ⟨rfl,e2⟩
 ·show (upd s.q (1-k) _ k).length+talk (upd s.x k y (1-k))=_
  rw [upd_ne _ _ (by omega),upd_ne _ _ (by omega)]
 ·rw [e2]
  show (upd s.q (1-i) _ (1-i)).length+talk (upd s.x i y i)=_
  rw [upd_at,upd_at,List.length_append,ht,List.length_singleton]
  omega
theorem PhS.lose (h:PhS E Z K e n inc v s) (hi:i<2) (hq:s.q i=u::r) (hn:n<6):PhS E Z K e (n+1) inc v (s.setQ i r):=by
 obtain ⟨hv,h,hw⟩:=h
 have hne:1-v ≠ v:=by omega
 have hne':v ≠ 1-v:=by omega
 refine ⟨hv,?_,wg_tail hw hq⟩
 rcases two hi hv with ⟨rfl,-⟩ | ⟨rfl,e2⟩
 ·show Ph E Z K e (n+1) inc (s.x i) (s.x (1-i)) (upd s.q i r i) (upd s.q i r (1-i))
  rw [upd_at,upd_ne _ _ hne]
  rw [hq] at h
  exact h.loseA hn
 ·show Ph E Z K e (n+1) inc (s.x v) (s.x (1-v)) (upd s.q (1-v) r v) (upd s.q (1-v) r (1-v))
  rw [upd_at,upd_ne _ _ hne']
  rw [hq] at h
  exact h.loseB hn
theorem mu_lose (_hi:i<2) (hq:s.q i=u::r):mu i (s.setQ i r)+1=mu i s:=by
 unfold mu
 show (upd s.q i r i).length+_+1=_
 rw [upd_at,hq,List.length_cons]
 show _+talk (s.x (1-i))+1=_
 omega
theorem PhS.hear (hE:E.Ok) (h:PhS E Z K e n false v s) (hi:i<2) (hq:s.q i=u::r):∃ y sg,En.receive (s.x i) u []=(y,sg)/\((∀ s ∈ sg,s.kind ≠ 1)/\PhS E Z K e (n+1) false v ((s.setQ i r).setX i y)\/(i=1-v/\∃ s,sg=[s]/\s.kind=1)/\PhS E Z K e (n+1) true v ((s.setQ i r).setX i y)):=by
 obtain ⟨hv,h,hw⟩:=h
 have hne:1-v ≠ v:=by omega
 have hne':v ≠ 1-v:=by omega
 rcases two hi hv with ⟨rfl,-⟩ | ⟨rfl,e2⟩
 ·rw [hq] at h
  obtain ⟨y,sg,h1,h2,h3⟩:=h.hearA hE
  refine ⟨y,sg,h1,.inl ⟨h2,hv,?_,wg_tail hw hq⟩⟩
  show Ph E Z K e (n+1) false (upd s.x i y i) (upd s.x i y (1-i)) (upd s.q i r i) (upd s.q i r (1-i))
  rw [upd_at,upd_at,upd_ne _ _ hne,upd_ne _ _ hne]
  exact h3
 ·rw [hq] at h
  obtain ⟨y,sg,h1,h2⟩:=h.hearB hE
  have hp:∀ inc,Ph E Z K e (n+1) inc (s.x v) y (s.q v) r->PhS E Z K e (n+1) inc v ((s.setQ (1-v) r).setX (1-v) y):=fun inc h3=>by
   refine ⟨hv,?_,wg_tail hw hq⟩
   show Ph E Z K e (n+1) inc (upd s.x (1-v) y v) (upd s.x (1-v) y (1-v)) (upd s.q (1-v) r v) (upd s.q (1-v) r (1-v))
   rw [upd_at,upd_at,upd_ne _ _ hne',upd_ne _ _ hne']
   exact h3
  exact ⟨y,sg,h1,h2.imp (fun h=>⟨h.1,hp _ h.2⟩) fun h=>⟨⟨rfl,h.1⟩,hp _ h.2⟩⟩
theorem mu_hear (hi:i<2) {y:X} (hq:s.q i=u::r):mu i ((s.setQ i r).setX i y)+1=mu i s:=by
 rw [<- mu_lose hi hq]
 unfold mu
 show (upd s.q i r i).length+talk (upd s.x i y (1-i))+1=(upd s.q i r i).length+talk (s.x (1-i))+1
 rw [upd_ne s.x y (by omega)]
theorem PhS.accepts (hE:E.Ok) (h:PhS E Z K e n true v s):∃ y,En.request (s.x (1-v)) 2 Cn.no 0=(y,[],0)/\PhS E Z K e n false v (s.setX (1-v) y):=by
 obtain ⟨hv,h,hw⟩:=h
 obtain ⟨y,h1,h2⟩:=h.accepts hE
 refine ⟨y,h1,hv,?_,hw⟩
 show Ph E Z K e n false (upd s.x (1-v) y v) (upd s.x (1-v) y (1-v)) (s.q v) (s.q (1-v))
 rw [upd_at,upd_ne _ _ (by omega)]
 exact h2
theorem mu_set (hi:i<2) {y:X}:mu i (s.setX i y)=mu i s:=by
 unfold mu
 show _+talk (upd s.x i y (1-i))=_
 rw [upd_ne _ _ (by omega)]
 rfl
theorem PhS.tick (hE:E.Ok) (h:PhS E true false e n false v s) (h1:¬ ((s.x 0).conn.state=10/\(s.x 1).conn.state=10)) (h2:¬ ((s.x 0).conn.state=1/\(s.x 1).conn.state=1)):e<=400/\PhS E false true (e+1) n false v ((s.setX 0 (En.tick (s.x 0)).1).setX 1 (En.tick (s.x 1)).1):=by
 obtain ⟨hv,h,hw⟩:=h
 have hx:v=0\/v=1:=by omega
 rcases hx with rfl | rfl
 ·obtain ⟨h3,ya,sa,yb,sb,e1,e2,h4⟩:=h.tick hE h1 h2
  refine ⟨h3,hv,?_,hw⟩
  show Ph E false true (e+1) n false (En.tick (s.x 0)).1 (En.tick (s.x 1)).1 (s.q 0) (s.q 1)
  have e2:En.tick (s.x 1)=_:=e2
  rw [e1,e2]
  exact h4
 ·obtain ⟨h3,ya,sa,yb,sb,e1,e2,h4⟩:=h.tick hE (fun x=>h1 x.symm) (fun x=>h2 x.symm)
  refine ⟨h3,hv,?_,hw⟩
  show Ph E false true (e+1) n false (En.tick (s.x 1)).1 (En.tick (s.x 0)).1 (s.q 1) (s.q 0)
  have e2:En.tick (s.x 0)=_:=e2
  rw [e1,e2]
  exact h4
theorem PhS.drained (hE:E.Ok) (h:PhS E Z K e n false v s) (hi:i<2) (hq:s.q i=[]) (hn:En.next (s.x (1-i))=(s.x (1-i),none)):(i=1-v->PhS E true K e n false v s)/\(i=v->PhS E Z false e n false v s):=by
 obtain ⟨hv,h,hw⟩:=h
 refine ⟨fun hi=>⟨hv,?_,hw⟩,fun hi=>⟨hv,?_,hw⟩⟩
 ·subst hi
  have e2:1-(1-v)=v:=by omega
  rw [e2] at hn
  rw [hq] at h ⊢
  exact h.dry hn
 ·subst hi
  rw [hq] at h ⊢
  exact h.told hE hn
theorem PhS.begins (hE:E.Ok) (hv:v<2) {s:Sy} (ha:s.x v=En.new E.a) (hb:s.x (1-v)=En.new E.b) (hq:∀ i,s.q i=[]):∃ y,En.request (s.x v) 1 Cn.no 0=(y,[],0)/\PhS E false true 0 0 false v (s.setX v y):=by
 obtain ⟨y,h1,h2⟩:=Su.begins hE
 refine ⟨y,by rw [ha];exact h1,hv,?_,fun k u hu=>?_⟩
 ·show Ph E false true 0 0 false (upd s.x v y v) (upd s.x v y (1-v)) (s.q v) (s.q (1-v))
  rw [upd_at,upd_ne _ _ (by omega),hq,hq,hb]
  exact h2
 ·have hu:u ∈ s.q k:=hu
  rw [hq] at hu
  cases hu
theorem PhS.fits (h:PhS E Z K e n inc v s) (hi:i<2):Fits (s.x i):=by
 obtain ⟨hv,h,-⟩:=h
 rcases two hi hv with ⟨rfl,-⟩ | ⟨rfl,-⟩
 ·exact h.fits.1
 ·exact h.fits.2
theorem talk_le {x:X} (h:Fits x):talk x<=17:=by
 have h1:=En.few h.fit.nd h.fit.ks
 unfold talk
 cases x.stat <;> cases x.poll <;> simp [Bool.toNat] <;> omega
end
end Su
end Go.Proofs.YtlbopdfobgjjaaaGreatDoor

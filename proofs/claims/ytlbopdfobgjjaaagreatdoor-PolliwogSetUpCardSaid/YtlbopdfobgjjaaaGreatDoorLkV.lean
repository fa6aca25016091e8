/-
  Two ends over ways that lose: what the law's loops keep. The drain's number, the round's bound, what a phase gives to each call.
-/
import Derived.Test.YtlbopdfobgjjaaaGreatDoorLkK
import Derived.Test.YtlbopdfobgjjaaaGreatDoorEnVr
namespace Go.Proofs.YtlbopdfobgjjaaaGreatDoor
open Go.RowKit
set_option maxRecDepth 20000
theorem En.receive_len {x:En.X} {hi hi2:Int} (h:En.Fit x hi hi2) (hh:hi2+64-x.c.start%16777216<=8000000) (u:Cn.Pd) (l:List Int) (hk:En.ofEp u.kind=false\/u.kind=10\/u.kind=11):(En.receive x u l).2.length<=1500:=by
 have h3:∀ (y:En.X) (l:List Cn.Sig),(En.credit y l).2.length<=l.length+1:=fun y l=>by
  unfold En.credit
  dsimp only
  split
  ·rw [List.length_append];exact Nat.le_refl _
  ·split
   ·rw [List.length_append];exact Nat.le_refl _
   ·omega
 have h1:=(En.hear_few h hh u l hk).2
 have h2:=h3 (En.hear x u l).1 (En.hear x u l).2
 have e:(En.receive x u l).2=(En.credit (En.hear x u l).1 (En.hear x u l).2).2:=rfl
 rw [e]
 omega
structure Lw (K:Lk) (E:Su.Env) (v:Nat) (w0:World) (Z Kb:Bool) (e:Int) (inc:Bool) (D:Nat->Nat) (w:World) (s:Su.Sy) (N:Nat):Prop where
 lk:LkAt K D w s N
 ph:Su.PhS E Z Kb e (N:Int) inc v s
 en:∀ k,k<2->En.next (s.x k)=(s.x k,none)\/K.room<=(s.q (1-k)).length
 fr:Fresh w0 w
 lb:∀ b,b<w0.heap.size->D b=50
def lostE:El Bool:={ e:=4,size:=1,bytes:=1,zero:=.bool false,zel:=false,enc:=fun x=>[.bool x],len:=fun _=>rfl,one:=by simp [Value.oneCell'],pos:=by decide,zsize:=rfl,zenc:=rfl }
theorem and_one (a:Int):bits .and .i64 a 1=a%2:=and_mask a 1 1 rfl (by omega)
theorem vars_conn (x:En.X) (A:Option Addr) (c:Nat) (W:World):(Instr.field 62 (.agg (En.varsC x A c).toArray) 0).run Tryz.prog W=.ok (.agg (En.connV x.conn).toArray) W:=by
 obtain ⟨x0,x1,x2,x3,x4,x5,x6,x7,x8,x9,ep⟩:=x
 cases ep <;> kernel_rfl
section
variable {K:Lk} {E:Su.Env} {Z Kb inc inc':Bool} {e e':Int} {v:Nat} {w0 w w1 w2:World} {D D1 D2:Nat->Nat} {s s' s1:Su.Sy} {N N1 i:Nat}
theorem Lw.old (h:Lw K E v w0 Z Kb e inc D w s N) (ht:Fresh w w1) (k:Nat):Lw K E v w0 Z Kb e inc (lab D w.heap.size k) w1 s N:=
 ⟨h.lk.old ht (fun _b hb=>lab_old hb),h.ph,h.en,h.fr.trans ht (fun _ _ e=>e),fun b hb=>(lab_old (Nat.lt_of_lt_of_le hb h.fr.size)).trans (h.lb b hb)⟩
theorem LkTo.fresh (h:LkTo K D w s N D1 w1) (hf:Fresh w0 w) (hl:∀ b,b<w0.heap.size->D b=50):Fresh w0 w1/\∀ b,b<w0.heap.size->D1 b=50:=
 ⟨hf.trans h.touch (fun b hb hx=>by have:=hl b hb;have hx:D b<32:=hx;omega),fun b hb=>(h.lab b (Nat.lt_of_lt_of_le hb hf.size)).trans (hl b hb)⟩
theorem Lw.said {Z' Kb':Bool} (h:Lw K E v w0 Z Kb e inc D w s N) (hs:Said K E Z' Kb' e' (N1:Int) inc' v D w s1 N1 D1 w1 s'):Lw K E v w0 Z' Kb' e' inc' D1 w1 s' N1:=
 have h1:=hs.lk.fresh h.fr h.lb
 ⟨hs.lk.at_,hs.ph,hs.en,h1.1,h1.2⟩
theorem Lw.still (h:Lw K E v w0 Z Kb e inc D w s N) (hs:LkTo K D w s N D1 w1):Lw K E v w0 Z Kb e inc D1 w1 s N:=
 have h1:=hs.fresh h.fr h.lb
 ⟨hs.at_,h.ph,h.en,h1.1,h1.2⟩
theorem Lw.mu_le (h:Lw K E v w0 Z Kb e inc D w s N) (hr:K.room<=256) (hi:i<2):Su.mu i s<=273:=by
 have h1:=(h.lk.pp i hi).len
 have h2:=Su.talk_le (h.ph.fits (i:=1-i) (by omega))
 unfold Su.mu
 omega
theorem Lw.drained (h:Lw K E v w0 (decide (1-v<i)) (!decide (v<i)) e false D w s N) (hE:E.Ok) (hr:1<=K.room) (hi:i<2) (hq:s.q i=[]):Lw K E v w0 (decide (1-v<i+1)) (!decide (v<i+1)) e false D w s N:=by
 have hn:En.next (s.x (1-i))=(s.x (1-i),none):=by
  rcases h.en (1-i) (by omega) with h1 | h1
  ·exact h1
  ·have e1:1-(1-i)=i:=by omega
   rw [e1,hq,List.length_nil] at h1
   omega
 obtain ⟨h1,h2⟩:=h.ph.drained hE hi hq hn
 have hv:=h.ph.v2
 refine ⟨h.lk,?_,h.en,h.fr,h.lb⟩
 have hx:v=0\/v=1:=by omega
 have hy:i=0\/i=1:=by omega
 rcases hx with rfl | rfl <;> rcases hy with rfl | rfl
 ·exact h2 rfl
 ·exact h1 rfl
 ·exact h1 rfl
 ·exact h2 rfl
def Rec.asks (r:Rec):Prop:=r.k=5/\r.s.kind=1
inductive Todo (i:Nat):Bool->List Rec->Prop
 |nil:Todo i false []
 |skip {inc:Bool} {r:Rec} {L:List Rec} (hr:¬ r.asks) (h:Todo i inc L):Todo i inc (r::L)
 |hit {r:Rec} {L:List Rec} (hr:r.asks) (he:r.e=(i:Int)) (h:Todo i false L):Todo i true (r::L)
theorem Todo.calm {L:List Rec} (h:∀ r ∈ L,¬ r.asks):Todo i false L:=by
 induction L with
 |nil=>exact .nil
 |cons r L ih=>exact .skip (h r List.mem_cons_self) (ih fun q hq=>h q (List.mem_cons_of_mem _ hq))
theorem not_asks {r:Rec} (h:r.k ≠ 5):¬ r.asks:=fun x=>h x.1
theorem Tells.todo {sg:List Cn.Sig} {A:Option Addr} {c:Nat} {L:List Rec} {n:Int} (h:Tells K E Z Kb e n inc' v D w s1 N i sg D1 w1 s' A c L) (hs:(∀ s ∈ sg,s.kind ≠ 1)/\inc=false\/(∃ s,sg=[s]/\s.kind=1)/\inc=true):Todo i inc L:=by
 obtain ⟨r,L2,rfl,h1,h2⟩:=h.tell
 refine .skip (not_asks h1) ?_
 have h3:∀ q ∈ L2,¬ q.asks:=fun q hq=>not_asks (by rw [h2 q hq];decide)
 rcases hs with ⟨hs,rfl⟩ | ⟨⟨s,rfl,hs⟩,rfl⟩
 ·refine .calm fun q hq=>?_
  rcases List.mem_append.1 hq with hq | hq
  ·obtain ⟨t,ht,rfl⟩:=List.mem_map.1 hq
   exact fun x=>hs t ht x.2
  ·exact h3 q hq
 ·exact .hit ⟨rfl,hs⟩ rfl (.calm h3)
def CarriedPost (K:Lk) (E:Su.Env) (v:Nat) (w0:World) (Z Kb:Bool) (e:Int) (s:Su.Sy) (N i:Nat) (x:Ending) (w':World):Prop:=∃ (D':Nat->Nat) (s':Su.Sy) (A:Option Addr) (c:Nat) (L:List Rec) (inc:Bool),x=.returned (.tuple #[.slice A L.length c,.bool true])/\Lw K E v w0 Z Kb e inc D' w' s' (N+1)/\(Sl recE w' A c L/\∀ ad,A=some ad->D' ad.block=45)/\Todo i inc L/\(inc=true->i=1-v)/\Su.mu i s'+1=Su.mu i s/\L.length<=2000
theorem Lw.carries {k:Int} (h:Lw K E v w0 Z Kb e false D w s N) (hE:E.Ok) (hi:i<2) {u:Cn.Pd} {r:List Cn.Pd} (hq:s.q i=u::r) (hr:K.room<=256) (hN:N<=800000) (hk:k=0\/k=1/\N<6) :
  Calls Tryz.prog 6 #[.pointer (some ⟨K.l,0,none⟩),.int .i64 i,.agg #[.int .i64 k,.int .i64 0,.int .u32 0]] w (CarriedPost K E v w0 Z Kb e s N i):=by
 have ec:((N:Int)+1)=((N+1:Nat):Int):=by omega
 rcases hk with rfl | ⟨rfl,hn⟩
 ·obtain ⟨y,sg,hy,hc⟩:=h.ph.hear hE hi hq
  have hf:=h.ph.fits hi
  have hw:Su.WG u:=h.ph.wg i u (by rw [hq];exact List.mem_cons_self)
  have hl:sg.length<=1500:=by
   have h1:=hf.fit.b2
   have:=En.receive_len hf.fit (by have h1:=hf.fit.b1;omega) u [] hw.few
   rw [hy] at this
   exact this
  rcases hc with ⟨hs,hp⟩ | ⟨⟨hv,hs⟩,hp⟩
  ·rw [ec] at hp
   refine (lcarry_come hE h.lk hi hq hf hw hy hl hp hr hN).mono ?_
   rintro x w' ⟨D',s',A,c,L,rfl,ht⟩
   exact ⟨D',s',A,c,L,false,rfl,h.said ht.said,⟨ht.out.sl,fun ad e=>(ht.out.lb ad e).1⟩,ht.todo (.inl ⟨hs,rfl⟩),fun e=>(by cases e),by rw [ht.said.mu i hi];exact Su.mu_hear hi hq,ht.len⟩
  ·rw [ec] at hp
   refine (lcarry_come hE h.lk hi hq hf hw hy hl hp hr hN).mono ?_
   rintro x w' ⟨D',s',A,c,L,rfl,ht⟩
   exact ⟨D',s',A,c,L,true,rfl,h.said ht.said,⟨ht.out.sl,fun ad e=>(ht.out.lb ad e).1⟩,ht.todo (.inr ⟨hs,rfl⟩),fun _=>hv,by rw [ht.said.mu i hi];exact Su.mu_hear hi hq,ht.len⟩
 ·have hp:=h.ph.lose hi hq (by omega)
  rw [ec] at hp
  refine (lcarry_lose hE h.lk hi hq hp hr hN).mono ?_
  rintro x w' ⟨D',s',A,c,L,rfl,ht⟩
  exact ⟨D',s',A,c,L,false,rfl,h.said ht.said,⟨ht.out.sl,fun ad e=>(ht.out.lb ad e).1⟩,ht.todo (.inl ⟨fun s hs=>(by cases hs),rfl⟩),fun e=>(by cases e),by rw [ht.said.mu i hi];exact Su.mu_lose hi hq,ht.len⟩
theorem Lw.empty (h:Lw K E v w0 Z Kb e inc D w s N) (hi:i<2) (hq:s.q i=[]) (k:Int) :
  Calls Tryz.prog 6 #[.pointer (some ⟨K.l,0,none⟩),.int .i64 i,.agg #[.int .i64 k,.int .i64 0,.int .u32 0]] w fun x w'=>x=.returned (.tuple #[.slice none 0 0,.bool false])/\∃ D',Lw K E v w0 Z Kb e inc D' w' s N:=
 (lcarry_none h.lk hi hq k).mono fun _x _w' ⟨h1,D',h2⟩=>⟨h1,D',h.still h2⟩
theorem Lw.accepts (h:Lw K E v w0 Z Kb e true D w s N) (hE:E.Ok) (hi:i=1-v) (hr:K.room<=256) (hN:N<=900000) :
  Calls Tryz.prog 5 #[.pointer (some ⟨K.l,0,none⟩),.int .i64 i,.agg #[.int .i64 2,.string { data:=#[] },.int .i64 0]] w fun x w'=>∃ (D':Nat->Nat) (s':Su.Sy) (A:Option Addr) (c l:Nat),x=.returned (.tuple #[.slice A l c,.int .i64 0])/\Lw K E v w0 Z Kb e false D' w' s' N/\Su.mu i s'=Su.mu i s/\Touch (fun b=>D b<32) w w'/\∀ b,b<w.heap.size->D' b=D b:=by
 subst hi
 have hv:=h.ph.v2
 have hi:1-v<2:=by omega
 obtain ⟨y,h1,h2⟩:=h.ph.accepts hE
 refine (lreq_any hE h.lk hi (h.ph.fits hi) (by decide) (Nat.zero_le _) h1 h2 hr hN).mono ?_
 rintro x w' ⟨D',s',A,c,l,rfl,hs⟩
 exact ⟨D',s',A,c,l,rfl,h.said hs,by rw [hs.mu _ hi];exact Su.mu_set hi,hs.lk.touch,hs.lk.lab⟩
theorem Lw.ticks (h:Lw K E v w0 true false e false D w s N) (hE:E.Ok) (hr:K.room<=256) (hN:N<=900000) (h1:¬ ((s.x 0).conn.state=10/\(s.x 1).conn.state=10)) (h2:¬ ((s.x 0).conn.state=1/\(s.x 1).conn.state=1)) :
  e<=400/\Calls Tryz.prog 9 #[.pointer (some ⟨K.l,0,none⟩)] w fun x w'=>∃ (D':Nat->Nat) (s':Su.Sy) (A:Option Addr) (c l:Nat),x=.returned (.slice A l c)/\Lw K E v w0 false true (e+1) false D' w' s' N:=by
 obtain ⟨h3,h4⟩:=h.ph.tick hE h1 h2
 refine ⟨h3,(ltick_any hE h.lk (fun i hi=>h.ph.fits hi) h4 hr hN).mono ?_⟩
 rintro x w' ⟨D',s',A,c,l,rfl,hs⟩
 exact ⟨D',s',A,c,l,rfl,h.said hs⟩
theorem Lw.begins {s0:Su.Sy} (hE:E.Ok) (hv:v<2) (hk:LkAt K D w s0 0) (hf:Fresh w0 w) (hl:∀ b,b<w0.heap.size->D b=50) (ha:s0.x v=En.new E.a) (hb:s0.x (1-v)=En.new E.b) (hq:∀ i,s0.q i=[]) (hr:K.room<=256) :
  Calls Tryz.prog 5 #[.pointer (some ⟨K.l,0,none⟩),.int .i64 v,.agg #[.int .i64 1,.string { data:=#[] },.int .i64 0]] w fun x w'=>∃ (D':Nat->Nat) (s':Su.Sy) (A:Option Addr) (c l:Nat),x=.returned (.tuple #[.slice A l c,.int .i64 0])/\Lw K E v w0 false true 0 false D' w' s' 0:=by
 obtain ⟨y,h1,h2⟩:=Su.PhS.begins hE hv ha hb hq
 refine (lreq_any hE hk hv (by rw [ha];exact Su.fits_new _) (by decide) (Nat.zero_le _) h1 h2 hr (Nat.zero_le _)).mono ?_
 rintro x w' ⟨D',s',A,c,l,rfl,hs⟩
 have h3:=hs.lk.fresh hf hl
 exact ⟨D',s',A,c,l,rfl,hs.lk.at_,hs.ph,hs.en,h3.1,h3.2⟩
end
end Go.Proofs.YtlbopdfobgjjaaaGreatDoor

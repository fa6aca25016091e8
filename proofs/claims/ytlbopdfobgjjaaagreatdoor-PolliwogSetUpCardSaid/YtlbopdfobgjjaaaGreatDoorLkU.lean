/-
  pipe.Pipe with units' frames: its blocks bear a number; each call's contract. Conditions: fewer than a million were put · link.Link: two ends, a way to each, and what a call hands out, in memory. The ends' blocks bear the numbers 0 to 8 and 16 to 24, the ways' 10 and 26, the link's own and the table's 40, what is handed out 45 · link.told: a record of each signal. Conditions: not too many · link.pump: what goes out of both ends, while there is room. Conditions: the ends are in a phase.
-/
import Derived.Test.YtlbopdfobgjjaaaGreatDoorRev6
import Derived.Test.YtlbopdfobgjjaaaGreatDoorSuL
import Derived.Test.YtlbopdfobgjjaaaGreatDoorEnZk
import Derived.Test.YtlbopdfobgjjaaaGreatDoorWireO
import Derived.Test.YtlbopdfobgjjaaaGreatDoorEnC
import Derived.Test.YtlbopdfobgjjaaaGreatDoorPrN
import Derived.WalkMore
import Derived.Deep.LoopGhost
set_option maxHeartbeats 8000000
namespace Go.Proofs.YtlbopdfobgjjaaaGreatDoor
open Go.RowKit
set_option maxRecDepth 20000
namespace Su
def toP (u:Cn.Pd):Wh.P:=⟨u.kind,u.sq,u.n,u.ps,u.mr,[],u.self,u.data⟩
def fr (u:Cn.Pd):ByteArray:=Wh.B (Wh.frameL 0 (Wh.bytesS (Wh.shape (toP u).kind) (toP u)))
theorem low_of {x:Int} (h:0<=x/\x<16777216):(x==x%16777216)=true:=by
 rw [beq_iff_eq]
 omega
theorem WG.ck {u:Cn.Pd} (h:WG u):Wh.ck (toP u)=0:=by
 have hlow:∀ {x:Int},0<=x/\x<16777216->Wh.low x=true:=fun h=>low_of h
 have hall:∀ (k sq n ps mr:Int) (self:Bool),(0<=n/\n<16777216)->(0<=ps/\ps<16777216)->(0<=mr/\mr<16777216)->Wh.allOk ⟨k,sq,n,ps,mr,[],self,Cn.no⟩=true:=fun k sq n ps mr self h1 h2 h3=>by
  show (Wh.low n && (Wh.low ps && (Wh.low mr && !(([]:List Int).any fun x=>!Wh.low x))))=true
  rw [hlow h1,hlow h2,hlow h3]
  rfl
 have he:Cn.no.toList.isEmpty=true:=by rw [Lib.toList_data];rfl
 have hs:∀ (s:Wh.Sh) (p:Wh.P),p.data=Cn.no->((s.n || p.n==0) && ((s.ps || p.ps==0) && ((s.mr || p.mr==0) && (s.self || !p.self))))=true->Wh.someOk s p=true:=fun s p h1 h2=>by
  unfold Wh.someOk
  rw [h1,he,Bool.or_true,Bool.true_and]
  exact h2
 have key:∀ (k sq n ps mr:Int) (self:Bool),(Wh.shape k).is=true->0<=(Wh.shape k).data->Wh.listOk (Wh.shape k) ⟨k,sq,n,ps,mr,[],self,Cn.no⟩=true->(0<=n/\n<16777216)->(0<=ps/\ps<16777216)->(0<=mr/\mr<16777216)->Wh.someOk (Wh.shape k) ⟨k,sq,n,ps,mr,[],self,Cn.no⟩=true->0<=sq->sq<=255->((Wh.shape k).sq=false->sq=0)->Wh.ck ⟨k,sq,n,ps,mr,[],self,Cn.no⟩=0:=fun k sq n ps mr self h1 h2 h3 h4 h5 h6 h7 h8 h9 h10=>by
  refine Wh.ck_of _ _ ⟨h1,fun h=>?_,by show 0<=128;omega,h3,hall _ _ _ _ _ _ h4 h5 h6,h7,h8,h9,h10⟩
  have h:(Wh.shape k).data<0:=h
  omega
 have z0:(0:Int)<=0/\(0:Int)<16777216:=by decide
 cases h with
 |bgn h=>exact key 1 1 _ 0 0 false rfl (by decide) rfl h z0 z0 (hs _ _ rfl rfl) (by decide) (by decide) (fun h=>by cases h)
 |bgak h=>exact key 2 1 _ 0 0 false rfl (by decide) rfl h z0 z0 (hs _ _ rfl rfl) (by decide) (by decide) (fun h=>by cases h)
 |fin h=>exact key 3 _ 0 0 0 true rfl (by decide) rfl z0 z0 z0 (hs _ _ rfl rfl) h.1 (Int.le_trans h.2 (by decide)) (fun h=>by cases h)
 |ack h=>exact key 4 _ 0 0 0 false rfl (by decide) rfl z0 z0 z0 (hs _ _ rfl rfl) h.1 (Int.le_trans h.2 (by decide)) (fun h=>by cases h)
 |rej=>exact key 7 1 0 0 0 false rfl (by decide) rfl z0 z0 z0 (hs _ _ rfl rfl) (by decide) (by decide) (fun h=>by cases h)
 |poll h h'=>exact key 10 0 _ _ 0 false rfl (by decide) rfl h h' z0 (hs _ _ rfl rfl) (by decide) (by decide) (fun _=>rfl)
 |stat h h' h''=>exact key 11 0 _ _ _ false rfl (by decide) rfl h h' h'' (hs _ _ rfl rfl) (by decide) (by decide) (fun _=>rfl)
theorem WG.form {u:Cn.Pd} (h:WG u):u.lA=none/\u.ln=0/\u.lc=0/\(0<=u.n/\u.n<16777216)/\(0<=u.mr/\u.mr<16777216):=by
 have z:(0:Int)<=0/\(0:Int)<16777216:=by decide
 cases h with
 |bgn h=>exact ⟨rfl,rfl,rfl,h,z⟩
 |bgak h=>exact ⟨rfl,rfl,rfl,h,z⟩
 |fin h=>exact ⟨rfl,rfl,rfl,z,z⟩
 |ack h=>exact ⟨rfl,rfl,rfl,z,z⟩
 |rej=>exact ⟨rfl,rfl,rfl,z,z⟩
 |poll h h'=>exact ⟨rfl,rfl,rfl,h,z⟩
 |stat h h' h''=>exact ⟨rfl,rfl,rfl,h,h''⟩
theorem WG.few {u:Cn.Pd} (h:WG u):En.ofEp u.kind=false\/u.kind=10\/u.kind=11:=by
 cases h with
 |poll h h'=>exact .inr (.inl rfl)
 |stat h h' h''=>exact .inr (.inr rfl)
 |_=>exact .inl rfl
theorem WG.pv {u:Cn.Pd} (h:WG u):pV (toP u) none 0=pduV u:=by
 obtain ⟨h1,h2,h3,-⟩:=h.form
 obtain ⟨k0,sq,n,ps,mr,lA,ln,lc,self,dt⟩:=u
 dsimp only at h1 h2 h3
 subst h1 h2 h3
 rfl
end Su
def PFt (gp gr:Nat) (b:Option Nat) (k:Nat):Prop:=k=gp\/Foot gr b k
structure PipeAt (w:World) (gp gr:Nat) (b:Option Nat) (m:Nat) (q:List ByteArray) (put came bad:Nat):Prop where
 blk:Blk w gp 141 [.pointer (some ⟨gr,0,none⟩),.int .i64 put,.int .i64 came,.int .i64 bad]
 ring:RingStr w gr b m q
def PipeL (i:Nat) (D:Nat->Nat) (w:World) (gp m:Nat) (q:List Cn.Pd) (N:Nat):Prop:=∃ gr b put came bad,PipeAt w gp gr b m (q.map Su.fr) put came bad/\came+bad<=N/\put<=came+bad+q.length/\∀ k,PFt gp gr b k->D k=i
structure PipeTo (i:Nat) (D:Nat->Nat) (w:World) (gp m:Nat) (q:List Cn.Pd) (N:Nat) (D':Nat->Nat) (w':World):Prop where
 lab:∀ b,b<w.heap.size->D' b=D b
 touch:Touch (fun b=>D b=i) w w'
 pipe:PipeL i D' w' gp m q N
section
variable {i:Nat} {D D':Nat->Nat} {w w':World} {gp gr m put came bad put' came' bad' N:Nat} {b b':Option Nat} {q:List Cn.Pd} {l l':List ByteArray}
theorem PipeAt.ne (h:PipeAt w gp gr b m l put came bad):¬ Foot gr b gp:=by
 rintro (e | e)
 ·obtain ⟨A,c,a,buf,h1,_⟩:=h.ring
  exact h.blk.ne_ h1 (by decide) e
 ·obtain ⟨A,c,a,buf,h1,h2,rfl,_⟩:=h.ring
  cases A with
  |none=>cases e
  |some ad=>exact h2.blk_ne h.blk (by decide) ad rfl (by simpa using e)
theorem PipeAt.wf (h:PipeAt w gp gr b m l put came bad):∀ k,PFt gp gr b k->k<w.heap.size:=by
 rintro k (rfl | rfl | e)
 ·exact h.blk.lt
 ·exact h.ring.lt
 ·exact h.ring.ltb k e
theorem PipeAt.touch {S:Nat->Prop} (h:PipeAt w gp gr b m l put came bad) (ht:Touch S w w') (hs:∀ k,PFt gp gr b k->¬ S k):PipeAt w' gp gr b m l put came bad:=
 ⟨ht.blk h.blk (hs _ (.inl rfl)),h.ring.touch ht (hs _ (.inr (.inl rfl))) (fun _k hk=>hs _ (.inr (.inr hk)))⟩
theorem PipeL.len (h:PipeL i D w gp m q N):q.length<=m:=by
 obtain ⟨gr,b,put,came,bad,h,-⟩:=h
 have:=h.ring.len_le.1
 rwa [List.length_map] at this
theorem PipeL.keep {T:Nat->Prop} (h:PipeL i D w gp m q N) (ht:Touch T w w') (hT:∀ b,T b->D b ≠ i) (hD:∀ b,b<w.heap.size->D' b=D b):PipeL i D' w' gp m q N:=by
 obtain ⟨gr,b,put,came,bad,h,h1,h2,h3⟩:=h
 exact ⟨gr,b,put,came,bad,h.touch ht (fun k hk e=>hT k e (h3 k hk)),h1,h2,fun k hk=>(hD k (h.wf k hk)).trans (h3 k hk)⟩
theorem PipeL.mono {N':Nat} (h:PipeL i D w gp m q N) (hN:N<=N'):PipeL i D w gp m q N':=by
 obtain ⟨gr,b,put,came,bad,h,h1,h2,h3⟩:=h
 exact ⟨gr,b,put,came,bad,h,Nat.le_trans h1 hN,h2,h3⟩
theorem PipeAt.to (h:PipeAt w gp gr b m l put came bad) (h3:∀ k,PFt gp gr b k->D k=i) {w0 w1:World} (h0:Fresh w w0) (hr:RingStr w1 gr b' m (q.map Su.fr)) (ht:Touch (Foot gr b) w0 w1) (hb:∀ k,b'=some k->b=some k\/w0.heap.size<=k) {T:Nat->Prop} (hs:Touch T w1 w') (hT:∀ k,T k->k=gp)
  (hk:Blk w' gp 141 [.pointer (some ⟨gr,0,none⟩),.int .i64 put',.int .i64 came',.int .i64 bad']) (h1:came'+bad'<=N) (h2:put'<=came'+bad'+q.length):PipeTo i D w gp m q N (lab D w.heap.size i) w':=by
 have e1:=h0.size
 have e2:=ht.size
 have tt:Touch (fun b=>D b=i) w w':=((h0.mono (fun _ _ e=>e.elim):Touch (fun b=>D b=i) w w0).trans ht (fun k _ e=>h3 k (.inr e))).trans hs (fun k _ e=>h3 k (.inl (hT k e)))
 refine ⟨fun b hb=>lab_old hb,tt,gr,b',put',came',bad',⟨hk,?_⟩,h1,h2,?_⟩
 ·have hg:=h.ne
  refine hr.touch hs (fun e=>hg (.inl (hT _ e).symm)) (fun k' hk' e=>?_)
  rw [hT k' e] at hk'
  rcases hb gp hk' with e | e
  ·exact hg (.inr e)
  ·have:=h.blk.lt;omega
 ·rintro k (rfl | rfl | e)
  ·rw [lab_old h.blk.lt];exact h3 _ (.inl rfl)
  ·rw [lab_old h.ring.lt];exact h3 _ (.inr (.inl rfl))
  ·rcases hb k e with e | e
   ·rw [lab_old (h.ring.ltb k e)];exact h3 _ (.inr (.inr e))
   ·exact lab_new (by omega)
theorem lp_put (h:PipeL i D w gp m q N) (u:Cn.Pd) (hq:q.length<m) (hN:N+m<=1000000) :
  Calls Tryz.prog 41 #[.pointer (some ⟨gp,0,none⟩),.string (Su.fr u)] w fun e w'=>e=.returned (.int .i64 0)/\∃ D',PipeTo i D w gp m (q++[u]) N D' w':=by
 obtain ⟨gr,b,put,came,bad,h,h1,h2,h3⟩:=h
 have hput:put<1000000000:=by omega
 have c0:w.cell? ⟨gp,0,none⟩=some (.pointer (some ⟨gr,0,none⟩)):=h.blk.cell 0
 have HC:=lh (ringStr_put gr b m (q.map Su.fr) (Su.fr u) w h.ring)
 rw [List.length_map,if_pos hq,if_pos hq] at HC
 have HT:Hid (∀ b' w1 w',RingStr w1 gr b' m (q.map Su.fr++[Su.fr u])->Touch (Foot gr b) w w1->(∀ k,b'=some k->b=some k\/w.heap.size<=k)->Touch (· = gp) w1 w'->Blk w' gp 141 [.pointer (some ⟨gr,0,none⟩),.int .i64 (put+1:Nat),.int .i64 came,.int .i64 bad]->∃ D',PipeTo i D w gp m (q++[u]) N D' w'):=fun b' w1 w' hr ht hb hs hk =>
  ⟨_,h.to h3 (Touch.refl _ w) (q:=q++[u]) (by rw [List.map_append];exact hr) ht hb hs (fun _ e=>e) hk h1 (by rw [List.length_append,List.length_singleton];omega)⟩
 have HB:Hid (∀ w1,Touch (Foot gr b) w w1->Blk w1 gp 141 [.pointer (some ⟨gr,0,none⟩),.int .i64 put,.int .i64 came,.int .i64 bad]):=fun w1 ht=>ht.blk h.blk h.ne
 clear h h1 h2 h3 hq hN
 generalize Su.fr u=s at *
 go_enter Tryz.func41,Tryz.ntmps41
 go_wp2_with fail
 refine HC.out.mono ?_
 rintro e w1 ⟨rfl,b1,r1,t1,hb1⟩
 have BB:=lh (HB.out w1 t1)
 have HT1:=lh (fun w'=>HT.out b1 w1 w' r1 t1 hb1)
 have c1:w1.cell? ⟨gp,1,none⟩=some (.int .i64 put):=BB.out.cell 1
 have f1:=BB.out.frozen 1
 clear r1 t1 hb1 HC c0 HB HT
 go_wp2
 go_ret
 exact ⟨rfl,HT1.out _ (Touch.set1 _ _ _ _) (BB.out.set 1 (.int .i64 ((put+1:Nat):Int)))⟩
theorem lp_room (h:PipeL i D w gp m q N):∃ gr,w.cell? ⟨gp,0,none⟩=some (.pointer (some ⟨gr,0,none⟩))/\Calls Tryz.prog 38 #[.pointer (some ⟨gr,0,none⟩)] w fun e w'=>e=.returned (.int .i64 ((m:Int)-(q.length:Int)))/\∃ k,w'=w.drewN k:=by
 obtain ⟨gr,b,put,came,bad,h,-⟩:=h
 have:=ringStr_room gr b m _ w h.ring
 rw [List.length_map] at this
 exact ⟨gr,h.blk.cell 0,this⟩
theorem lp_take_none (h:PipeL i D w gp m [] N) (k at_ mask:Int) :
  Calls Tryz.prog 18 #[.pointer (some ⟨gp,0,none⟩),.agg #[.int .i64 k,.int .i64 at_,.int .u32 mask]] w fun e w'=>e=.returned (.tuple #[.string ByteArray.empty,.bool false,.bool false])/\∃ D',PipeTo i D w gp m [] N D' w':=by
 obtain ⟨gr,b,put,came,bad,h,h1,h2,h3⟩:=h
 have hf:Fresh w (w.alloc (.cells #[.int .i64 k,.int .i64 at_,.int .u32 mask] 45)):=(Touch.refl _ w).alloc _
 have h0:=h.touch hf (fun _ _ e=>e)
 have c0:(w.alloc (.cells #[.int .i64 k,.int .i64 at_,.int .u32 mask] 45)).cell? ⟨gp,0,none⟩=some (.pointer (some ⟨gr,0,none⟩)):=h0.blk.cell 0
 have HC:=lh (ringStr_take gr b m [] _ h0.ring)
 have HT:Hid (∀ w1,RingStr w1 gr b m []->Touch (Foot gr b) (w.alloc (.cells #[.int .i64 k,.int .i64 at_,.int .u32 mask] 45)) w1->∃ D',PipeTo i D w gp m [] N D' w1):=fun w1 hr ht =>
  ⟨_,h.to h3 hf hr ht (fun k e=>.inl e) (Touch.refl (fun _=>False) w1) (fun _ e=>e.elim) (ht.blk h0.blk h0.ne) h1 h2⟩
 clear h h0 h1 h2 h3 hf
 go_enter Tryz.func18,Tryz.ntmps18
 go_wp2_with fail
 refine HC.out.mono ?_
 rintro e w1 ⟨rfl,r1,t1⟩
 have H1:=lh (HT.out w1 r1 t1)
 clear r1 t1 HC c0 HT
 go_wp2
 go_ret3
 exact ⟨rfl,H1.out⟩
theorem lp_take_lose {u:Cn.Pd} (h:PipeL i D w gp m (u::q) N) (at_ mask:Int) (hN:N<=1000000) :
  Calls Tryz.prog 18 #[.pointer (some ⟨gp,0,none⟩),.agg #[.int .i64 1,.int .i64 at_,.int .u32 mask]] w fun e w'=>e=.returned (.tuple #[.string ByteArray.empty,.bool true,.bool false])/\∃ D',PipeTo i D w gp m q (N+1) D' w':=by
 obtain ⟨gr,b,put,came,bad,h,h1,h2,h3⟩:=h
 have hbad:bad<1000000000:=by omega
 have hf:Fresh w (w.alloc (.cells #[.int .i64 1,.int .i64 at_,.int .u32 mask] 45)):=(Touch.refl _ w).alloc _
 have h0:=h.touch hf (fun _ _ e=>e)
 have c0:(w.alloc (.cells #[.int .i64 1,.int .i64 at_,.int .u32 mask] 45)).cell? ⟨gp,0,none⟩=some (.pointer (some ⟨gr,0,none⟩)):=h0.blk.cell 0
 have HC:=lh (ringStr_take gr b m (Su.fr u::q.map Su.fr) _ h0.ring)
 have HBx:=lh (Blk.new w 45 [.int .i64 1,.int .i64 at_,.int .u32 mask])
 have hnf:Hid (¬ Foot gr b w.heap.size):=fun hf=>by have:=h.wf _ (.inr hf);omega
 have HT:Hid (∀ w1 w',RingStr w1 gr b m (q.map Su.fr)->Touch (Foot gr b) (w.alloc (.cells #[.int .i64 1,.int .i64 at_,.int .u32 mask] 45)) w1->Touch (· = gp) w1 w'->Blk w' gp 141 [.pointer (some ⟨gr,0,none⟩),.int .i64 put,.int .i64 came,.int .i64 (bad+1:Nat)]->∃ D',PipeTo i D w gp m q (N+1) D' w'):=fun w1 w' hr ht hs hk =>
  ⟨_,h.to h3 hf hr ht (fun k e=>.inl e) hs (fun _ e=>e) hk (by omega) (by rw [List.length_cons] at h2;omega)⟩
 have HB:Hid (∀ w1,Touch (Foot gr b) (w.alloc (.cells #[.int .i64 1,.int .i64 at_,.int .u32 mask] 45)) w1->Blk w1 gp 141 [.pointer (some ⟨gr,0,none⟩),.int .i64 put,.int .i64 came,.int .i64 bad]):=fun w1 ht=>ht.blk h0.blk h0.ne
 clear h h0 h1 h2 h3 hf hN
 go_enter Tryz.func18,Tryz.ntmps18
 go_wp2_with fail
 refine HC.out.mono ?_
 rintro e w1 ⟨rfl,r1,t1⟩
 have x0:w1.cell? ⟨w.heap.size,0,none⟩=some (.int .i64 1):=(t1.blk HBx.out hnf.out).cell 0
 have BB:=lh (HB.out w1 t1)
 have HT1:=lh (fun w'=>HT.out w1 w' r1 t1)
 have c3:w1.cell? ⟨gp,3,none⟩=some (.int .i64 bad):=BB.out.cell 3
 have f3:=BB.out.frozen 3
 clear r1 t1 HC c0 HT HB
 go_wp2
 go_ret3
 exact ⟨rfl,HT1.out _ (Touch.set1 _ _ _ _) (BB.out.set 3 (.int .i64 ((bad+1:Nat):Int)))⟩
theorem lp_take_carry {u:Cn.Pd} (h:PipeL i D w gp m (u::q) N) (at_ mask:Int) (hN:N<=1000000) :
  Calls Tryz.prog 18 #[.pointer (some ⟨gp,0,none⟩),.agg #[.int .i64 0,.int .i64 at_,.int .u32 mask]] w fun e w'=>e=.returned (.tuple #[.string (Su.fr u),.bool true,.bool true])/\∃ D',PipeTo i D w gp m q (N+1) D' w':=by
 obtain ⟨gr,b,put,came,bad,h,h1,h2,h3⟩:=h
 have hcame:came<1000000000:=by omega
 have hf:Fresh w (w.alloc (.cells #[.int .i64 0,.int .i64 at_,.int .u32 mask] 45)):=(Touch.refl _ w).alloc _
 have h0:=h.touch hf (fun _ _ e=>e)
 have c0:(w.alloc (.cells #[.int .i64 0,.int .i64 at_,.int .u32 mask] 45)).cell? ⟨gp,0,none⟩=some (.pointer (some ⟨gr,0,none⟩)):=h0.blk.cell 0
 have HC:=lh (ringStr_take gr b m (Su.fr u::q.map Su.fr) _ h0.ring)
 have HBx:=lh (Blk.new w 45 [.int .i64 0,.int .i64 at_,.int .u32 mask])
 have hnf:Hid (¬ Foot gr b w.heap.size):=fun hf=>by have:=h.wf _ (.inr hf);omega
 have HT:Hid (∀ w1 w',RingStr w1 gr b m (q.map Su.fr)->Touch (Foot gr b) (w.alloc (.cells #[.int .i64 0,.int .i64 at_,.int .u32 mask] 45)) w1->Touch (· = gp) w1 w'->Blk w' gp 141 [.pointer (some ⟨gr,0,none⟩),.int .i64 put,.int .i64 (came+1:Nat),.int .i64 bad]->∃ D',PipeTo i D w gp m q (N+1) D' w'):=fun w1 w' hr ht hs hk =>
  ⟨_,h.to h3 hf hr ht (fun k e=>.inl e) hs (fun _ e=>e) hk (by omega) (by rw [List.length_cons] at h2;omega)⟩
 have HB:Hid (∀ w1,Touch (Foot gr b) (w.alloc (.cells #[.int .i64 0,.int .i64 at_,.int .u32 mask] 45)) w1->Blk w1 gp 141 [.pointer (some ⟨gr,0,none⟩),.int .i64 put,.int .i64 came,.int .i64 bad]):=fun w1 ht=>ht.blk h0.blk h0.ne
 clear h h0 h1 h2 h3 hf hN
 generalize Su.fr u=s at *
 go_enter Tryz.func18,Tryz.ntmps18
 go_wp2_with fail
 refine HC.out.mono ?_
 rintro e w1 ⟨rfl,r1,t1⟩
 have x0:w1.cell? ⟨w.heap.size,0,none⟩=some (.int .i64 0):=(t1.blk HBx.out hnf.out).cell 0
 have BB:=lh (HB.out w1 t1)
 have HT1:=lh (fun w'=>HT.out w1 w' r1 t1)
 have c2:w1.cell? ⟨gp,2,none⟩=some (.int .i64 came):=BB.out.cell 2
 have f2:=BB.out.frozen 2
 clear r1 t1 HC c0 HT HB
 go_wp2
 go_ret3
 exact ⟨rfl,HT1.out _ (Touch.set1 _ _ _ _) (BB.out.set 2 (.int .i64 ((came+1:Nat):Int)))⟩
end
set_option maxRecDepth 20000
structure Rec where
 e:Int
 k:Int
 u:Cn.Pd
 s:Cn.Sig
 rk:Int
 rd:ByteArray
 rn:Int
def noU:Cn.Pd:=⟨0,0,0,0,0,none,0,0,false,ByteArray.empty⟩
def noS:Cn.Sig:=⟨0,ByteArray.empty,false,0,0⟩
def Rec.cells (r:Rec):List Value:=[.int .i64 r.e,.int .i64 r.k,.int .i64 r.u.kind,.int .i64 r.u.sq,.int .u32 r.u.n,.int .u32 r.u.ps,.int .u32 r.u.mr,.slice r.u.lA r.u.ln r.u.lc,.bool r.u.self,.string r.u.data,.int .i64 r.s.kind,.string r.s.data,.bool r.s.self,.int .u8 r.s.code,.int .i64 r.s.n,.int .i64 r.rk,.string r.rd,.int .i64 r.rn]
def recE:El Rec:={ e:=53,size:=18,bytes:=168,zero:=.agg #[.int .i64 0,.int .i64 0,.int .i64 0,.int .i64 0,.int .u32 0,.int .u32 0,.int .u32 0,.slice none 0 0,.bool false,.string ByteArray.empty,.int .i64 0,.string ByteArray.empty,.bool false,.int .u8 0,.int .i64 0,.int .i64 0,.string ByteArray.empty,.int .i64 0],zel:=⟨0,0,noU,noS,0,ByteArray.empty,0⟩,enc:=Rec.cells,len:=fun _=>rfl,one:=by simp [Rec.cells,Value.oneCell'],pos:=by decide,zsize:=rfl,zenc:=rfl }
theorem Tryz.infoRec:(Tryz.prog.info? 53).map (fun i=>(i.zero,i.size,i.bytes))=some (some (.agg #[.int .i64 0,.int .i64 0,.int .i64 0,.int .i64 0,.int .u32 0,.int .u32 0,.int .u32 0,.slice none 0 0,.bool false,.string ByteArray.empty,.int .i64 0,.string ByteArray.empty,.bool false,.int .u8 0,.int .i64 0,.int .i64 0,.string ByteArray.empty,.int .i64 0]),18,168):=by kernel_rfl
theorem app_rec {ops:Array Oper} {rest:List Oper} {o:Oper} {a:Act} {Q:Exit->Act->World->Prop} {w:World} (hgd:o.guard=none) {s x:Operand}
  (ho:o.op=.call { callee:=.builtin .append,args:=#[s,x],argTypes:=#[35,35] })
  {A A2:Option Addr} {c c2:Nat} {l l2:List Rec} (es:a.eval s=.slice A l.length c) (ex:a.eval x=.slice A2 l2.length c2)
  (h:Sl recE w A c l) (h2:Rd recE w A2 c2 l2) (hm:l.length+l2.length<=1000000)
  (hK:∀ A' c' L w',Hid (L=l++l2)->Sl recE w' A' c' L->Touch (fun k=>A.map Addr.block=some k) w w'->(A'.map Addr.block=A.map Addr.block\/A'.map Addr.block=some w.heap.size) ->
   wpList Tryz.prog ops Q rest (a.put o.dst (.slice A' L.length c')) w'):wpList Tryz.prog ops Q (o::rest) a w:=by
 obtain ⟨i0,hi,hz0,hz1,hz2⟩:=info_parts Tryz.infoRec
 exact wpList_app recE hgd ho i0 Tryz.underlying35 hi hz0 hz1 hz2 es ex h h2 (by simp only [maxLen];omega) (by show _*168<=_;omega) hK
structure Lk where
 l:Nat
 wr:Nat
 n:Nat->Nat
 p:Nat->Nat
 room:Nat
def Lk.cells (K:Lk):List Value:=[.pointer (some ⟨K.wr,0,none⟩),.pointer (some ⟨K.n 0,0,none⟩),.pointer (some ⟨K.p 0,0,none⟩),.pointer (some ⟨K.n 1,0,none⟩),.pointer (some ⟨K.p 1,0,none⟩)]
structure LkAt (K:Lk) (D:Nat->Nat) (w:World) (s:Su.Sy) (N:Nat):Prop where
 blk:Blk w K.l 89 K.cells/\D K.l=40
 tab:Wh.Tab w K.wr/\D K.wr=40
 nd:∀ i,i<2->EndAt (16*i) D w (K.n i) (s.x i)
 pp:∀ i,i<2->PipeL (16*i+10) D w (K.p i) K.room (s.q i) N
structure LkTo (K:Lk) (D:Nat->Nat) (w:World) (s:Su.Sy) (N:Nat) (D':Nat->Nat) (w':World):Prop where
 at_:LkAt K D' w' s N
 lab:∀ b,b<w.heap.size->D' b=D b
 touch:Touch (fun b=>D b<32) w w'
section
variable {K:Lk} {D D' D2:Nat->Nat} {w w' w2:World} {s s':Su.Sy} {N N' i:Nat}
theorem Tab_keep {g:Nat} {T:Nat->Prop} (h:Wh.Tab w g) (ht:Touch T w w') (hT:¬ T g):Wh.Tab w' g:=by
 obtain ⟨t,h⟩:=h
 exact ⟨t,ht.blk h hT⟩
theorem Tab_lt {g:Nat} (h:Wh.Tab w g):g<w.heap.size:=by
 obtain ⟨t,h⟩:=h
 exact h.lt
theorem LkAt.off {T:Nat->Prop} (h:LkAt K D w s N) (ht:Touch T w w') (hT:∀ b,T b->33<=D b/\D b ≠ 40) (hD:∀ b,b<w.heap.size->D' b=D b):LkAt K D' w' s N:=
 ⟨⟨ht.blk h.blk.1 (fun e=>(hT _ e).2 h.blk.2),(hD _ h.blk.1.lt).trans h.blk.2⟩,⟨Tab_keep h.tab.1 ht (fun e=>(hT _ e).2 h.tab.2),(hD _ (Tab_lt h.tab.1)).trans h.tab.2⟩,
  fun i hi=>by
   obtain ⟨cn,pc,un,sp,rp,A,ca,B,cb,h1⟩:=h.nd i hi
   exact ⟨cn,pc,un,sp,rp,A,ca,B,cb,h1.keep ht (fun b hb=>by have:=(hT b hb).1;omega) hD⟩,
  fun i hi=>(h.pp i hi).keep ht (fun b hb=>by have:=(hT b hb).1;omega) hD⟩
theorem LkAt.old (h:LkAt K D w s N) (ht:Fresh w w') (hD:∀ b,b<w.heap.size->D' b=D b):LkAt K D' w' s N:=h.off ht (fun _ e=>e.elim) hD
theorem LkAt.ended {y:En.X} (h:LkAt K D w s N) (hi:i<2) (he:EndTo (16*i) D D' w w' (K.n i) y):LkTo K D w (s.setX i y) N D' w':=by
 have hT:∀ b,All D (16*i) b->16*i<=D b/\D b<16*i+8:=fun b e=>e
 have hlab:∀ b,b<w.heap.size->D' b=D b:=he.lab.1
 refine ⟨⟨⟨he.touch.blk h.blk.1 (fun e=>by have:=hT _ e;have:=h.blk.2;omega),(hlab _ h.blk.1.lt).trans h.blk.2⟩,⟨Tab_keep h.tab.1 he.touch (fun e=>by have:=hT _ e;have:=h.tab.2;omega),(hlab _ (Tab_lt h.tab.1)).trans h.tab.2⟩,fun k hk=>?_,fun k hk=>(h.pp k hk).keep he.touch (fun b hb=>by have:=hT b hb;omega) hlab⟩,hlab,he.touch.mono fun b _ hb=>by have:=hT b hb;omega⟩
 by_cases e:k=i
 ·subst e
  show EndAt _ _ _ _ (Su.upd s.x k y k)
  rw [Su.upd_at]
  exact he.at_
 ·show EndAt _ _ _ _ (Su.upd s.x i y k)
  rw [Su.upd_ne _ _ e]
  exact (h.nd k hk).other he.touch hlab (by omega)
theorem LkAt.piped {l:List Cn.Pd} (h:LkAt K D w s N) (hi:i<2) (hN:N<=N') (he:PipeTo (16*i+10) D w (K.p i) K.room l N' D' w'):LkTo K D w (s.setQ i l) N' D' w':=by
 have hlab:=he.lab
 refine ⟨⟨⟨he.touch.blk h.blk.1 (fun e=>by have e:D K.l=_:=e;have:=h.blk.2;omega),(hlab _ h.blk.1.lt).trans h.blk.2⟩,⟨Tab_keep h.tab.1 he.touch (fun e=>by have e:D K.wr=_:=e;have:=h.tab.2;omega),(hlab _ (Tab_lt h.tab.1)).trans h.tab.2⟩,fun k hk=>?_,fun k hk=>?_⟩,hlab,he.touch.mono fun b _ hb=>by have hb:D b=_:=hb;omega⟩
 ·obtain ⟨cn,pc,un,sp,rp,A,ca,B,cb,h1⟩:=h.nd k hk
  exact ⟨cn,pc,un,sp,rp,A,ca,B,cb,h1.keep he.touch (fun b hb=>by have hb:D b=_:=hb;omega) hlab⟩
 ·by_cases e:k=i
  ·subst e
   show PipeL _ _ _ _ _ (Su.upd s.q k l k) _
   rw [Su.upd_at]
   exact he.pipe
  ·show PipeL _ _ _ _ _ (Su.upd s.q i l k) _
   rw [Su.upd_ne _ _ e]
   exact ((h.pp k hk).keep he.touch (fun b hb=>by have hb:D b=_:=hb;omega) hlab).mono hN
theorem LkTo.trans (h:LkTo K D w s N D' w') (h':LkTo K D' w' s' N' D2 w2):LkTo K D w s' N' D2 w2:=
 ⟨h'.at_,fun b hb=>(h'.lab b (Nat.lt_of_lt_of_le hb h.touch.size)).trans (h.lab b hb),h.touch.trans h'.touch fun b hb e=>by
  rw [h.lab b hb] at e
  exact e⟩
theorem LkTo.refl (h:LkAt K D w s N):LkTo K D w s N D w:=⟨h,fun _ _=>rfl,Touch.refl _ _⟩
theorem LkTo.off {T:Nat->Prop} (h:LkTo K D w s N D' w') (ht:Touch T w' w2) (hT:∀ b,T b->33<=D' b/\D' b ≠ 40) (hT2:∀ b,b<w.heap.size->¬ T b) (hD:∀ b,b<w'.heap.size->D2 b=D' b):LkTo K D w s N D2 w2:=
 ⟨h.at_.off ht hT hD,fun b hb=>(hD b (Nat.lt_of_lt_of_le hb h.touch.size)).trans (h.lab b hb),h.touch.trans ht fun b hb e=>absurd e (hT2 b hb)⟩
theorem LkTo.old (h:LkTo K D w s N D' w') (ht:Fresh w' w2) (hD:∀ b,b<w'.heap.size->D2 b=D' b):LkTo K D w s N D2 w2:=h.off ht (fun _ e=>e.elim) (fun _ _ e=>e) hD
structure Out (h:Nat) (D:Nat->Nat) (w:World) (A:Option Addr) (c:Nat) (L:List Rec):Prop where
 sl:Sl recE w A c L
 lb:∀ ad,A=some ad->D ad.block=45/\h<=ad.block
variable {h0:Nat} {A:Option Addr} {c:Nat} {L:List Rec}
theorem Out.nil (h:Nat) (D:Nat->Nat) (w:World):Out h D w none 0 []:=⟨Sl.nil _ _,fun _ e=>nomatch e⟩
theorem Out.keep {T:Nat->Prop} (h:Out h0 D w A c L) (ht:Touch T w w') (hT:∀ b,T b->D b ≠ 45) (hD:∀ b,b<w.heap.size->D' b=D b):Out h0 D' w' A c L:=
 ⟨h.sl.touch ht (fun ad e e2=>hT _ e2 (h.lb ad e).1),fun ad e=>⟨(hD _ (h.sl.lt ad e)).trans (h.lb ad e).1,(h.lb ad e).2⟩⟩
theorem Out.to (h:Out h0 D w A c L) (hl:LkTo K D w s N D' w'):Out h0 D' w' A c L:=h.keep hl.touch (fun b e=>by omega) hl.lab
theorem Out.app {A':Option Addr} {c':Nat} {L':List Rec} (h:Out h0 D w A c L) (hh:h0<=w.heap.size) (hs:Sl recE w' A' c' L') (ht:Touch (fun k=>A.map Addr.block=some k) w w') (hA:A'.map Addr.block=A.map Addr.block\/A'.map Addr.block=some w.heap.size) :
  Out h0 (lab D w.heap.size 45) w' A' c' L'/\Touch (fun k=>A.map Addr.block=some k) w w'/\(∀ k,A.map Addr.block=some k->D k=45/\h0<=k):=by
 have ha:∀ k,A.map Addr.block=some k->D k=45/\h0<=k:=fun k e=>by
  cases A with
  |none=>cases e
  |some ad=>injection e with e;subst e;exact h.lb ad rfl
 refine ⟨⟨hs,fun ad e=>?_⟩,ht,ha⟩
 subst e
 rcases hA with e | e
 ·have hk:=ha ad.block e.symm
  refine ⟨?_,hk.2⟩
  rw [lab_old]
  ·exact hk.1
  ·cases A with
   |none=>cases e
   |some a2=>injection e with e;rw [e];exact h.sl.lt a2 rfl
 ·injection e with e
  exact ⟨lab_new (by omega),by omega⟩
structure Run (K:Lk) (D:Nat->Nat) (w:World) (D':Nat->Nat) (w':World) (s:Su.Sy) (N:Nat) (A:Option Addr) (c:Nat) (L:List Rec):Prop where
 lk:LkTo K D w s N D' w'
 out:Out w.heap.size D' w' A c L
theorem Run.ended {y:En.X} (h:Run K D w D' w' s N A c L) (hi:i<2) (he:EndTo (16*i) D' D2 w' w2 (K.n i) y):Run K D w D2 w2 (s.setX i y) N A c L:=
 have h1:=h.lk.at_.ended hi he
 ⟨h.lk.trans h1,h.out.to h1⟩
theorem Run.piped {l:List Cn.Pd} (h:Run K D w D' w' s N A c L) (hi:i<2) (hN:N<=N') (he:PipeTo (16*i+10) D' w' (K.p i) K.room l N' D2 w2):Run K D w D2 w2 (s.setQ i l) N' A c L:=
 have h1:=h.lk.at_.piped hi hN he
 ⟨h.lk.trans h1,h.out.to h1⟩
theorem Run.old (h:Run K D w D' w' s N A c L) (ht:Fresh w' w2) (hD:∀ b,b<w'.heap.size->D2 b=D' b):Run K D w D2 w2 s N A c L:=
 ⟨h.lk.old ht hD,h.out.keep ht (fun _ e=>e.elim) hD⟩
theorem Run.box (h:Run K D w D' w' s N A c L) (ht:Fresh w' w2):Run K D w (lab D' w'.heap.size 46) w2 s N A c L:=h.old ht fun _b hb=>lab_old hb
theorem Run.app {A':Option Addr} {c':Nat} {L':List Rec} (h:Run K D w D' w' s N A c L) (hs:Sl recE w2 A' c' L') (ht:Touch (fun k=>A.map Addr.block=some k) w' w2) (hA:A'.map Addr.block=A.map Addr.block\/A'.map Addr.block=some w'.heap.size):Run K D w (lab D' w'.heap.size 45) w2 s N A' c' L':=by
 obtain ⟨h1,h2,h3⟩:=h.out.app h.lk.touch.size hs ht hA
 exact ⟨h.lk.off h2 (fun b e=>by have:=(h3 b e).1;omega) (fun b hb e=>by have:=(h3 b e).2;omega) (fun b hb=>lab_old hb),h1⟩
end
set_option maxRecDepth 20000
def tellR (e:Int) (s:Cn.Sig):Rec:=⟨e,5,noU,s,0,ByteArray.empty,0⟩
theorem map_take1 {α β:Type} (f:α->β) (L:List α) (j:Nat) (h:j<L.length):(L.take (j+1)).map f=(L.take j).map f++[f L[j]]:=by
 rw [List.take_succ_eq_append_getElem h,List.map_append]
 rfl
def RunPost (K:Lk) (D:Nat->Nat) (w:World) (s:Su.Sy) (N:Nat) (L:List Rec) (e:Ending) (w':World):Prop:=∃ D' A c,e=.returned (.slice A L.length c)/\Run K D w D' w' s N A c L
section
variable {K:Lk} {D D1:Nat->Nat} {w w1:World} {s:Su.Sy} {N:Nat} {A:Option Addr} {c:Nat} {L:List Rec}
theorem told_any (h:Run K D w D1 w1 s N A c L) (e:Int) {B:Option Addr} {cb:Nat} {sg:List Cn.Sig} (hs:Sl sigE w1 B cb sg) (hB:∀ ad,B=some ad->D1 ad.block ≠ 45) (hl:L.length+sg.length<=100000) :
  Calls Tryz.prog 17 #[.slice A L.length c,.int .i64 e,.slice B sg.length cb] w1 (RunPost K D w s N (L++sg.map (tellR e))):=by
 have H:=lh h
 have HS:=lh hs
 have HB:=lh hB
 have HL:=lh hl
 clear h hs hB hl
 go_enter Tryz.func17,Tryz.ntmps17
 go_wp2_with fail
 go_loopw [0,11] (fun v0 v11 wr=>∃ (j:Nat) (D2:Nat->Nat) (A2:Option Addr) (c2:Nat),j<=sg.length/\v11=.int .i64 j/\v0=.slice A2 (L.length+j) c2/\Hid (Run K D w D2 wr s N A2 c2 (L++(sg.take j).map (tellR e)))/\Hid (Sl sigE wr B cb sg)/\Hid (∀ ad,B=some ad->D2 ad.block ≠ 45)) (fun _ v11 _=>sg.length-(intOf v11).toNat)
 case atStart=>exact ⟨0,D1,A,c,Nat.zero_le _,rfl,rfl,by simpa using H,HS,HB⟩
 case round =>
  clear H HS HB
  obtain ⟨j,D2,A2,c2,hj,rfl,rfl,H,HS,HB⟩:=hrel
  by_cases hlt:j<sg.length
  ·have hk1:(j:Int)<(sg.length:Int):=by omega
   have hk0:(0:Int)<=(j:Int):=by omega
   have HTS:Hid (L++(sg.take (j+1)).map (tellR e)=(L++(sg.take j).map (tellR e))++[tellR e sg[j]]):=by
    show _=_
    rw [map_take1 _ _ _ hlt,List.append_assoc]
   obtain ⟨g,o,rfl,HG,HX⟩:=HS.out.at_ j hlt
   obtain ⟨m,hm⟩:=xq (sg[j])
   rw [<- hm] at HX HTS
   clear hm
   have x0:wr.cell? ⟨g,o+j*5,none⟩=some (.int .i64 m.kind):=by simpa [sigE,Nat.add_assoc] using HX 0 _ rfl
   have x1:wr.cell? ⟨g,o+j*5+1,none⟩=some (.string m.data):=by simpa [sigE,Nat.add_assoc] using HX 1 _ rfl
   have x2:wr.cell? ⟨g,o+j*5+2,none⟩=some (.bool m.self):=by simpa [sigE,Nat.add_assoc] using HX 2 _ rfl
   have x3:wr.cell? ⟨g,o+j*5+3,none⟩=some (.int .u8 m.code):=by simpa [sigE,Nat.add_assoc] using HX 3 _ rfl
   have x4:wr.cell? ⟨g,o+j*5+4,none⟩=some (.int .i64 m.n):=by simpa [sigE,Nat.add_assoc] using HX 4 _ rfl
   have hlen:(L++(sg.take j).map (tellR e)).length=L.length+j:=by simp;omega
   obtain ⟨Q,hQ⟩:=xq (L++(sg.take j).map (tellR e))
   rw [<- hQ] at H HTS hlen
   rw [<- hlen]
   have HLN:Hid (Q.length=L.length+j):=hlen
   have hq:Q.length<=100000:=by have:=HL.out;omega
   have hsl:sg.length<=100000:=by have:=HL.out;omega
   clear hQ HX HG hlen
   go_upto_region 4 with (fail)
   obtain ⟨w2,hw2⟩:=xq (wr.alloc (.cells #[.int .i64 m.kind,.string m.data,.bool m.self,.int .u8 m.code,.int .i64 m.n] 51))
   obtain ⟨b,hb⟩:=xq wr.heap.size
   have HF2:Hid (Fresh wr w2):=by rw [hw2];exact (Touch.refl _ _).alloc _
   have HBX:Blk w2 b 51 [.int .i64 m.kind,.string m.data,.bool m.self,.int .u8 m.code,.int .i64 m.n]:=by rw [hw2,hb];exact Blk.new _ _ _
   rw [<- hw2,<- hb]
   have H2:Hid (Run K D w (lab D2 wr.heap.size 46) w2 s N A2 c2 Q):=H.out.box HF2.out
   have y0:=HBX.cell 0
   have y1:=HBX.cell 1
   have y2:=HBX.cell 2
   have y3:=HBX.cell 3
   have y4:=HBX.cell 4
   have HSZ:Hid (wr.heap.size<=w2.heap.size):=HF2.out.size
   clear hw2 hb x0 x1 x2 x3 x4 HBX
   go_wp2_with (at_builtin;refine app_rec rfl rfl (l:=Q) (l2:=[tellR e m]) rfl rfl (H2.out.out.sl.alloc _) (Sl.rd (Sl.lit recE w2 _ rfl _ [tellR e m] rfl _ rfl (by decide))) (by simp;omega) ?_;intro A4 c4 L4 w4 hL4 s4 t4 a4;have S4:=lh s4;have T4:=lh t4;have P4:=lh a4;clear s4 t4 a4)
   have HR4:Hid (∃ D4,Run K D w D4 w4 s N A4 c4 L4/\∀ ad,(some (⟨g,o,none⟩:Addr))=some ad->D4 ad.block ≠ 45):=by
    have h3:=H2.out.box ((Touch.refl (fun _=>False) w2).alloc (.cells (recE.enc (tellR e m)).toArray recE.e))
    refine ⟨_,h3.app S4.out T4.out P4.out,fun ad ha=>?_⟩
    have e1:=HB.out ad ha
    have e2:=HS.out.lt ad ha
    have e3:=HSZ.out
    rw [lab_old (by simp;omega),lab_old (by omega),lab_old e2]
    exact e1
   have HS4:Hid (Sl sigE w4 (some ⟨g,o,none⟩) cb sg):=by
    refine (((HS.out.touch HF2.out (fun _ _ e=>e)).alloc _).touch T4.out fun ad ha hk=>?_)
    cases A2 with
    |none=>cases hk
    |some a2 =>
     injection hk with hk
     have e1:=(H.out.out.lb a2 rfl).1
     rw [hk] at e1
     exact HB.out ad ha e1
   have HL4:Hid (L4.length=L.length+(j+1)):=by
    rw [hL4.out];show _=_;simp;have:=HLN.out;omega
   obtain ⟨D4,hR4,hB4⟩:=HR4.out
   rw [hL4.out,<- HTS.out] at hR4
   have HR5:=lh hR4
   have HB5:=lh hB4
   clear hR4 hB4 HR4 HB HS H H2
   go_roundw
   case rel=>exact ⟨j+1,D4,A4,c4,by omega,by go_num,by rw [HL4.out],HR5,HS4,HB5⟩
   case measure=>simp [intOf];omega
  ·obtain rfl:j=sg.length:=by omega
   have hm:=H.out
   rw [List.take_length] at hm
   have HE:Hid (RunPost K D w s N (L++sg.map (tellR e)) (.returned (.slice A2 (L.length+sg.length) c2)) wr):=by
    refine ⟨D2,A2,c2,?_,hm⟩
    rw [List.length_append,List.length_map]
   clear hm H HS HB
   go_wp2
   go_ret
   exact HE.out
end
set_option maxRecDepth 20000
structure Pmp (K:Lk) (E:Su.Env) (Z Kb:Bool) (e n:Int) (inc:Bool) (v:Nat) (D0:Nat->Nat) (w0:World) (s0:Su.Sy) (N:Nat) (L0:List Rec) (i:Nat) (D:Nat->Nat) (w:World) (s:Su.Sy) (A:Option Addr) (c:Nat) (L:List Rec):Prop where
 run:Run K D0 w0 D w s N A c L
 ph:Su.PhS E Z Kb e n inc v s
 mu:∀ k,k<2->Su.mu k s=Su.mu k s0
 en:∀ k,k<i->En.next (s.x k)=(s.x k,none)\/K.room<=(s.q (1-k)).length
 tell:∃ L2,L=L0++L2/\∀ r ∈ L2,r.k=1
 len:L.length+Su.talk (s.x 0)+Su.talk (s.x 1)<=L0.length+34
section
variable {K:Lk} {E:Su.Env} {Z Kb inc:Bool} {e n:Int} {v:Nat} {D0 D D2:Nat->Nat} {w0 w w2:World} {s0 s:Su.Sy} {N i:Nat} {L0 L:List Rec} {A:Option Addr} {c:Nat}
theorem Pmp.old (h:Pmp K E Z Kb e n inc v D0 w0 s0 N L0 i D w s A c L) (ht:Fresh w w2):Pmp K E Z Kb e n inc v D0 w0 s0 N L0 i (lab D w.heap.size 46) w2 s A c L:=⟨h.run.box ht,h.ph,h.mu,h.en,h.tell,h.len⟩
theorem Pmp.first (h:Run K D0 w0 D w s0 N A c L0) (hp:Su.PhS E Z Kb e n inc v s0):Pmp K E Z Kb e n inc v D0 w0 s0 N L0 0 D w s0 A c L0:=
 ⟨h,hp,fun _ _=>rfl,fun k hk=>absurd hk (Nat.not_lt_zero k),⟨[],by simp,fun r hr=>(by cases hr)⟩,by have:=Su.talk_le (hp.fits (i:=0) (by omega));have:=Su.talk_le (hp.fits (i:=1) (by omega));omega⟩
theorem Pmp.step (h:Pmp K E Z Kb e n inc v D0 w0 s0 N L0 i D w s A c L) (hs:En.next (s.x i)=(s.x i,none)\/K.room<=(s.q (1-i)).length):Pmp K E Z Kb e n inc v D0 w0 s0 N L0 (i+1) D w s A c L:=
 ⟨h.run,h.ph,h.mu,fun k hk=>by
  by_cases e:k=i
  ·subst e;exact hs
  ·exact h.en k (by omega),h.tell,h.len⟩
theorem Pmp.say {y:En.X} {u:Cn.Pd} {r:Rec} {A':Option Addr} {c':Nat} (h:Pmp K E Z Kb e n inc v D0 w0 s0 N L0 i D w s A c L) (hi:i<2) (ht:Su.talk (s.x i)=Su.talk y+1) (hp:Su.PhS E Z Kb e n inc v ((s.setX i y).setQ (1-i) (s.q (1-i)++[u]))) (hr:Run K D0 w0 D2 w2 ((s.setX i y).setQ (1-i) (s.q (1-i)++[u])) N A' c' (L++[r])) (hk:r.k=1):Pmp K E Z Kb e n inc v D0 w0 s0 N L0 i D2 w2 ((s.setX i y).setQ (1-i) (s.q (1-i)++[u])) A' c' (L++[r]):=by
 refine ⟨hr,hp,fun k hk=>(Su.mu_say hi ht hk).trans (h.mu k hk),fun k hk=>?_,?_,?_⟩
 ·have e1:k ≠ i:=by omega
  have e2:1-k ≠ 1-i:=by omega
  show En.next (Su.upd s.x i y k)=(Su.upd s.x i y k,none)\/K.room<=(Su.upd s.q (1-i) _ (1-k)).length
  rw [Su.upd_ne _ _ e1,Su.upd_ne _ _ e2]
  exact h.en k hk
 ·obtain ⟨L2,rfl,h2⟩:=h.tell
  refine ⟨L2++[r],by rw [List.append_assoc],fun q hq=>?_⟩
  rcases List.mem_append.1 hq with hq | hq
  ·exact h2 q hq
  ·rw [List.mem_singleton.1 hq];exact hk
 ·have hl:=h.len
  rw [List.length_append,List.length_singleton]
  show _+Su.talk (Su.upd s.x i y 0)+Su.talk (Su.upd s.x i y 1)<=_
  have hx:i=0\/i=1:=by omega
  rcases hx with rfl | rfl
  ·rw [Su.upd_at,Su.upd_ne _ _ (by decide)];omega
  ·rw [Su.upd_at,Su.upd_ne _ _ (by decide)];omega
theorem Su.WG.rd {u u':Cn.Pd} (h:Su.WG u) {k:Nat} (hg:Goes k D w w2 u [] u'):∃ A c,pduV u'=pV (Su.toP u) A c/\Rd numE w2 A c []:=by
 rcases hg with ⟨rfl,-⟩ | ⟨A,c,rfl,hs,-,-⟩
 ·exact ⟨none,0,h.pv.symm,Rd.nil _ _⟩
 ·exact ⟨A,c,rfl,hs.rd⟩
theorem LkAt.cells (h:LkAt K D w s N):w.cell? ⟨K.l,0,none⟩=some (.pointer (some ⟨K.wr,0,none⟩))/\w.cell? ⟨K.l,1,none⟩=some (.pointer (some ⟨K.n 0,0,none⟩))/\w.cell? ⟨K.l,2,none⟩=some (.pointer (some ⟨K.p 0,0,none⟩))/\w.cell? ⟨K.l,3,none⟩=some (.pointer (some ⟨K.n 1,0,none⟩))/\w.cell? ⟨K.l,4,none⟩=some (.pointer (some ⟨K.p 1,0,none⟩)):=
 ⟨h.blk.1.cell 0,h.blk.1.cell 1,h.blk.1.cell 2,h.blk.1.cell 3,h.blk.1.cell 4⟩
theorem Su.setX_self (s:Su.Sy) (i:Nat):s.setX i (s.x i)=s:=by
 obtain ⟨x,q⟩:=s
 show Su.Sy.mk (Su.upd x i (x i)) q=_
 congr 1
 funext k
 unfold Su.upd
 split
 ·rename_i e;rw [e]
 ·rfl
theorem Out.ne {h:Nat} (ho:Out h D w A c L):∀ k,A.map Addr.block=some k->D k ≠ 46:=fun k e=>by
 cases A with
 |none=>cases e
 |some ad =>
  injection e with e
  have:=(ho.lb ad rfl).1
  rw [<- e]
  omega
def BoxAt (D:Nat->Nat) (w:World) (b:Nat) (v:Value):Prop:=w.cell? ⟨b,0,none⟩=some v/\D b=46
theorem BoxAt.keep {b:Nat} {x:Value} {T:Nat->Prop} (h:BoxAt D w b x) (ht:Touch T w w2) (hT:∀ b,T b->D b ≠ 46) (hD:∀ b,b<w.heap.size->D2 b=D b):BoxAt D2 w2 b x:=
 have hb:=World.block_lt_of_cell? _ _ h.1
 ⟨(World.cell?_of_block (ht.block b hb (fun e=>hT b e h.2))).trans h.1,(hD b hb).trans h.2⟩
theorem BoxAt.box {b:Nat} {x:Value} (h:BoxAt D w b x) (ht:Fresh w w2) (k:Nat):BoxAt (lab D w.heap.size k) w2 b x:=h.keep ht (fun _ e=>e.elim) (fun _ hb=>lab_old hb)
theorem rd_any {α:Type} {F:El α} (h:Rd F w A c []) (w2:World):Rd F w2 A c []:=⟨h.1,h.2.1,h.2.2.1,fun ad _ j u hu=>by simp [El.all] at hu⟩
def PumpPost (K:Lk) (E:Su.Env) (Z Kb:Bool) (e n:Int) (inc:Bool) (v:Nat) (D0:Nat->Nat) (w0:World) (s0:Su.Sy) (N:Nat) (L0:List Rec) (x:Ending) (w':World):Prop:=∃ D s A c L,x=.returned (.slice A L.length c)/\Pmp K E Z Kb e n inc v D0 w0 s0 N L0 2 D w' s A c L
theorem side0 {ρ:Operand->Value} {w:World} {x y:Operand} {a b c d:Value} {o:Oper} (ho:o.op=.index 87 x y) (hx:ρ x=.agg #[a,b,c,d]) (hy:ρ y=.int .i64 ((0:Nat):Int)):(execOp ρ o).run Tryz.prog w=.ok (.value (.agg #[a,b])) w:=by
 unfold execOp
 rw [ho]
 dsimp only
 rw [hx,hy]
 kernel_rfl
theorem side1 {ρ:Operand->Value} {w:World} {x y:Operand} {a b c d:Value} {o:Oper} (ho:o.op=.index 87 x y) (hx:ρ x=.agg #[a,b,c,d]) (hy:ρ y=.int .i64 ((1:Nat):Int)):(execOp ρ o).run Tryz.prog w=.ok (.value (.agg #[c,d])) w:=by
 unfold execOp
 rw [ho]
 dsimp only
 rw [hx,hy]
 kernel_rfl
theorem pump_any (hE:E.Ok) (h:Run K D0 w0 D w s N A c L) (hp:Su.PhS E Z Kb e n inc v s) (hr:K.room<=256) (hN:N<=900000) (hl:L.length<=100000) :
  Calls Tryz.prog 16 #[.pointer (some ⟨K.l,0,none⟩),.slice A L.length c] w (PumpPost K E Z Kb e n inc v D0 w0 s N L):=by
 have H:=lh (Pmp.first h hp)
 have HE:=lh hE
 obtain ⟨b0,b1,b2,b3,b4⟩:=h.lk.at_.cells
 have HL:Hid (L.length<=100000):=hl
 obtain ⟨s0,hs0⟩:=xq s
 obtain ⟨L0,hL0⟩:=xq L
 rw [<- hs0,<- hL0] at H
 rw [<- hs0,<- hL0]
 rw [<- hL0] at HL
 clear h hp hE hs0 hL0 hl
 go_enter Tryz.func16,Tryz.ntmps16
 go_wp2_with fail
 go_step3
 go_wp2_with fail
 go_step3
 go_wp2_with fail
 clear b0 b1 b2 b3 b4
 go_loopg [16,1] 2 (fun g v16 v1 wr=>∃ (i:Nat) (D:Nat->Nat) (s:Su.Sy) (A:Option Addr) (c:Nat) (L:List Rec),i+g=2/\v16=.int .i64 i/\v1=.slice A L.length c/\Hid (Pmp K E Z Kb e n inc v D0 w0 s0 N L0 i D wr s A c L))
 case atStart=>exact ⟨0,D,s0,A,c,L0,by omega,rfl,rfl,H⟩
 case round =>
  clear H
  obtain ⟨i,D,s,A,c,L,hi,rfl,rfl,H⟩:=hrel
  cases gk with
  |succ g =>
   have hk2:(i:Int)<2:=by omega
   have hk0:(0:Int)<=(i:Int):=by omega
   have hi3:i=0\/i=1:=by omega
   go_upto_block 1 with (fail)
   go_cut [1] (fun v1 wx=>∃ (D:Nat->Nat) (s:Su.Sy) (A:Option Addr) (c:Nat) (L:List Rec),v1=.slice A L.length c/\Hid (Pmp K E Z Kb e n inc v D0 w0 s0 N L0 (i+1) D wx s A c L))
   case first =>
    go_upto_region 3 with (fail)
    go_cut [5,6] (fun v5 v6 wx=>v5=.int .i64 i/\∃ (b:Nat) (D:Nat->Nat),v6=.pointer (some ⟨b,0,none⟩)/\Hid (BoxAt D wx b (.pointer (some ⟨K.n i,0,none⟩)))/\Hid (Pmp K E Z Kb e n inc v D0 w0 s0 N L0 i D wx s A c L))
    case first =>
     have HX:Hid (∀ o,Pmp K E Z Kb e n inc v D0 w0 s0 N L0 i (lab D wr.heap.size 46) (wr.alloc o) s A c L/\lab D wr.heap.size 46 wr.heap.size=46):=fun o=>⟨H.out.old ((Touch.refl _ _).alloc _),lab_new (Nat.le_refl _)⟩
     have HZ:Hid (∀ x y:Nat,Blk (wr.alloc (.cells #[.pointer (some ⟨x,0,none⟩),.pointer (some ⟨y,0,none⟩)] 85)) wr.heap.size 85 [.pointer (some ⟨x,0,none⟩),.pointer (some ⟨y,0,none⟩)]):=fun x y=>Blk.new _ _ _
     clear H
     rcases hi3 with rfl | rfl
     ·refine wp_region_lit ?_
      refine wpList_move rfl (.tmp 16) rfl ?_
      refine wpList_val (w':=wr) (v:=.agg #[.pointer (some ⟨K.n 0,0,none⟩),.pointer (some ⟨K.p 0,0,none⟩)]) rfl (side0 rfl rfl rfl) ?_
      go_wp2_with fail
      go_meet
      case rel=>exact ⟨rfl,_,_,rfl,⟨(HZ.out _ _).cell 0,(HX.out (.cells #[] 0)).2⟩,(HX.out _).1⟩
     ·refine wp_region_lit ?_
      refine wpList_move rfl (.tmp 16) rfl ?_
      refine wpList_val (w':=wr) (v:=.agg #[.pointer (some ⟨K.n 1,0,none⟩),.pointer (some ⟨K.p 1,0,none⟩)]) rfl (side1 rfl rfl rfl) ?_
      go_wp2_with fail
      go_meet
      case rel=>exact ⟨rfl,_,_,rfl,⟨(HZ.out _ _).cell 0,(HX.out (.cells #[] 0)).2⟩,(HX.out _).1⟩
    case rest =>
     clear H
     obtain ⟨rfl,b,D,rfl,HB,H⟩:=hcut
     generalize wc=w1 at *
     go_upto_region 4 with (fail)
     go_cut [7] (fun v7 wx=>v7=.pointer (some ⟨K.p (1-i),0,none⟩)/\wx=w1)
     case first =>
      obtain ⟨c0,c1,c2,c3,c4⟩:=H.out.run.lk.at_.cells
      clear H HB
      rcases hi3 with rfl | rfl
      all_goals
       go_wp2_with fail
       go_meet
       case rel=>exact ⟨rfl,rfl⟩
     case rest =>
      obtain ⟨rfl,rfl⟩:=hcut
      clear hk2 hk0
      go_wp2_with fail
      have hle0:=H.out.len
      go_loopg [1] (L0.length+35-L.length) (fun g v1 wr=>∃ (D:Nat->Nat) (s:Su.Sy) (A:Option Addr) (c:Nat) (L:List Rec),v1=.slice A L.length c/\L.length+g=L0.length+35/\Hid (BoxAt D wr b (.pointer (some ⟨K.n i,0,none⟩)))/\Hid (Pmp K E Z Kb e n inc v D0 w0 s0 N L0 i D wr s A c L))
      case atStart=>exact ⟨D,s,A,c,L,rfl,by omega,HB,H⟩
      case round =>
       clear H HB hle0
       obtain ⟨D,s,A,c,L,rfl,hg,HB,H⟩:=hrel
       have hle:=H.out.len
       have hL1:=HL.out
       have hi2:i<2:=by omega
       have hj2:1-i<2:=by omega
       cases gk with
       |zero=>omega
       |succ g =>
        obtain ⟨gr,cp,hrm⟩:=lp_room (H.out.run.lk.at_.pp (1-i) hj2)
        have HRM:=lh hrm
        clear hrm
        by_cases hq:(s.q (1-i)).length<K.room
        ·have hq0:(0:Int)<(K.room:Int)-((s.q (1-i)).length:Int):=by omega
         rcases H.out.ph.say HE.out hi2 with hnx | ⟨y,u,hnx,hph,hwg,htk⟩
         ·have HNX:Hid (∀ w2,Fresh wr w2->Calls Tryz.prog 39 #[.pointer (some ⟨K.n i,0,none⟩)] w2 fun x w3=>∃ u',x=.returned (.tuple #[pduV u',.bool false])/\∃ D3,Pmp K E Z Kb e n inc v D0 w0 s0 N L0 i D3 w3 s A c L):=fun w2 hw=>by
           have h2:=H.out.old hw
           obtain ⟨cn,pc,un,sp,rp,A1,ca,B1,cb,hin⟩:=h2.run.lk.at_.nd i hi2
           refine (nnext_plain hin (H.out.ph.fits hi2).fit (H.out.ph.fits hi2).us (H.out.ph.fits hi2).ag (H.out.ph.fits hi2).wt).mono ?_
           rw [hnx]
           rintro x w3 ⟨D3,u',rfl,h3,-⟩
           have h4:=h2.run.ended hi2 h3
           rw [Su.setX_self] at h4
           exact ⟨u',rfl,D3,h4,h2.ph,h2.mu,h2.en,h2.tell,h2.len⟩
          have HST:Hid (∀ D3 w3 w4,Pmp K E Z Kb e n inc v D0 w0 s0 N L0 i D3 w3 s A c L->Fresh w3 w4->∃ (D:Nat->Nat) (s:Su.Sy) (A':Option Addr) (c':Nat) (L':List Rec),Value.slice A L.length c=.slice A' L'.length c'/\Hid (Pmp K E Z Kb e n inc v D0 w0 s0 N L0 (i+1) D w4 s A' c' L')):=fun D3 w3 w4 h3 hw=>⟨_,s,A,c,L,rfl,(h3.old hw).step (.inl hnx)⟩
          have HB2:Hid (∀ w2,Fresh wr w2->w2.cell? ⟨b,0,none⟩=some (.pointer (some ⟨K.n i,0,none⟩))):=fun w2 hw=>(World.cell?_of_block (hw.block b (World.block_lt_of_cell? _ _ HB.out.1) (fun e=>e))).trans HB.out.1
          clear H HB hq hle hnx
          generalize ((s.q (1-i)).length:Int)=ql at *
          go_upto_region 6 with (go_at_call 38;(with_reducible refine HRM.out.mono ?_);rintro e w2 ⟨rfl,kk,hw⟩;have F2:Hid (Fresh wr w2):=(by rw [hw];exact (Touch.refl _ _).drewN _);clear hw)
          have d0:=HB2.out w2 F2.out
          have HN2:=lh (HNX.out w2 F2.out)
          clear HNX HB2
          unfold pduV at HN2
          go_wp2_with (go_at_call 39;(with_reducible refine HN2.out.mono ?_);rintro e w3 ⟨u',rfl,D3,h3⟩;have H3:=lh h3;clear h3)
          go_meet
          case rel=>exact HST.out _ _ _ H3.out ((Touch.refl _ _).alloc _)
         ·have HNX:Hid (∀ w2,Fresh wr w2->Calls Tryz.prog 39 #[.pointer (some ⟨K.n i,0,none⟩)] w2 fun x w3=>∃ A5 c5,x=.returned (.tuple #[pV (Su.toP u) A5 c5,.bool true])/\Rd numE w3 A5 c5 []/\∃ D3,Run K D0 w0 D3 w3 (s.setX i y) N A c L/\BoxAt D3 w3 b (.pointer (some ⟨K.n i,0,none⟩))):=fun w2 hw=>by
           have h2:=H.out.old hw
           have b2:=HB.out.box hw 46
           obtain ⟨cn,pc,un,sp,rp,A1,ca,B1,cb,hin⟩:=h2.run.lk.at_.nd i hi2
           refine (nnext_plain hin (H.out.ph.fits hi2).fit (H.out.ph.fits hi2).us (H.out.ph.fits hi2).ag (H.out.ph.fits hi2).wt).mono ?_
           rw [hnx]
           rintro x w3 ⟨D3,u',rfl,h3,hgo⟩
           obtain ⟨A5,c5,e5,r5⟩:=hwg.rd (hgo u [] rfl)
           rw [e5]
           exact ⟨A5,c5,rfl,r5,D3,h2.run.ended hi2 h3,b2.keep h3.touch (fun b e=>by unfold All at e;omega) h3.lab.1⟩
          have HPK:Hid (∀ A5 c5 w3,Rd numE w3 A5 c5 []->∀ D4 W,Run K D0 w0 D4 W (s.setX i y) N A c L->Calls Tryz.prog 40 #[.pointer (some ⟨K.wr,0,none⟩),pV (Su.toP u) A5 c5] W fun e w'=>e=.returned (.tuple #[.string (Su.fr u),.int .i64 0])/\Fresh W w'):=fun A5 c5 w3 h5 D4 W hW=>pack6_ok K.wr (Su.toP u) A5 c5 W (rd_any h5 W) hW.lk.at_.tab.1 hwg.ck
          have HPT:Hid (∀ D5 W,Run K D0 w0 D5 W (s.setX i y) N A c L->Calls Tryz.prog 41 #[.pointer (some ⟨K.p (1-i),0,none⟩),.string (Su.fr u)] W fun e w'=>e=.returned (.int .i64 0)/\∃ D6,Run K D0 w0 D6 w' ((s.setX i y).setQ (1-i) (s.q (1-i)++[u])) N A c L/\Touch (fun b=>D5 b=16*(1-i)+10) W w'/\∀ b,b<W.heap.size->D6 b=D5 b):=fun D5 W hW=>(lp_put (hW.lk.at_.pp (1-i) hj2) u hq (by omega)).mono fun e w' ⟨he,D6,h6⟩=>⟨he,D6,hW.piped hj2 (Nat.le_refl _) h6,h6.touch,h6.lab⟩
          have HSAY:Hid (∀ (r:Rec) D2 w2 A' c',Run K D0 w0 D2 w2 ((s.setX i y).setQ (1-i) (s.q (1-i)++[u])) N A' c' (L++[r])->r.k=1->Pmp K E Z Kb e n inc v D0 w0 s0 N L0 i D2 w2 ((s.setX i y).setQ (1-i) (s.q (1-i)++[u])) A' c' (L++[r])):=fun r D2 w2 A' c' hr hk=>H.out.say hi2 htk hph hr hk
          have HB2:Hid (∀ w2,Fresh wr w2->w2.cell? ⟨b,0,none⟩=some (.pointer (some ⟨K.n i,0,none⟩))):=fun w2 hw=>(HB.out.box hw 46).1
          clear H HB hq hle hnx hph hwg htk
          generalize (s.setX i y).setQ (1-i) (s.q (1-i)++[u])=s9 at *
          generalize s.setX i y=s3 at *
          generalize ((s.q (1-i)).length:Int)=ql at *
          generalize Su.fr u=fu at *
          unfold pV at HNX HPK
          obtain ⟨q,hq⟩:=xq (Su.toP u)
          have hql:(Su.toP u).l.length=0:=rfl
          rw [hql,<- hq] at HNX HPK
          clear hql hq
          obtain ⟨kd,sq,nn,ps,mr,lx,self,dt⟩:=q
          simp only at HNX HPK
          go_upto_region 6 with (go_at_call 38;(with_reducible refine HRM.out.mono ?_);rintro e w2 ⟨rfl,kk,hw⟩;have F2:Hid (Fresh wr w2):=(by rw [hw];exact (Touch.refl _ _).drewN _);clear hw)
          have d0:=HB2.out w2 F2.out
          have HN2:=lh (HNX.out w2 F2.out)
          clear HNX HB2
          go_upto_region 7 with (go_at_call 39;(with_reducible refine HN2.out.mono ?_);rintro e w3 ⟨A5,c5,rfl,h5,D3,h3,b3⟩;have H5:=lh h5;have H3:=lh h3;have B3:=lh b3;clear h5 h3 b3)
          clear HN2 HRM d0 cp
          obtain ⟨w4,hw4⟩:=xq (w3.alloc (.cells #[.int .i64 kd,.int .i64 sq,.int .u32 nn,.int .u32 ps,.int .u32 mr,.slice A5 0 c5,.bool self,.string dt] 49))
          obtain ⟨px,hpx⟩:=xq w3.heap.size
          obtain ⟨D4,hD4⟩:=xq (lab D3 w3.heap.size 46)
          have HF4:Hid (Fresh w3 w4):=by rw [hw4];exact (Touch.refl _ _).alloc _
          have HP4:Hid (Blk w4 px 49 [.int .i64 kd,.int .i64 sq,.int .u32 nn,.int .u32 ps,.int .u32 mr,.slice A5 0 c5,.bool self,.string dt]):=by rw [hw4,hpx];exact Blk.new _ _ _
          have HD4:Hid (D4 px=46):=by rw [hD4,hpx];exact lab_new (Nat.le_refl _)
          have H4:Hid (Run K D0 w0 D4 w4 s3 N A c L):=by rw [hD4];exact H3.out.box HF4.out
          have B4:Hid (BoxAt D4 w4 b (.pointer (some ⟨K.n i,0,none⟩))):=by rw [hD4];exact B3.out.box HF4.out 46
          rw [<- hw4,<- hpx]
          clear hw4 hpx hD4 HF4 H3 B3
          have HPK4:=lh (fun W=>HPK.out A5 c5 w3 H5.out D4 W)
          clear HPK H5
          go_upto_region 8 with (fail)
          have KF:Hid (∀ wx,Fresh w4 wx->wx.cell? ⟨K.l,0,none⟩=some (.pointer (some ⟨K.wr,0,none⟩))/\wx.cell? ⟨px,0,none⟩=some (.int .i64 kd)/\wx.cell? ⟨px,1,none⟩=some (.int .i64 sq)/\wx.cell? ⟨px,2,none⟩=some (.int .u32 nn)/\wx.cell? ⟨px,3,none⟩=some (.int .u32 ps)/\wx.cell? ⟨px,4,none⟩=some (.int .u32 mr)/\wx.cell? ⟨px,5,none⟩=some (.slice A5 0 c5)/\wx.cell? ⟨px,6,none⟩=some (.bool self)/\wx.cell? ⟨px,7,none⟩=some (.string dt)):=fun wx hw=>by
           have h1:=hw.blk HP4.out (fun e=>e)
           exact ⟨(hw.blk H4.out.lk.at_.blk.1 (fun e=>e)).cell 0,h1.cell 0,h1.cell 1,h1.cell 2,h1.cell 3,h1.cell 4,h1.cell 5,h1.cell 6,h1.cell 7⟩
          have HPK5:Hid (∀ wx,Fresh w4 wx->Calls Tryz.prog 40 #[.pointer (some ⟨K.wr,0,none⟩),.agg #[.int .i64 kd,.int .i64 sq,.int .u32 nn,.int .u32 ps,.int .u32 mr,.slice A5 0 c5,.bool self,.string dt]] wx fun e w'=>e=.returned (.tuple #[.string fu,.int .i64 0])/\Fresh w4 w'):=fun wx hw=>(HPK4.out wx (H4.out.old hw (fun _ _=>rfl))).mono fun e w' ⟨he,hf⟩=>⟨he,hw.trans hf (fun _ _ e=>e)⟩
          have FD:Fresh w4 w4.drew:=(Touch.refl _ _).drew
          go_region_held3 (fun wx=>wx.cell? ⟨K.l,0,none⟩=some (.pointer (some ⟨K.wr,0,none⟩))/\wx.cell? ⟨px,0,none⟩=some (.int .i64 kd)/\wx.cell? ⟨px,1,none⟩=some (.int .i64 sq)/\wx.cell? ⟨px,2,none⟩=some (.int .u32 nn)/\wx.cell? ⟨px,3,none⟩=some (.int .u32 ps)/\wx.cell? ⟨px,4,none⟩=some (.int .u32 mr)/\wx.cell? ⟨px,5,none⟩=some (.slice A5 0 c5)/\wx.cell? ⟨px,6,none⟩=some (.bool self)/\wx.cell? ⟨px,7,none⟩=some (.string dt))
           ((with_reducible refine KF.out _ ?_;with_reducible assumption))
           (first
            |(go_simp;go_at_call 40;(with_reducible refine (HPK5.out _ FD).mono ?_);rintro e w5 ⟨rfl,f5⟩))
          have H5:Hid (Run K D0 w0 D4 w5 s3 N A c L):=H4.out.old f5 (fun _ _=>rfl)
          have HP5:Hid (Blk w5 px 49 [.int .i64 kd,.int .i64 sq,.int .u32 nn,.int .u32 ps,.int .u32 mr,.slice A5 0 c5,.bool self,.string dt]):=f5.blk HP4.out (fun e=>e)
          have B5:Hid (BoxAt D4 w5 b (.pointer (some ⟨K.n i,0,none⟩))):=B4.out.keep f5 (fun _ e=>e.elim) (fun _ _=>rfl)
          have HPT5:=lh (HPT.out D4 w5 H5.out)
          clear f5 FD HPK5 KF HPK4 B4 H4 HP4 HPT
          go_upto_region 11 with (go_at_call 41;(with_reducible refine HPT5.out.mono ?_);rintro e w6 ⟨rfl,D6,h6,t6,l6⟩;have H6:=lh h6;have T6:=lh t6;have L6:=lh l6;clear h6 t6 l6)
          have HP6:Blk w6 px 49 [.int .i64 kd,.int .i64 sq,.int .u32 nn,.int .u32 ps,.int .u32 mr,.slice A5 0 c5,.bool self,.string dt]:=T6.out.blk HP5.out (fun e=>by have e:D4 px=_:=e;have:=HD4.out;omega)
          have B6:Hid (BoxAt D6 w6 b (.pointer (some ⟨K.n i,0,none⟩))):=B5.out.keep T6.out (fun x e=>by have e:D4 x=_:=e;omega) L6.out
          have z0:=HP6.cell 0
          have z1:=HP6.cell 1
          have z2:=HP6.cell 2
          have z3:=HP6.cell 3
          have z4:=HP6.cell 4
          have z5:=HP6.cell 5
          have z6:=HP6.cell 6
          have z7:=HP6.cell 7
          clear HP6 HP5 B5 H5 T6 L6 HPT5 HD4
          obtain ⟨r,hr0⟩:∃ r:Rec,r=⟨i,1,⟨kd,sq,nn,ps,mr,A5,0,c5,self,dt⟩,noS,0,ByteArray.empty,0⟩:=⟨_,rfl⟩
          have HR0:=lh hr0
          have HLT:Hid (∀ (w:World) (cs:Array Value),cs.toList=recE.all [⟨i,1,⟨kd,sq,nn,ps,mr,A5,0,c5,self,dt⟩,noS,0,ByteArray.empty,0⟩]->Sl recE (w.alloc (.cells cs recE.e)) (some ⟨w.heap.size,0,none⟩) 1 [r]):=fun w cs h=>by
           rw [hr0]
           exact Sl.lit recE w _ rfl _ _ h _ rfl (by decide)
          clear hr0
          go_wp2_with (at_builtin;refine app_rec rfl rfl (l:=L) (l2:=[r]) rfl rfl (H6.out.out.sl.alloc _) (Sl.rd (HLT.out _ _ rfl)) (by simp;omega) ?_;intro A7 c7 L7 w7 hL7 s7 t7 a7;have S7:=lh s7;have T7:=lh t7;have P7:=lh a7;clear s7 t7 a7)
          go_roundg g
          case measure=>omega
          case rel =>
           have h7:=H6.out.box ((Touch.refl (fun _=>False) w6).alloc (.cells (recE.all [r]).toArray recE.e))
           rw [HR0.out] at h7
           have b7:=B6.out.box ((Touch.refl (fun _=>False) w6).alloc (.cells (recE.all [r]).toArray recE.e)) 46
           rw [HR0.out] at b7
           have h8:=h7.app S7.out T7.out P7.out
           have b8:=b7.keep T7.out h7.out.ne (fun _ hb=>lab_old (v:=45) hb)
           rw [hL7.out] at h8
           exact ⟨_,s9,A7,c7,L7,rfl,by rw [hL7.out,List.length_append,List.length_singleton];omega,b8,by rw [hL7.out];exact HSAY.out r _ _ _ _ h8 (by rw [HR0.out])⟩
        ·have hq0:¬ (0:Int)<(K.room:Int)-((s.q (1-i)).length:Int):=by omega
         have HST:Hid (∀ w2,Fresh wr w2->∃ (D:Nat->Nat) (s:Su.Sy) (A':Option Addr) (c':Nat) (L':List Rec),Value.slice A L.length c=.slice A' L'.length c'/\Hid (Pmp K E Z Kb e n inc v D0 w0 s0 N L0 (i+1) D w2 s A' c' L')):=fun w2 hw=>⟨_,s,A,c,L,rfl,(H.out.old hw).step (.inr (by omega))⟩
         clear H HB hq hle
         generalize ((s.q (1-i)).length:Int)=ql at *
         go_wp2_with (go_at_call 38;(with_reducible refine HRM.out.mono ?_);rintro e w2 ⟨rfl,kk,hw⟩;have F2:Hid (Fresh wr w2):=(by rw [hw];exact (Touch.refl _ _).drewN _);clear hw)
         go_meet
         case rel=>exact HST.out _ F2.out
   case rest =>
    clear H
    obtain ⟨D,s,A,c,L,rfl,H⟩:=hcut
    clear hi3
    go_wp2_with fail
    go_roundg g
    case measure=>omega
    case rel=>exact ⟨i+1,D,s,A,c,L,by omega,by go_num,rfl,H⟩
  |zero =>
   obtain rfl:i=2:=by omega
   go_wp2_with fail
   try rw [Exit.noGoto_ret]
   go_ret
   exact ⟨D,s,A,c,L,rfl,H.out⟩
end
end Go.Proofs.YtlbopdfobgjjaaaGreatDoor

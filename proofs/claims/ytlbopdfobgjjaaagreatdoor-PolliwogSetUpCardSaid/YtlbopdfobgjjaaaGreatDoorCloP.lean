/-
  conn.Conn and its act: what they are in memory · conn: the small functions of an act · conn: the next functions of an act: heard, quit, again, begin, leave · conn: the functions of an act that hear a unit · ring.Ring of units: New, Len, and a row of which nothing is taken. No conditions · slices.Clone of units.
-/
import Derived.Test.YtlbopdfobgjjaaaGreatDoorEvD
import Derived.Test.YtlbopdfobgjjaaaGreatDoorMapD
import Derived.RegionTactic
import Derived.ChangeAlike
import Derived.Deep.RegionLaw
import Derived.Deep.QuietTactic
import Derived.BigQuiet
import Derived.StillTailTactics
import Derived.Deep.DeepCutAuto
import Derived.Deep.CutBlock
import Derived.LoopTactic
import Derived.Test.YtlbopdfobgjjaaaGreatDoorSpanP
import Derived.Lib.SliceRun
set_option maxHeartbeats 1000000
namespace Go.Proofs.YtlbopdfobgjjaaaGreatDoor
open Go.RowKit
def sigE:El Cn.Sig:={ e:=51,size:=5,bytes:=40,zero:=.agg #[.int .i64 0,.string ByteArray.empty,.bool false,.int .u8 0,.int .i64 0],zel:=⟨0,ByteArray.empty,false,0,0⟩,enc:=fun s=>[.int .i64 s.kind,.string s.data,.bool s.self,.int .u8 s.code,.int .i64 s.n],len:=fun _=>rfl,one:=by simp [Value.oneCell'],pos:=by decide,zsize:=rfl,zenc:=rfl }
theorem Tryz.infoSig:(Tryz.prog.info? 51).map (fun i=>(i.zero,i.size,i.bytes))=some (some (.agg #[.int .i64 0,.string ByteArray.empty,.bool false,.int .u8 0,.int .i64 0]),5,40):=by kernel_rfl
def sigV (s:Cn.Sig):Value:=.agg #[.int .i64 s.kind,.string s.data,.bool s.self,.int .u8 s.code,.int .i64 s.n]
def pduE:El Cn.Pd:={ e:=49,size:=8,bytes:=80,zero:=.agg #[.int .i64 0,.int .i64 0,.int .u32 0,.int .u32 0,.int .u32 0,.slice none 0 0,.bool false,.string ByteArray.empty],zel:=⟨0,0,0,0,0,none,0,0,false,ByteArray.empty⟩,enc:=fun s=>[.int .i64 s.kind,.int .i64 s.sq,.int .u32 s.n,.int .u32 s.ps,.int .u32 s.mr,.slice s.lA s.ln s.lc,.bool s.self,.string s.data],len:=fun _=>rfl,one:=by simp [Value.oneCell'],pos:=by decide,zsize:=rfl,zenc:=rfl }
theorem Tryz.infoPdu:(Tryz.prog.info? 49).map (fun i=>(i.zero,i.size,i.bytes))=some (some (.agg #[.int .i64 0,.int .i64 0,.int .u32 0,.int .u32 0,.int .u32 0,.slice none 0 0,.bool false,.string ByteArray.empty]),8,80):=by kernel_rfl
def pduV (s:Cn.Pd):Value:=.agg #[.int .i64 s.kind,.int .i64 s.sq,.int .u32 s.n,.int .u32 s.ps,.int .u32 s.mr,.slice s.lA s.ln s.lc,.bool s.self,.string s.data]
theorem app_sig {ops:Array Oper} {rest:List Oper} {o:Oper} {a:Act} {Q:Exit->Act->World->Prop} {w:World} (hgd:o.guard=none) {s x:Operand}
  (ho:o.op=.call { callee:=.builtin .append,args:=#[s,x],argTypes:=#[81,81] })
  {A A2:Option Addr} {c c2:Nat} {l l2:List Cn.Sig} (es:a.eval s=.slice A l.length c) (ex:a.eval x=.slice A2 l2.length c2)
  (h:Sl sigE w A c l) (h2:Rd sigE w A2 c2 l2) (hm:l.length+l2.length<=1000000000)
  (hK:∀ A' c' L w',Hid (L=l++l2)->Sl sigE w' A' c' L->Touch (fun k=>A.map Addr.block=some k) w w'->(A'.map Addr.block=A.map Addr.block\/A'.map Addr.block=some w.heap.size) ->
   wpList Tryz.prog ops Q rest (a.put o.dst (.slice A' L.length c')) w'):wpList Tryz.prog ops Q (o::rest) a w:=by
 obtain ⟨i0,hi,hz0,hz1,hz2⟩:=info_parts Tryz.infoSig
 exact wpList_app sigE hgd ho i0 Tryz.underlying81 hi hz0 hz1 hz2 es ex h h2 (by simp only [maxLen];omega) (by show _*40<=_;omega) hK
theorem app_pdu {ops:Array Oper} {rest:List Oper} {o:Oper} {a:Act} {Q:Exit->Act->World->Prop} {w:World} (hgd:o.guard=none) {s x:Operand}
  (ho:o.op=.call { callee:=.builtin .append,args:=#[s,x],argTypes:=#[100,100] })
  {A A2:Option Addr} {c c2:Nat} {l l2:List Cn.Pd} (es:a.eval s=.slice A l.length c) (ex:a.eval x=.slice A2 l2.length c2)
  (h:Sl pduE w A c l) (h2:Rd pduE w A2 c2 l2) (hm:l.length+l2.length<=1000000000)
  (hK:∀ A' c' L w',Hid (L=l++l2)->Sl pduE w' A' c' L->Touch (fun k=>A.map Addr.block=some k) w w'->(A'.map Addr.block=A.map Addr.block\/A'.map Addr.block=some w.heap.size) ->
   wpList Tryz.prog ops Q rest (a.put o.dst (.slice A' L.length c')) w'):wpList Tryz.prog ops Q (o::rest) a w:=by
 obtain ⟨i0,hi,hz0,hz1,hz2⟩:=info_parts Tryz.infoPdu
 exact wpList_app pduE hgd ho i0 Tryz.underlying100 hi hz0 hz1 hz2 es ex h h2 (by simp only [maxLen];omega) (by show _*80<=_;omega) hK
theorem stp_sig {ops:Array Oper} {o:Oper} {a:Act} {K:Act->World->Prop} {Q:Exit->Act->World->Prop} {F:Prop} {w:World} (hgd:o.guard=none) {s x:Operand}
  (ho:o.op=.call { callee:=.builtin .append,args:=#[s,x],argTypes:=#[81,81] })
  {A A2:Option Addr} {c c2:Nat} {l l2:List Cn.Sig} (es:a.eval s=.slice A l.length c) (ex:a.eval x=.slice A2 l2.length c2)
  (h:Sl sigE w A c l) (h2:Rd sigE w A2 c2 l2) (hm:l.length+l2.length<=1000000000)
  (hK:∀ A' c' L w',Hid (L=l++l2)->Sl sigE w' A' c' L->Touch (fun k=>A.map Addr.block=some k) w w'->(A'.map Addr.block=A.map Addr.block\/A'.map Addr.block=some w.heap.size) ->
   K (a.put o.dst (.slice A' L.length c')) w'):if Region.wanted o (yielded ops a.tmps)=true then Oper.wp Tryz.prog o a w K Q else F:=by
 obtain ⟨i0,hi,hz0,hz1,hz2⟩:=info_parts Tryz.infoSig
 exact step_app sigE hgd ho i0 Tryz.underlying81 hi hz0 hz1 hz2 es ex h h2 (by simp only [maxLen];omega) (by show _*40<=_;omega) hK
theorem stp_pdu {ops:Array Oper} {o:Oper} {a:Act} {K:Act->World->Prop} {Q:Exit->Act->World->Prop} {F:Prop} {w:World} (hgd:o.guard=none) {s x:Operand}
  (ho:o.op=.call { callee:=.builtin .append,args:=#[s,x],argTypes:=#[100,100] })
  {A A2:Option Addr} {c c2:Nat} {l l2:List Cn.Pd} (es:a.eval s=.slice A l.length c) (ex:a.eval x=.slice A2 l2.length c2)
  (h:Sl pduE w A c l) (h2:Rd pduE w A2 c2 l2) (hm:l.length+l2.length<=1000000000)
  (hK:∀ A' c' L w',Hid (L=l++l2)->Sl pduE w' A' c' L->Touch (fun k=>A.map Addr.block=some k) w w'->(A'.map Addr.block=A.map Addr.block\/A'.map Addr.block=some w.heap.size) ->
   K (a.put o.dst (.slice A' L.length c')) w'):if Region.wanted o (yielded ops a.tmps)=true then Oper.wp Tryz.prog o a w K Q else F:=by
 obtain ⟨i0,hi,hz0,hz1,hz2⟩:=info_parts Tryz.infoPdu
 exact step_app pduE hgd ho i0 Tryz.underlying100 hi hz0 hz1 hz2 es ex h h2 (by simp only [maxLen];omega) (by show _*80<=_;omega) hK
def connCells (s:Cn.S):List Value:=[.int .i64 s.most,.int .u32 s.credit,.int .i64 s.state,.int .i64 s.sq,.int .i64 s.peer,.int .i64 s.cc,.int .u32 s.ms,.string s.data]
def ConnAt (w:World) (c:Nat) (s:Cn.S):Prop:=Blk w c 155 (connCells s)
structure ActAt (K:Nat->Prop) (n:Nat) (w:World) (a c:Nat) (x:Cn.SR) (A1:Option Addr) (c1:Nat) (A2:Option Addr) (c2:Nat):Prop where
 lim:∀ k,K k->k<w.heap.size
 nc:¬ K c
 na:¬ K a
 blk:Blk w a 228 [.pointer (some ⟨c,0,none⟩),.slice A1 x.2.sigs.length c1,.slice A2 x.2.units.length c2,.bool x.2.begins,.bool x.2.ends,.int .u32 x.2.ms,.int .i64 x.2.timer]
 conn:ConnAt w c x.1
 sigs:Sl sigE w A1 c1 x.2.sigs
 units:Sl pduE w A2 c2 x.2.units
 b1:∀ ad,A1=some ad->¬ K ad.block
 b2:∀ ad,A2=some ad->¬ K ad.block
 few:Cn.Few n x
 ok:Cn.Ok x.1
def InAct (K:Nat->Prop) (n:Nat) (w:World) (a c:Nat) (x:Cn.SR):Prop:=∃ A1 c1 A2 c2,ActAt K n w a c x A1 c1 A2 c2
def Kept (K:Nat->Prop) (W w:World) (k:Nat):Prop:=K k\/W.heap.size<=k/\k<w.heap.size
def OfAct (K:Nat->Prop) (k:Nat):Prop:=¬ K k
section
variable {K:Nat->Prop} {n m:Nat} {w w':World} {a c:Nat} {x y:Cn.SR} {A1 A2:Option Addr} {c1 c2:Nat}
theorem ActAt.ne (h:ActAt K n w a c x A1 c1 A2 c2):c ≠ a:=Blk.ne_ h.conn h.blk (by decide)
theorem ActAt.n1 (h:ActAt K n w a c x A1 c1 A2 c2):∀ ad,A1=some ad->ad.block ≠ a/\ad.block ≠ c:=fun ad e=>⟨h.sigs.blk_ne h.blk (by decide) ad e,h.sigs.blk_ne h.conn (by decide) ad e⟩
theorem ActAt.n2 (h:ActAt K n w a c x A1 c1 A2 c2):∀ ad,A2=some ad->ad.block ≠ a/\ad.block ≠ c:=fun ad e=>⟨h.units.blk_ne h.blk (by decide) ad e,h.units.blk_ne h.conn (by decide) ad e⟩
theorem ActAt.touch {T:Nat->Prop} (h:ActAt K n w a c x A1 c1 A2 c2) (ht:Touch T w w') (ha:¬ T a) (hc:¬ T c) (h1:∀ ad,A1=some ad->¬ T ad.block) (h2:∀ ad,A2=some ad->¬ T ad.block):ActAt K n w' a c x A1 c1 A2 c2:=
 ⟨fun k hk=>Nat.lt_of_lt_of_le (h.lim k hk) ht.size,h.nc,h.na,ht.blk h.blk ha,ht.blk h.conn hc,h.sigs.touch ht h1,h.units.touch ht h2,h.b1,h.b2,h.few,h.ok⟩
theorem ActAt.old (h:ActAt K n w a c x A1 c1 A2 c2) (ht:Fresh w w'):ActAt K n w' a c x A1 c1 A2 c2:=h.touch ht (fun h=>h) (fun h=>h) (fun _ _ h=>h) (fun _ _ h=>h)
theorem ActAt.wide (h:ActAt K n w a c x A1 c1 A2 c2) (hm:n<=m):ActAt K m w a c x A1 c1 A2 c2:=
 ⟨h.lim,h.nc,h.na,h.blk,h.conn,h.sigs,h.units,h.b1,h.b2,⟨Nat.le_trans h.few.1 hm,Nat.le_trans h.few.2 hm⟩,h.ok⟩
theorem ActAt.conn1 {s:Cn.S} (h:ActAt K n w a c x A1 c1 A2 c2) (i:Nat) (u:Value) (hc:(connCells x.1).set i u=connCells s) (hok:Cn.Ok s):ActAt K n (w.setCell ⟨c,i,none⟩ u) a c (s,x.2) A1 c1 A2 c2:=
 ⟨fun k hk=>by have:=h.lim k hk;simpa using this,h.nc,h.na,h.blk.far (fun e=>h.ne e.symm) _,by have:=h.conn.set i u;unfold ConnAt;rw [<- hc];exact this,h.sigs.setCell (p:=⟨c,i,none⟩) (fun ad e=>(h.n1 ad e).2) _,h.units.setCell (p:=⟨c,i,none⟩) (fun ad e=>(h.n2 ad e).2) _,h.b1,h.b2,h.few,hok⟩
theorem ActAt.act1 {r:Cn.R} (h:ActAt K n w a c x A1 c1 A2 c2) (i:Nat) (u:Value)
  (hc:[Value.pointer (some ⟨c,0,none⟩),.slice A1 x.2.sigs.length c1,.slice A2 x.2.units.length c2,.bool x.2.begins,.bool x.2.ends,.int .u32 x.2.ms,.int .i64 x.2.timer].set i u=[.pointer (some ⟨c,0,none⟩),.slice A1 r.sigs.length c1,.slice A2 r.units.length c2,.bool r.begins,.bool r.ends,.int .u32 r.ms,.int .i64 r.timer])
  (h1:r.sigs=x.2.sigs) (h2:r.units=x.2.units):ActAt K n (w.setCell ⟨a,i,none⟩ u) a c (x.1,r) A1 c1 A2 c2:=by
 refine ⟨fun k hk=>by have:=h.lim k hk;simpa using this,h.nc,h.na,hc ▸ h.blk.set i u,h.conn.far (by exact h.ne) _,?_,?_,h.b1,h.b2,?_,h.ok⟩
 ·simp only [h1];exact h.sigs.setCell (p:=⟨a,i,none⟩) (fun ad e=>(h.n1 ad e).1) _
 ·simp only [h2];exact h.units.setCell (p:=⟨a,i,none⟩) (fun ad e=>(h.n2 ad e).1) _
 ·unfold Cn.Few;simp only [h1,h2];exact h.few
theorem ActAt.sigs_ne (h:ActAt K n w a c x A1 c1 A2 c2):∀ ad,A1=some ad->∀ ad',A2=some ad'->ad.block ≠ ad'.block:=fun ad e ad' e'=>by
 obtain ⟨_,cs,hb,_⟩:=h.units.2.2.2 ad' e'
 exact h.sigs.blk_ne hb (by decide) ad e
theorem ActAt.told {A':Option Addr} {c':Nat} {L:List Cn.Sig} {s:Cn.Sig} {W:World} (h:ActAt K n w a c x A1 c1 A2 c2) (ht0:Fresh w W) (hL:L=x.2.sigs++[s]) (hs:Sl sigE w' A' c' L) (ht:Touch (fun k=>A1.map Addr.block=some k) W w') (hA:A'.map Addr.block=A1.map Addr.block\/A'.map Addr.block=some W.heap.size) :
  ActAt K (n+1) (w'.setCell ⟨a,1,none⟩ (.slice A' L.length c')) a c (Cn.tell x s) A' c' A2 c2/\Touch (OfAct K) w (w'.setCell ⟨a,1,none⟩ (.slice A' L.length c'))/\w'.frozen? ⟨a,1,none⟩=false/\w'.cell? ⟨a,1,none⟩=some (.slice A1 x.2.sigs.length c1):=by
 have hB:a<w.heap.size:=h.blk.lt
 have hq:=ht0.size
 have h0:=h.old ht0
 have nT:∀ k,(∀ ad,A1=some ad->ad.block ≠ k)->¬ A1.map Addr.block=some k:=fun k hk e=>by
  cases A1 with
  |none=>cases e
  |some ad=>injection e with e;exact hk ad rfl e
 have hb2:Blk w' a 228 _:=ht.blk h0.blk (nT _ fun ad e=>(h.n1 ad e).1)
 have hc2:ConnAt w' c x.1:=ht.blk h0.conn (nT _ fun ad e=>(h.n1 ad e).2)
 have hu2:Sl pduE w' A2 c2 x.2.units:=h0.units.touch ht fun ad e=>nT _ fun ad' e'=>h.sigs_ne ad' e' ad e
 have hA':∀ ad,A'=some ad->¬ K ad.block:=fun ad e=>by
  subst e
  rcases hA with e | e
  ·cases A1 with
   |none=>cases e
   |some ad'=>have:=h.b1 ad' rfl;simp at e;rw [e];exact this
  ·intro hk;have:=h.lim _ hk;simp at e;omega
 subst hL
 refine ⟨⟨fun k hk=>by have:=h.lim k hk;have:=ht.size;have:=ht0.size;simp;omega,h.nc,h.na,hb2.set 1 _,hc2.far (by exact h.ne) _,hs.setCell (p:=⟨a,1,none⟩) (hs.blk_ne hb2 (by decide)) _,hu2.setCell (p:=⟨a,1,none⟩) (fun ad e=>(h.n2 ad e).1) _,hA',h.b2,⟨?_,?_⟩,h.ok⟩,?_,hb2.frozen 1,hb2.cell 1⟩
 ·have:=h.few.1;simp [Cn.tell];omega
 ·have:=h.few.2;simp [Cn.tell];omega
 ·refine Touch.st ((ht0.mono fun _ _ e=>e.elim).trans ht fun k _ e=>?_) h.na
  cases A1 with
  |none=>cases e
  |some ad=>injection e with e;exact e ▸ h.b1 ad rfl
theorem ActAt.sent {A':Option Addr} {c':Nat} {L:List Cn.Pd} {p q:Cn.Pd} {W:World} (h:ActAt K n w a c x A1 c1 A2 c2) (ht0:Fresh w W) (hq:q=Cn.crd x.1 p) (hL:L=x.2.units++[q]) (hs:Sl pduE w' A' c' L) (ht:Touch (fun k=>A2.map Addr.block=some k) W w') (hA:A'.map Addr.block=A2.map Addr.block\/A'.map Addr.block=some W.heap.size) :
  ActAt K (n+1) (w'.setCell ⟨a,2,none⟩ (.slice A' L.length c')) a c (Cn.out x p) A1 c1 A' c'/\Touch (OfAct K) w (w'.setCell ⟨a,2,none⟩ (.slice A' L.length c'))/\w'.frozen? ⟨a,2,none⟩=false/\w'.cell? ⟨a,2,none⟩=some (.slice A2 x.2.units.length c2):=by
 have hB:a<w.heap.size:=h.blk.lt
 have hqs:=ht0.size
 have h0:=h.old ht0
 have nT:∀ k,(∀ ad,A2=some ad->ad.block ≠ k)->¬ A2.map Addr.block=some k:=fun k hk e=>by
  cases A2 with
  |none=>cases e
  |some ad=>injection e with e;exact hk ad rfl e
 have hb2:Blk w' a 228 _:=ht.blk h0.blk (nT _ fun ad e=>(h.n2 ad e).1)
 have hc2:ConnAt w' c x.1:=ht.blk h0.conn (nT _ fun ad e=>(h.n2 ad e).2)
 have hu2:Sl sigE w' A1 c1 x.2.sigs:=h0.sigs.touch ht fun ad e=>nT _ fun ad' e'=>fun e''=>h.sigs_ne ad e ad' e' e''.symm
 have hA':∀ ad,A'=some ad->¬ K ad.block:=fun ad e=>by
  subst e
  rcases hA with e | e
  ·cases A2 with
   |none=>cases e
   |some ad'=>have:=h.b2 ad' rfl;simp at e;rw [e];exact this
  ·intro hk;have:=h.lim _ hk;simp at e;omega
 subst hL hq
 refine ⟨⟨fun k hk=>by have:=h.lim k hk;have:=ht.size;have:=ht0.size;simp;omega,h.nc,h.na,hb2.set 2 _,hc2.far (by exact h.ne) _,hu2.setCell (p:=⟨a,2,none⟩) (fun ad e=>(h.n1 ad e).1) _,hs.setCell (p:=⟨a,2,none⟩) (hs.blk_ne hb2 (by decide)) _,h.b1,hA',⟨?_,?_⟩,h.ok⟩,?_,hb2.frozen 2,hb2.cell 2⟩
 ·have:=h.few.1;simp [Cn.out];omega
 ·have:=h.few.2;simp [Cn.out];omega
 ·refine Touch.st ((ht0.mono fun _ _ e=>e.elim).trans ht fun k _ e=>?_) h.na
  cases A2 with
  |none=>cases e
  |some ad=>injection e with e;exact e ▸ h.b2 ad rfl
theorem InAct.old (h:InAct K n w a c x) (ht:Fresh w w'):InAct K n w' a c x:=by
 obtain ⟨A1,c1,A2,c2,h⟩:=h
 exact ⟨A1,c1,A2,c2,h.old ht⟩
theorem ActAt.less {K':Nat->Prop} (h:ActAt K n w a c x A1 c1 A2 c2) (hk:∀ k,K' k->K k):ActAt K' n w a c x A1 c1 A2 c2:=
 ⟨fun k e=>h.lim k (hk k e),fun e=>h.nc (hk _ e),fun e=>h.na (hk _ e),h.blk,h.conn,h.sigs,h.units,fun ad e e'=>h.b1 ad e (hk _ e'),fun ad e e'=>h.b2 ad e (hk _ e'),h.few,h.ok⟩
theorem InAct.less {K':Nat->Prop} (h:InAct K n w a c x) (hk:∀ k,K' k->K k):InAct K' n w a c x:=by
 obtain ⟨A1,c1,A2,c2,h⟩:=h
 exact ⟨A1,c1,A2,c2,h.less hk⟩
theorem InAct.wide (h:InAct K n w a c x) (hm:n<=m):InAct K m w a c x:=by
 obtain ⟨A1,c1,A2,c2,h⟩:=h
 exact ⟨A1,c1,A2,c2,h.wide hm⟩
theorem InAct.keep {W:World} (h:InAct K n W a c x) (ht:Fresh W w):InAct (Kept K W w) n w a c x:=by
 obtain ⟨A1,c1,A2,c2,h⟩:=h
 have h':=h.old ht
 have l1:=h.blk.lt
 have l2:c<W.heap.size:=Blk.lt h.conn
 refine ⟨A1,c1,A2,c2,fun k e=>?_,fun e=>?_,fun e=>?_,h'.blk,h'.conn,h'.sigs,h'.units,fun ad e e'=>?_,fun ad e e'=>?_,h.few,h.ok⟩
 ·rcases e with e | e
  ·exact h'.lim k e
  ·exact e.2
 ·rcases e with e | e
  ·exact h.nc e
  ·omega
 ·rcases e with e | e
  ·exact h.na e
  ·omega
 ·have:=h.sigs.lt ad e
  rcases e' with e' | e'
  ·exact h.b1 ad e e'
  ·omega
 ·have:=h.units.lt ad e
  rcases e' with e' | e'
  ·exact h.b2 ad e e'
  ·omega
theorem Touch.loose {K':Nat->Prop} (h:Touch (OfAct K) w w') (hk:∀ k,K' k->K k):Touch (OfAct K') w w':=h.mono fun k _ e e'=>e (hk k e')
theorem Touch.keptB {g:Nat} {t:TypeId} {cs:List Value} (h:Touch (OfAct K) w w') (hb:Blk w g t cs) (hk:K g):Blk w' g t cs:=h.blk hb (fun e=>e hk)
theorem InAct.done (h:InAct K n w' a c x/\Touch (OfAct K) w w'):InAct K n w'.drew a c x/\Touch (OfAct K) w w'.drew:=⟨h.1.old (Touch.refl _ _).drew,h.2.drew⟩
theorem InAct.eq (h:InAct K n w a c x) (e:x=y):InAct K n w a c y:=e ▸ h
end
theorem tell_any {K:Nat->Prop} {n:Nat} {w:World} {a c:Nat} {x:Cn.SR} (h:InAct K n w a c x) (hn:n<=90) (s:Cn.Sig) :
  Calls Tryz.prog 110 #[.pointer (some ⟨a,0,none⟩),sigV s] w fun e w'=>e=.returned (.tuple #[])/\InAct K (n+1) w' a c (Cn.tell x s)/\Touch (OfAct K) w w':=by
 obtain ⟨A1,c1,A2,c2,h⟩:=h
 unfold sigV
 have HA:=lh h
 have hl:=h.few.1
 have k1:∀ o,(w.alloc o).cell? ⟨a,1,none⟩=some (.slice A1 x.2.sigs.length c1):=fun o=>(HA.out.blk.alloc o).cell 1
 have k2:∀ o o',((w.alloc o).alloc o').cell? ⟨a,1,none⟩=some (.slice A1 x.2.sigs.length c1):=fun o o'=>((HA.out.blk.alloc o).alloc o').cell 1
 clear h
 go_enter Tryz.func110,Tryz.ntmps110
 go_wp2
 go_region_law (first
  |(refine stp_sig rfl rfl (l:=x.2.sigs) (l2:=[s]) rfl rfl (by exact (HA.out.sigs.alloc _).alloc _) (by exact Sl.rd (Sl.lit sigE (w.alloc _) _ (by simp) _ [s] rfl _ rfl (by decide))) (by simp;omega) ?_;intro A3 c3 L3 w3 hL3 hs3 ht3 hA3
    obtain ⟨I3,T3,q3,z3⟩:=HA.out.told ((((Touch.refl (fun _=>False) w).alloc _).alloc _).drew) hL3.out hs3 ht3 hA3
    have HI3:=lh I3
    have HT3:=lh T3
    clear I3 T3 hs3 ht3 hA3 hL3))
 all_goals
  go_wp2
  go_end0
  exact ⟨rfl,⟨_,_,_,_,HI3.out⟩,HT3.out⟩
theorem to_any' {K:Nat->Prop} {n:Nat} {w:World} {a c:Nat} {x:Cn.SR} (h:InAct K n w a c x) (st:Int) :
  Calls Tryz.prog 114 #[.pointer (some ⟨a,0,none⟩),.int .i64 st] w fun e w'=>e=.returned (.tuple #[])/\InAct K n w' a c (Cn.to x st)/\Touch (OfAct K) w w':=by
 obtain ⟨A1,c1,A2,c2,h⟩:=h
 have HA:=lh h
 have hne:¬ a=c:=fun e=>h.ne e.symm
 have hne':¬ c=a:=h.ne
 have k0:w.cell? ⟨a,0,none⟩=some (.pointer (some ⟨c,0,none⟩)):=h.blk.cell 0
 have k4:w.cell? ⟨a,4,none⟩=some (.bool x.2.ends):=h.blk.cell 4
 have s2:w.cell? ⟨c,2,none⟩=some (.int .i64 x.1.state):=h.conn.cell 2
 have f4:=h.blk.frozen 4
 have f2:=h.conn.frozen 2
 obtain ⟨S1,hS⟩:=qx x.1.state
 obtain ⟨E1,hE⟩:=qx x.2.ends
 have HR:Hid (∀ b,(E1 || S1==10)=b->InAct K n ((w.setCell ⟨a,4,none⟩ (.bool b)).setCell ⟨c,2,none⟩ (.int .i64 st)) a c (Cn.to x st)/\Touch (OfAct K) w ((w.setCell ⟨a,4,none⟩ (.bool b)).setCell ⟨c,2,none⟩ (.int .i64 st))):=by
  intro b hb
  rw [<- hE,<- hS] at hb
  subst hb
  exact ⟨⟨_,_,_,_,(h.act1 (r:={ x.2 with ends:=x.2.ends || x.1.state==10 }) 4 (.bool (x.2.ends || x.1.state==10)) rfl rfl rfl).conn1 (s:={ x.1 with state:=st }) 2 (.int .i64 st) rfl ⟨h.ok.sq0,h.ok.sq1,h.ok.cc0,h.ok.cc1,h.ok.most0,h.ok.most1⟩⟩,((Touch.refl _ _).st h.na).st h.nc⟩
 rw [hE] at k4
 rw [hS] at s2
 clear h hS hE
 cases E1
 ·by_cases h10:S1=10
  ·subst h10
   have HX:=lh (HR.out true rfl)
   clear HR
   go_enter Tryz.func114,Tryz.ntmps114
   go_wp2
   go_end0
   exact ⟨rfl,HX.out⟩
  ·have hb:(S1==10)=false:=by simpa using h10
   have HX:=lh (HR.out false (by rw [hb];rfl))
   clear HR
   go_enter Tryz.func114,Tryz.ntmps114
   go_wp2
   go_end0
   exact ⟨rfl,HX.out⟩
 ·have HX:=lh (HR.out true rfl)
  clear HR
  go_enter Tryz.func114,Tryz.ntmps114
  go_wp2
  go_end0
  exact ⟨rfl,HX.out⟩
theorem stop_any {K:Nat->Prop} {n:Nat} {w:World} {a c:Nat} {x:Cn.SR} (h:InAct K n w a c x) (_hn:n<=90) (st:Int) :
  Calls Tryz.prog 112 #[.pointer (some ⟨a,0,none⟩),.int .i64 st] w fun e w'=>e=.returned (.tuple #[])/\InAct K n w' a c (Cn.stop x st)/\Touch (OfAct K) w w':=by
 go_enter Tryz.func112,Tryz.ntmps112
 go_wp2_with fail
 refine (to_any' h st).mono ?_
 rintro e w1 ⟨rfl,⟨A1,c1,A2,c2,h1⟩,t1⟩
 have HT:=lh t1
 have k6:w1.cell? ⟨a,6,none⟩=some (.int .i64 (Cn.to x st).2.timer):=h1.blk.cell 6
 have fk6:=h1.blk.frozen 6
 have HX:Hid (InAct K n (w1.setCell ⟨a,6,none⟩ (.int .i64 2)) a c (Cn.stop x st)/\Touch (OfAct K) w (w1.setCell ⟨a,6,none⟩ (.int .i64 2))):=
  ⟨⟨_,_,_,_,h1.act1 (r:={ (Cn.to x st).2 with timer:=2 }) 6 (.int .i64 2) rfl rfl rfl⟩,HT.out.st h1.na⟩
 clear h1 t1
 go_wp2
 go_end0
 exact ⟨rfl,HX.out⟩
theorem ready_any {K:Nat->Prop} {n:Nat} {w:World} {a c:Nat} {x:Cn.SR} (h:InAct K n w a c x) (hn:n<=90) :
  Calls Tryz.prog 165 #[.pointer (some ⟨a,0,none⟩)] w fun e w'=>e=.returned (.tuple #[])/\InAct K n w' a c (Cn.ready x)/\Touch (OfAct K) w w':=by
 go_enter Tryz.func165,Tryz.ntmps165
 go_wp2_with fail
 refine (stop_any h hn 10).mono ?_
 rintro e w1 ⟨rfl,⟨A1,c1,A2,c2,h1⟩,t1⟩
 have HT:=lh t1
 have hne:¬ a=c:=fun e=>h1.ne e.symm
 have hne':¬ c=a:=h1.ne
 have k0:w1.cell? ⟨a,0,none⟩=some (.pointer (some ⟨c,0,none⟩)):=h1.blk.cell 0
 have k3:w1.cell? ⟨a,3,none⟩=some (.bool (Cn.stop x 10).2.begins):=h1.blk.cell 3
 have k5:w1.cell? ⟨a,5,none⟩=some (.int .u32 (Cn.stop x 10).2.ms):=h1.blk.cell 5
 have s6:w1.cell? ⟨c,6,none⟩=some (.int .u32 (Cn.stop x 10).1.ms):=h1.conn.cell 6
 have fk3:=h1.blk.frozen 3
 have fk5:=h1.blk.frozen 5
 have HX:Hid (InAct K n ((w1.setCell ⟨a,3,none⟩ (.bool true)).setCell ⟨a,5,none⟩ (.int .u32 (Cn.stop x 10).1.ms)) a c (Cn.ready x)/\Touch (OfAct K) w ((w1.setCell ⟨a,3,none⟩ (.bool true)).setCell ⟨a,5,none⟩ (.int .u32 (Cn.stop x 10).1.ms))):=
  ⟨⟨_,_,_,_,(h1.act1 (r:={ (Cn.stop x 10).2 with begins:=true }) 3 (.bool true) rfl rfl rfl).act1 (r:={ (Cn.stop x 10).2 with begins:=true,ms:=(Cn.stop x 10).1.ms }) 5 (.int .u32 (Cn.stop x 10).1.ms) rfl rfl rfl⟩,(HT.out.st h1.na).st h1.na⟩
 clear h1 t1
 generalize (Cn.stop x 10).1.ms=m at *
 generalize (Cn.stop x 10).2.ms=m2 at *
 generalize (Cn.stop x 10).2.begins=m3 at *
 go_wp2
 go_end0
 exact ⟨rfl,HX.out⟩
theorem report_any {K:Nat->Prop} {n:Nat} {w:World} {a c:Nat} {x:Cn.SR} (h:InAct K n w a c x) (hn:n<=90) (code:Int) :
  Calls Tryz.prog 109 #[.pointer (some ⟨a,0,none⟩),.int .u8 code] w fun e w'=>e=.returned (.tuple #[])/\InAct K (n+1) w' a c (Cn.report x code)/\Touch (OfAct K) w w':=by
 have HT:Hid (∀ w1,w1=w->_):=fun w1 (e:w1=w)=>tell_any (e ▸ h) hn ⟨12,ByteArray.empty,false,code,0⟩
 go_enter Tryz.func109,Tryz.ntmps109
 go_wp2_with fail
 refine (HT.out _ rfl).mono ?_
 rintro e w1 ⟨rfl,h1⟩
 have HX:=lh h1
 clear h1
 go_wp2
 go_end0
 exact ⟨rfl,HX.out⟩
theorem out_any {K:Nat->Prop} {n:Nat} {w:World} {a c:Nat} {x:Cn.SR} (h:InAct K n w a c x) (hn:n<=90) (p:Cn.Pd) :
  Calls Tryz.prog 162 #[.pointer (some ⟨a,0,none⟩),pduV p] w fun e w'=>e=.returned (.tuple #[])/\InAct K (n+1) w' a c (Cn.out x p)/\Touch (OfAct K) w w':=by
 obtain ⟨A1,c1,A2,c2,h⟩:=h
 have HA:=lh h
 have hne:¬ a=c:=fun e=>h.ne e.symm
 have hne':¬ c=a:=h.ne
 unfold pduV
 have hl:=h.few.2
 obtain ⟨k,hk⟩:=qx p.kind
 have b0:Blk (w.alloc (.cells #[.int .i64 k,.int .i64 p.sq,.int .u32 p.n,.int .u32 p.ps,.int .u32 p.mr,.slice p.lA p.ln p.lc,.bool p.self,.string p.data] 49)) w.heap.size 49 [.int .i64 k,.int .i64 p.sq,.int .u32 p.n,.int .u32 p.ps,.int .u32 p.mr,.slice p.lA p.ln p.lc,.bool p.self,.string p.data]:=Blk.new _ _ _
 have HB:=lh b0
 have HF:Hid (Fresh w (w.alloc (.cells #[.int .i64 k,.int .i64 p.sq,.int .u32 p.n,.int .u32 p.ps,.int .u32 p.mr,.slice p.lA p.ln p.lc,.bool p.self,.string p.data] 49))):=(Touch.refl _ w).alloc _
 have HC:Hid (Cn.crd x.1 p=if Cn.has k then { p with n:=x.1.credit } else p):=by rw [<- hk];rfl
 rw [hk]
 clear b0 h
 go_enter Tryz.func162,Tryz.ntmps162
 go_upto_region 1 with (fail)
 have HG:Hid (∀ ad,w.heap.size ≠ a/\w.heap.size ≠ c/\(A1=some ad->ad.block ≠ w.heap.size)/\(A2=some ad->ad.block ≠ w.heap.size)):=fun ad=>by
  have h1:=HA.out.blk.lt
  have h2:=HA.out.conn.lt
  exact ⟨by omega,by omega,fun e=>by have:=HA.out.sigs.lt ad e;omega,fun e=>by have:=HA.out.units.lt ad e;omega⟩
 have HA1:=lh (HA.out.old HF.out)
 have HSZ:Hid (w.heap.size<=w.heap.size):=Nat.le_refl _
 generalize hw1:w.alloc (.cells #[.int .i64 k,.int .i64 p.sq,.int .u32 p.n,.int .u32 p.ps,.int .u32 p.mr,.slice p.lA p.ln p.lc,.bool p.self,.string p.data] 49)=w1 at *
 clear hw1
 generalize hg:w.heap.size=g at *
 have HGE:=lh hg
 clear hg
 have c0:w1.cell? ⟨g,0,none⟩=some (.int .i64 k):=HB.out.cell 0
 have c2':w1.cell? ⟨g,2,none⟩=some (.int .u32 p.n):=HB.out.cell 2
 have fg2:=HB.out.frozen 2
 have k0:w1.cell? ⟨a,0,none⟩=some (.pointer (some ⟨c,0,none⟩)):=HA1.out.blk.cell 0
 have s1:w1.cell? ⟨c,1,none⟩=some (.int .u32 x.1.credit):=HA1.out.conn.cell 1
 go_upto_block 0 with (fail)
 go_cut [] (fun wx=>∃ m:Int,Hid (m=if Cn.has k then x.1.credit else p.n)/\Hid (Blk wx g 49 [.int .i64 k,.int .i64 p.sq,.int .u32 m,.int .u32 p.ps,.int .u32 p.mr,.slice p.lA p.ln p.lc,.bool p.self,.string p.data])/\Hid (Touch (· = g) w1 wx))
 case first =>
  have HS:Hid (Blk (w1.setCell ⟨g,2,none⟩ (.int .u32 x.1.credit)) g 49 [.int .i64 k,.int .i64 p.sq,.int .u32 x.1.credit,.int .u32 p.ps,.int .u32 p.mr,.slice p.lA p.ln p.lc,.bool p.self,.string p.data]):=HB.out.set 2 _
  have HT1:Hid (Touch (· = g) w1 (w1.setCell ⟨g,2,none⟩ (.int .u32 x.1.credit))):=Touch.set1 _ _ _ _
  have HT0:Hid (Touch (· = g) w1 w1):=Touch.refl _ _
  by_cases e1:k=1
  ·subst e1
   go_wp2
   go_meet
   case rel=>exact ⟨_,rfl,HS,HT1⟩
  by_cases e2:k=2
  ·subst e2
   go_wp2
   go_meet
   case rel=>exact ⟨_,rfl,HS,HT1⟩
  by_cases e3:k=5
  ·subst e3
   go_wp2
   go_meet
   case rel=>exact ⟨_,rfl,HS,HT1⟩
  by_cases e4:k=6
  ·subst e4
   go_wp2
   go_meet
   case rel=>exact ⟨_,rfl,HS,HT1⟩
  by_cases e5:k=9
  ·subst e5
   go_wp2
   go_meet
   case rel=>exact ⟨_,rfl,HS,HT1⟩
  by_cases e6:k=15
  ·subst e6
   go_wp2
   go_meet
   case rel=>exact ⟨_,rfl,HS,HT1⟩
  have HN:Hid (Cn.has k=false):=by simp [Hid,Cn.has,e1,e2,e3,e4,e5,e6]
  have b1:(k==1)=false:=by simpa using e1
  have b2:(k==2)=false:=by simpa using e2
  have b3:(k==5)=false:=by simpa using e3
  have b4:(k==6)=false:=by simpa using e4
  have b5:(k==9)=false:=by simpa using e5
  have b6:(k==15)=false:=by simpa using e6
  go_wp2
  go_meet
  case rel=>exact ⟨p.n,by unfold Hid;rw [HN.out];rfl,HB,HT0⟩
 case rest =>
  obtain ⟨m,hm,hb,ht⟩:=hcut
  have HQ:Hid ((⟨k,p.sq,m,p.ps,p.mr,p.lA,p.ln,p.lc,p.self,p.data⟩:Cn.Pd)=Cn.crd x.1 p):=by
   unfold Hid
   rw [HC.out,hm.out,<- hk]
   split <;> rfl
  have HA2:=lh (HA1.out.touch ht.out (fun e=>(HG.out ⟨0,0,none⟩).1 e.symm) (fun e=>(HG.out ⟨0,0,none⟩).2.1 e.symm) (fun ad e=>(HG.out ad).2.2.1 e) (fun ad e=>(HG.out ad).2.2.2 e))
  have HF2:Hid (Fresh w wc):=HF.out.trans ht.out (fun j hj e=>by have:=HGE.out;omega)
  have d0:=hb.out.cell 0
  have d1:=hb.out.cell 1
  have d2:=hb.out.cell 2
  have d3:=hb.out.cell 3
  have d4:=hb.out.cell 4
  have d5:=hb.out.cell 5
  have d6:=hb.out.cell 6
  have d7:=hb.out.cell 7
  simp only [List.getElem?_cons_zero,List.getElem?_cons_succ] at d0 d1 d2 d3 d4 d5 d6 d7
  have j1:∀ o,(wc.alloc o).cell? ⟨a,2,none⟩=some (.slice A2 x.2.units.length c2):=fun o=>(HA2.out.blk.alloc o).cell 2
  have j0:wc.cell? ⟨a,2,none⟩=some (.slice A2 x.2.units.length c2):=HA2.out.blk.cell 2
  clear c0 c2' fg2 k0 s1
  go_upto_region 9 with (fail)
  go_region_law (first
   |(refine stp_pdu rfl rfl (l:=x.2.units) (l2:=[⟨k,p.sq,m,p.ps,p.mr,p.lA,p.ln,p.lc,p.self,p.data⟩]) rfl rfl (by exact HA2.out.units.alloc _) (by exact Sl.rd (Sl.lit pduE wc _ (by simp) _ [⟨k,p.sq,m,p.ps,p.mr,p.lA,p.ln,p.lc,p.self,p.data⟩] rfl _ rfl (by decide))) (by simp;omega) ?_;intro A3 c3 L3 w3 hL3 hs3 ht3 hA3
     obtain ⟨I3,T3,q3,z3⟩:=HA2.out.sent (((Touch.refl (fun _=>False) wc).alloc _).drew) HQ.out hL3.out hs3 ht3 hA3
     have HI3:=lh I3
     have HT3:Hid (Touch (OfAct K) w (w3.setCell ⟨a,2,none⟩ (.slice A3 L3.length c3))):=(HF2.out.mono (fun _ _ e=>e.elim)).trans T3 (fun _ _ e=>e)
     clear I3 T3 hs3 ht3 hA3 hL3))
  all_goals
   go_wp2
   go_end0
   exact ⟨rfl,⟨_,_,_,_,HI3.out⟩,HT3.out⟩
theorem heard_any {K:Nat->Prop} {n:Nat} {w:World} {a c:Nat} {x:Cn.SR} (h:InAct K n w a c x) (_hn:n<=90) (p:Cn.Pd) :
  Calls Tryz.prog 245 #[.pointer (some ⟨a,0,none⟩),pduV p] w fun e w'=>e=.returned (.tuple #[])/\InAct K n w' a c (Cn.heard x p)/\Touch (OfAct K) w w':=by
 obtain ⟨A1,c1,A2,c2,h⟩:=h
 have HA:=lh h
 have hne:¬ a=c:=fun e=>h.ne e.symm
 have hne':¬ c=a:=h.ne
 unfold pduV
 have HX:Hid (InAct K n (((w.alloc (.cells #[.int .i64 p.kind,.int .i64 p.sq,.int .u32 p.n,.int .u32 p.ps,.int .u32 p.mr,.slice p.lA p.ln p.lc,.bool p.self,.string p.data] 49)).setCell ⟨c,4,none⟩ (.int .i64 p.sq)).setCell ⟨c,6,none⟩ (.int .u32 p.n)) a c (Cn.heard x p)/\Touch (OfAct K) w (((w.alloc (.cells #[.int .i64 p.kind,.int .i64 p.sq,.int .u32 p.n,.int .u32 p.ps,.int .u32 p.mr,.slice p.lA p.ln p.lc,.bool p.self,.string p.data] 49)).setCell ⟨c,4,none⟩ (.int .i64 p.sq)).setCell ⟨c,6,none⟩ (.int .u32 p.n))):=by
  have h0:=h.old ((Touch.refl (fun _=>False) w).alloc (.cells #[.int .i64 p.kind,.int .i64 p.sq,.int .u32 p.n,.int .u32 p.ps,.int .u32 p.mr,.slice p.lA p.ln p.lc,.bool p.self,.string p.data] 49))
  have ok':Cn.Ok { x.1 with peer:=p.sq }:=⟨h.ok.sq0,h.ok.sq1,h.ok.cc0,h.ok.cc1,h.ok.most0,h.ok.most1⟩
  have h1:=h0.conn1 (s:={ x.1 with peer:=p.sq }) 4 (.int .i64 p.sq) rfl ok'
  have h2:=h1.conn1 (s:={ x.1 with peer:=p.sq,ms:=p.n }) 6 (.int .u32 p.n) rfl ⟨h.ok.sq0,h.ok.sq1,h.ok.cc0,h.ok.cc1,h.ok.most0,h.ok.most1⟩
  exact ⟨⟨_,_,_,_,h2⟩,(((Touch.refl _ _).alloc _).st h.nc).st h.nc⟩
 have k0:∀ o,(w.alloc o).cell? ⟨a,0,none⟩=some (.pointer (some ⟨c,0,none⟩)):=fun o=>(HA.out.blk.alloc o).cell 0
 have s4:∀ o,(w.alloc o).cell? ⟨c,4,none⟩=some (.int .i64 x.1.peer):=fun o=>Blk.cell (Blk.alloc HA.out.conn o) 4
 have s6:∀ o,(w.alloc o).cell? ⟨c,6,none⟩=some (.int .u32 x.1.ms):=fun o=>Blk.cell (Blk.alloc HA.out.conn o) 6
 have f4:∀ o,(w.alloc o).frozen? ⟨c,4,none⟩=false:=fun o=>Blk.frozen (Blk.alloc HA.out.conn o) 4
 have f6:∀ o,(w.alloc o).frozen? ⟨c,6,none⟩=false:=fun o=>Blk.frozen (Blk.alloc HA.out.conn o) 6
 clear h
 go_enter Tryz.func245,Tryz.ntmps245
 go_wp2
 go_region
 all_goals
  go_wp2
  go_end0
  exact ⟨rfl,InAct.done HX.out⟩
theorem quit_any {K:Nat->Prop} {n:Nat} {w:World} {a c:Nat} {x:Cn.SR} (h:InAct K n w a c x) (hn:n<=90) :
  Calls Tryz.prog 111 #[.pointer (some ⟨a,0,none⟩)] w fun e w'=>e=.returned (.tuple #[])/\InAct K (n+1) w' a c (Cn.quit x)/\Touch (OfAct K) w w':=by
 have HT:Hid (∀ w1,w1=w->_):=fun w1 (e:w1=w)=>out_any (e ▸ h) hn (Cn.unit_ 3 x.1.sq true Cn.no)
 obtain ⟨A1,c1,A2,c2,h⟩:=h
 have HA:=lh h
 have hne:¬ a=c:=fun e=>h.ne e.symm
 have hne':¬ c=a:=h.ne
 have k0:w.cell? ⟨a,0,none⟩=some (.pointer (some ⟨c,0,none⟩)):=h.blk.cell 0
 have s3:w.cell? ⟨c,3,none⟩=some (.int .i64 x.1.sq):=h.conn.cell 3
 clear h
 go_enter Tryz.func111,Tryz.ntmps111
 go_wp2_with fail
 refine (HT.out _ rfl).mono ?_
 rintro e w1 ⟨rfl,h1⟩
 have HX:=lh h1
 clear h1
 go_wp2
 go_end0
 exact ⟨rfl,HX.out⟩
theorem again_any {K:Nat->Prop} {n:Nat} {w:World} {a c:Nat} {x:Cn.SR} (h:InAct K n w a c x) (hn:n<=90) :
  Calls Tryz.prog 108 #[.pointer (some ⟨a,0,none⟩)] w fun e w'=>e=.returned (.tuple #[])/\InAct K (n+1) w' a c (Cn.again x)/\Touch (OfAct K) w w':=by
 have HT:Hid (∀ k w1,InAct K n w1 a c x->_):=fun k w1 (e:InAct K n w1 a c x)=>out_any e hn (Cn.unit_ k x.1.sq false x.1.data)
 obtain ⟨A1,c1,A2,c2,h⟩:=h
 have HA:=lh h
 have hne:¬ a=c:=fun e=>h.ne e.symm
 have hne':¬ c=a:=h.ne
 have k0:w.cell? ⟨a,0,none⟩=some (.pointer (some ⟨c,0,none⟩)):=h.blk.cell 0
 have s2:w.cell? ⟨c,2,none⟩=some (.int .i64 x.1.state):=h.conn.cell 2
 have s3:w.cell? ⟨c,3,none⟩=some (.int .i64 x.1.sq):=h.conn.cell 3
 have s7:w.cell? ⟨c,7,none⟩=some (.string x.1.data):=h.conn.cell 7
 have k0':∀ o,(w.alloc o).cell? ⟨a,0,none⟩=some (.pointer (some ⟨c,0,none⟩)):=fun o=>(HA.out.blk.alloc o).cell 0
 have s3':∀ o,(w.alloc o).cell? ⟨c,3,none⟩=some (.int .i64 x.1.sq):=fun o=>Blk.cell (Blk.alloc HA.out.conn o) 3
 have s7':∀ o,(w.alloc o).cell? ⟨c,7,none⟩=some (.string x.1.data):=fun o=>Blk.cell (Blk.alloc HA.out.conn o) 7
 clear h
 go_enter Tryz.func108,Tryz.ntmps108
 go_wp2
 go_region
 obtain ⟨D,hD⟩:=qx x.1.data
 obtain ⟨q,hq⟩:=qx x.1.sq
 obtain ⟨st,hst⟩:=qx x.1.state
 have HK:Hid (Cn.again x=((Cn.out x (Cn.unit_ (Cn.akind st) q false D)).1,{ (Cn.out x (Cn.unit_ (Cn.akind st) q false D)).2 with timer:=1 })):=by rw [<- hD,<- hq,<- hst];rfl
 rw [hD,hq] at HT
 rw [hst] at s2
 rw [hD,hq]
 have HB:Hid (Blk (w.alloc (.cells #[.int .i64 0,.int .i64 q,.int .u32 0,.int .u32 0,.int .u32 0,.slice none 0 0,.bool false,.string D] 49)).drew w.heap.size 49 [.int .i64 0,.int .i64 q,.int .u32 0,.int .u32 0,.int .u32 0,.slice none 0 0,.bool false,.string D]):=Blk.new _ _ _
 have HF:Hid (Fresh w (w.alloc (.cells #[.int .i64 0,.int .i64 q,.int .u32 0,.int .u32 0,.int .u32 0,.slice none 0 0,.bool false,.string D] 49)).drew):=((Touch.refl _ w).alloc _).drew
 have s2':(w.alloc (.cells #[.int .i64 0,.int .i64 q,.int .u32 0,.int .u32 0,.int .u32 0,.slice none 0 0,.bool false,.string D] 49)).drew.cell? ⟨c,2,none⟩=some (.int .i64 st):=by rw [<- hst];exact Blk.cell (HF.out.blk HA.out.conn (fun h=>h)) 2
 have k0'':(w.alloc (.cells #[.int .i64 0,.int .i64 q,.int .u32 0,.int .u32 0,.int .u32 0,.slice none 0 0,.bool false,.string D] 49)).drew.cell? ⟨a,0,none⟩=some (.pointer (some ⟨c,0,none⟩)):=Blk.cell (HF.out.blk HA.out.blk (fun h=>h)) 0
 have HST:=lh hst
 clear hD hq hst k0 s2 s3 s7 k0' s3' s7'
 generalize (w.alloc (.cells #[.int .i64 0,.int .i64 q,.int .u32 0,.int .u32 0,.int .u32 0,.slice none 0 0,.bool false,.string D] 49)).drew=w1 at *
 generalize hg:w.heap.size=g at *
 have HGE:=lh hg
 clear hg
 have HA1:=lh (HA.out.old HF.out)
 have b0:w1.cell? ⟨g,0,none⟩=some (.int .i64 0):=HB.out.cell 0
 have fb:=HB.out.frozen 0
 go_upto_block 0 with (fail)
 go_cut [] (fun wx=>Hid (Blk wx g 49 [.int .i64 (Cn.akind st),.int .i64 q,.int .u32 0,.int .u32 0,.int .u32 0,.slice none 0 0,.bool false,.string D])/\Hid (Touch (· = g) w1 wx))
 case first =>
  have HS:Hid (∀ k,Blk (w1.setCell ⟨g,0,none⟩ (.int .i64 k)) g 49 [.int .i64 k,.int .i64 q,.int .u32 0,.int .u32 0,.int .u32 0,.slice none 0 0,.bool false,.string D]):=fun k=>HB.out.set 0 _
  have HT1:Hid (∀ k,Touch (· = g) w1 (w1.setCell ⟨g,0,none⟩ (.int .i64 k))):=fun k=>Touch.set1 _ _ _ _
  by_cases e1:st=2
  ·subst e1
   go_wp2
   go_meet
   case rel=>exact ⟨HS.out 1,HT1.out 1⟩
  by_cases e2:st=4
  ·subst e2
   go_wp2
   go_meet
   case rel=>exact ⟨HS.out 3,HT1.out 3⟩
  by_cases e3:st=5
  ·subst e3
   go_wp2
   go_meet
   case rel=>exact ⟨HS.out 5,HT1.out 5⟩
  have HN:Hid (Cn.akind st=9):=by simp [Hid,Cn.akind,e1,e2,e3]
  have b1:(st==2)=false:=by simpa using e1
  have b2:(st==4)=false:=by simpa using e2
  have b3:(st==5)=false:=by simpa using e3
  go_wp2
  go_meet
  case rel=>exact ⟨by unfold Hid;rw [HN.out];exact HS.out 9,HT1.out 9⟩
 case rest =>
  obtain ⟨hb,ht⟩:=hcut
  have HA2:Hid (ActAt K n wc a c x A1 c1 A2 c2):=by
   have q1:=HA.out.blk.lt
   have q2:=HA.out.conn.lt
   have:=HGE.out
   refine HA1.out.touch ht.out (fun e=>?_) (fun e=>?_) (fun ad e e'=>?_) (fun ad e e'=>?_)
   ·have e:_=g:=e;omega
   ·have e:_=g:=e;omega
   ·have:=HA.out.sigs.lt ad e;have e':_=g:=e';omega
   ·have:=HA.out.units.lt ad e;have e':_=g:=e';omega
  have HF2:Hid (Fresh w wc):=HF.out.trans ht.out (fun j hj e=>by have:=HGE.out;have e:_=g:=e;omega)
  have d0:=hb.out.cell 0
  have d1:=hb.out.cell 1
  have d2:=hb.out.cell 2
  have d3:=hb.out.cell 3
  have d4:=hb.out.cell 4
  have d5:=hb.out.cell 5
  have d6:=hb.out.cell 6
  have d7:=hb.out.cell 7
  simp only [List.getElem?_cons_zero,List.getElem?_cons_succ] at d0 d1 d2 d3 d4 d5 d6 d7
  clear s2' k0'' b0 fb
  go_wp2_with fail
  refine (HT.out (Cn.akind st) _ ⟨_,_,_,_,HA2.out⟩).mono ?_
  rintro e w2 ⟨rfl,⟨A3,c3,A4,c4,h3⟩,t3⟩
  have k6:w2.cell? ⟨a,6,none⟩=some (.int .i64 (Cn.out x (Cn.unit_ (Cn.akind st) q false D)).2.timer):=h3.blk.cell 6
  have f6:=h3.blk.frozen 6
  have HX:Hid (InAct K (n+1) (w2.setCell ⟨a,6,none⟩ (.int .i64 1)) a c (Cn.again x)/\Touch (OfAct K) w (w2.setCell ⟨a,6,none⟩ (.int .i64 1))):=by
   have z:=h3.act1 (r:={ (Cn.out x (Cn.unit_ (Cn.akind st) q false D)).2 with timer:=1 }) 6 (.int .i64 1) rfl rfl rfl
   rw [HK.out]
   exact ⟨⟨_,_,_,_,z⟩,((HF2.out.mono (fun _ _ e=>e.elim)).trans t3 (fun _ _ e=>e)).st h3.na⟩
  clear h3 t3
  go_wp2
  go_end0
  exact ⟨rfl,HX.out⟩
theorem begin_any {K:Nat->Prop} {n:Nat} {w:World} {a c:Nat} {x:Cn.SR} (h:InAct K n w a c x) (hn:n<=90) (st:Int) (D:ByteArray) :
  Calls Tryz.prog 164 #[.pointer (some ⟨a,0,none⟩),.int .i64 st,.string D] w fun e w'=>e=.returned (.tuple #[])/\InAct K (n+1) w' a c (Cn.begin_ x st D)/\Touch (OfAct K) w w':=by
 go_enter Tryz.func164,Tryz.ntmps164
 go_wp2_with fail
 refine (to_any' h st).mono ?_
 rintro e w1 ⟨rfl,⟨A1,c1,A2,c2,h1⟩,t1⟩
 have HT:=lh t1
 have HA:=lh h1
 have hne:¬ a=c:=fun e=>h1.ne e.symm
 have hne':¬ c=a:=h1.ne
 have hq0:=h1.ok.sq0
 have hq1:=h1.ok.sq1
 have k0:w1.cell? ⟨a,0,none⟩=some (.pointer (some ⟨c,0,none⟩)):=h1.blk.cell 0
 have s3:w1.cell? ⟨c,3,none⟩=some (.int .i64 (Cn.to x st).1.sq):=h1.conn.cell 3
 have s5:w1.cell? ⟨c,5,none⟩=some (.int .i64 (Cn.to x st).1.cc):=h1.conn.cell 5
 have s7:w1.cell? ⟨c,7,none⟩=some (.string (Cn.to x st).1.data):=h1.conn.cell 7
 have f3:=h1.conn.frozen 3
 have f5:=h1.conn.frozen 5
 have f7:=h1.conn.frozen 7
 obtain ⟨q,hq⟩:=qx ((Cn.to x st).1.sq)
 have HX:Hid (InAct K n (((w1.setCell ⟨c,3,none⟩ (.int .i64 ((q+1)%256))).setCell ⟨c,5,none⟩ (.int .i64 1)).setCell ⟨c,7,none⟩ (.string D)) a c ({ (Cn.to x st).1 with sq:=((Cn.to x st).1.sq+1)%256,cc:=1,data:=D },(Cn.to x st).2)/\Touch (OfAct K) w (((w1.setCell ⟨c,3,none⟩ (.int .i64 ((q+1)%256))).setCell ⟨c,5,none⟩ (.int .i64 1)).setCell ⟨c,7,none⟩ (.string D))):=by
  rw [<- hq]
  have o1:Cn.Ok { (Cn.to x st).1 with sq:=((Cn.to x st).1.sq+1)%256 }:=⟨by simp;omega,by simp;omega,h1.ok.cc0,h1.ok.cc1,h1.ok.most0,h1.ok.most1⟩
  have j1:=h1.conn1 (s:={ (Cn.to x st).1 with sq:=((Cn.to x st).1.sq+1)%256 }) 3 (.int .i64 (((Cn.to x st).1.sq+1)%256)) rfl o1
  have j2:=j1.conn1 (s:={ (Cn.to x st).1 with sq:=((Cn.to x st).1.sq+1)%256,cc:=1 }) 5 (.int .i64 1) rfl ⟨o1.sq0,o1.sq1,by simp,by simp,o1.most0,o1.most1⟩
  have j3:=j2.conn1 (s:={ (Cn.to x st).1 with sq:=((Cn.to x st).1.sq+1)%256,cc:=1,data:=D }) 7 (.string D) rfl ⟨o1.sq0,o1.sq1,by simp,by simp,o1.most0,o1.most1⟩
  exact ⟨⟨_,_,_,_,j3⟩,((HT.out.st h1.nc).st h1.nc).st h1.nc⟩
 rw [hq] at s3 hq0 hq1
 clear h1 t1 hq
 go_wp2
 go_region
 have HX2:=lh (InAct.done HX.out)
 clear HX s3 s5 s7 k0 f3 f5 f7
 generalize (((w1.setCell ⟨c,3,none⟩ (.int .i64 ((q+1)%256))).setCell ⟨c,5,none⟩ (.int .i64 1)).setCell ⟨c,7,none⟩ (.string D)).drew=w2 at *
 go_wp2_with fail
 refine (again_any HX2.out.1 hn).mono ?_
 rintro e w3 ⟨rfl,h3,t3⟩
 have HX3:Hid (InAct K (n+1) w3 a c (Cn.begin_ x st D)/\Touch (OfAct K) w w3):=⟨h3,HX2.out.2.trans t3 (fun _ _ e=>e)⟩
 clear h3 t3 HX2
 go_wp2
 go_end0
 exact ⟨rfl,HX3.out⟩
theorem leave_any {K:Nat->Prop} {n:Nat} {w:World} {a c:Nat} {x:Cn.SR} (h:InAct K n w a c x) (hn:n<=90) (D:ByteArray) :
  Calls Tryz.prog 166 #[.pointer (some ⟨a,0,none⟩),.string D] w fun e w'=>e=.returned (.tuple #[])/\InAct K (n+1) w' a c (Cn.leave x D)/\Touch (OfAct K) w w':=by
 go_enter Tryz.func166,Tryz.ntmps166
 go_wp2_with fail
 refine (to_any' h 4).mono ?_
 rintro e w1 ⟨rfl,⟨A1,c1,A2,c2,h1⟩,t1⟩
 have HT:=lh t1
 have HA:=lh h1
 have hne:¬ a=c:=fun e=>h1.ne e.symm
 have hne':¬ c=a:=h1.ne
 have k0:w1.cell? ⟨a,0,none⟩=some (.pointer (some ⟨c,0,none⟩)):=h1.blk.cell 0
 have s5:w1.cell? ⟨c,5,none⟩=some (.int .i64 (Cn.to x 4).1.cc):=h1.conn.cell 5
 have s7:w1.cell? ⟨c,7,none⟩=some (.string (Cn.to x 4).1.data):=h1.conn.cell 7
 have f5:=h1.conn.frozen 5
 have f7:=h1.conn.frozen 7
 have HX:Hid (InAct K n ((w1.setCell ⟨c,5,none⟩ (.int .i64 1)).setCell ⟨c,7,none⟩ (.string D)) a c ({ (Cn.to x 4).1 with cc:=1,data:=D },(Cn.to x 4).2)/\Touch (OfAct K) w ((w1.setCell ⟨c,5,none⟩ (.int .i64 1)).setCell ⟨c,7,none⟩ (.string D))):=by
  have o1:=h1.ok
  have j2:=h1.conn1 (s:={ (Cn.to x 4).1 with cc:=1 }) 5 (.int .i64 1) rfl ⟨o1.sq0,o1.sq1,by simp,by simp,o1.most0,o1.most1⟩
  have j3:=j2.conn1 (s:={ (Cn.to x 4).1 with cc:=1,data:=D }) 7 (.string D) rfl ⟨o1.sq0,o1.sq1,by simp,by simp,o1.most0,o1.most1⟩
  exact ⟨⟨_,_,_,_,j3⟩,(HT.out.st h1.nc).st h1.nc⟩
 clear h1 t1
 go_wp2
 go_region
 have HX2:=lh (InAct.done HX.out)
 clear HX s5 s7 k0 f5 f7
 generalize ((w1.setCell ⟨c,5,none⟩ (.int .i64 1)).setCell ⟨c,7,none⟩ (.string D)).drew=w2 at *
 go_wp2_with fail
 refine (again_any HX2.out.1 hn).mono ?_
 rintro e w3 ⟨rfl,h3,t3⟩
 have HX3:Hid (InAct K (n+1) w3 a c (Cn.leave x D)/\Touch (OfAct K) w w3):=⟨h3,HX2.out.2.trans t3 (fun _ _ e=>e)⟩
 clear h3 t3 HX2
 go_wp2
 go_end0
 exact ⟨rfl,HX3.out⟩
theorem Blk.boxed (w:World) (p:Cn.Pd):Blk (w.alloc (.cells #[.int .i64 p.kind,.int .i64 p.sq,.int .u32 p.n,.int .u32 p.ps,.int .u32 p.mr,.slice p.lA p.ln p.lc,.bool p.self,.string p.data] 49)) w.heap.size 49 (pduE.enc p):=Blk.new _ _ _
theorem box_pre {K:Nat->Prop} {n:Nat} {w:World} {a c:Nat} {x:Cn.SR} (h:InAct K n w a c x) (p:Cn.Pd):∃ w1,Hid (w1=(w.alloc (.cells #[.int .i64 p.kind,.int .i64 p.sq,.int .u32 p.n,.int .u32 p.ps,.int .u32 p.mr,.slice p.lA p.ln p.lc,.bool p.self,.string p.data] 49)))/\Hid (Fresh w w1)/\Hid (Blk w1 w.heap.size 49 (pduE.enc p))/\Hid (InAct (Kept K w w1) n w1 a c x)/\Hid (Kept K w w1 w.heap.size)/\Hid (∀ k,K k->Kept K w w1 k)/\Hid (Touch (OfAct K) w w1):=
 have HF:Fresh w (w.alloc (.cells #[.int .i64 p.kind,.int .i64 p.sq,.int .u32 p.n,.int .u32 p.ps,.int .u32 p.mr,.slice p.lA p.ln p.lc,.bool p.self,.string p.data] 49)):=(Touch.refl _ w).alloc _
 ⟨(w.alloc (.cells #[.int .i64 p.kind,.int .i64 p.sq,.int .u32 p.n,.int .u32 p.ps,.int .u32 p.mr,.slice p.lA p.ln p.lc,.bool p.self,.string p.data] 49)),lh rfl,lh HF,lh (Blk.boxed w p),lh (h.keep HF),lh (.inr ⟨Nat.le_refl _,by simp⟩),lh (fun k e=>.inl e),lh (HF.mono (fun _ _ e=>e.elim))⟩
theorem back_any {K:Nat->Prop} {n:Nat} {w:World} {a c:Nat} {x:Cn.SR} (h:InAct K n w a c x) (p:Cn.Pd) (kind:Int) {A:Option Addr} {d:Nat} {ks:List Int} (hr:Rd intE w A d ks) (hA:∀ ad,A=some ad->0<ks.length->K ad.block) (hn:n+ks.length<=90) :
  Calls Tryz.prog 226 #[.pointer (some ⟨a,0,none⟩),pduV p,.int .i64 kind,.slice A ks.length d] w fun e w'=>e=.returned (.tuple #[])/\InAct K (n+ks.length) w' a c (Cn.backs x p kind ks)/\Touch (OfAct K) w w':=by
 unfold pduV
 have HF:Hid (Fresh w (w.alloc (.cells #[.int .i64 p.kind,.int .i64 p.sq,.int .u32 p.n,.int .u32 p.ps,.int .u32 p.mr,.slice p.lA p.ln p.lc,.bool p.self,.string p.data] 49))):=(Touch.refl _ w).alloc _
 have HB:=lh (Blk.boxed w p)
 have HA:=lh (h.keep HF.out)
 have HR:=lh hr
 have HK:=lh hA
 have HG:Hid (Kept K w (w.alloc (.cells #[.int .i64 p.kind,.int .i64 p.sq,.int .u32 p.n,.int .u32 p.ps,.int .u32 p.mr,.slice p.lA p.ln p.lc,.bool p.self,.string p.data] 49)) w.heap.size):=.inr ⟨Nat.le_refl _,by simp⟩
 have HL:Hid (∀ k,K k->Kept K w (w.alloc (.cells #[.int .i64 p.kind,.int .i64 p.sq,.int .u32 p.n,.int .u32 p.ps,.int .u32 p.mr,.slice p.lA p.ln p.lc,.bool p.self,.string p.data] 49)) k):=fun k e=>.inl e
 have hlc:=hr.1
 have hcm:=hr.2.1
 unfold maxLen at hcm
 obtain ⟨st,hst⟩:=qx x.1.state
 have HS:=lh hst
 clear h hr hA hst
 go_enter Tryz.func226,Tryz.ntmps226
 go_upto_region 1 with (fail)
 have HR1:=lh (HR.out.touch HF.out (fun _ _ _ h=>h))
 clear HR
 generalize (w.alloc (.cells #[.int .i64 p.kind,.int .i64 p.sq,.int .u32 p.n,.int .u32 p.ps,.int .u32 p.mr,.slice p.lA p.ln p.lc,.bool p.self,.string p.data] 49))=w1 at *
 generalize Kept K w w1=K1 at *
 generalize w.heap.size=g at *
 go_wp2_with fail
 go_loopw [12,9] (fun i _ wr=>∃ k:Nat,k<=ks.length/\i=.int .i64 k/\Hid (InAct K1 (n+k) wr a c (Cn.backs x p kind (ks.take k)))/\Hid (Touch (OfAct K1) w1 wr)) (fun i _ _=>ks.length-(intOf i).toNat)
 case atStart=>exact ⟨0,by omega,rfl,HA,Touch.refl _ _⟩
 case round =>
  obtain ⟨k,hk,rfl,hi,ht⟩:=hrel
  by_cases hlt:k<ks.length
  ·have hKA:Hid (∀ ad,A=some ad->K1 ad.block):=fun ad e=>HL.out _ (HK.out ad e (by omega))
   obtain ⟨gA,oA,rfl,hg,hc⟩:=(HR1.out.touch ht.out (fun ad ha hl e=>e (hKA.out ad ha))).int_at k hlt
   have HSN:Hid (Cn.backs x p kind (ks.take (k+1))=if ks.getD k 0=st then Cn.out (Cn.backs x p kind (ks.take k)) (Cn.unit_ kind p.sq false Cn.no) else Cn.backs x p kind (ks.take k)):=by
    unfold Hid
    rw [List.take_succ_eq_append_getElem hlt,Cn.backs_snoc,HS.out]
    simp [List.getD,List.getElem?_eq_getElem hlt]
   generalize ks.getD k 0=y at *
   have HT:Hid (∀ w1,InAct K1 (n+k) w1 a c (Cn.backs x p kind (ks.take k))->_):=fun w1 e=>out_any e (by omega) (Cn.unit_ kind p.sq false Cn.no)
   have HII:=hi
   obtain ⟨A1,c1,A2,c2,hh⟩:=hi.out
   have k0:wr.cell? ⟨a,0,none⟩=some (.pointer (some ⟨c,0,none⟩)):=hh.blk.cell 0
   have s2:wr.cell? ⟨c,2,none⟩=some (.int .i64 st):=by rw [<- HS.out,<- Cn.backs_fst x p kind (ks.take k)];exact hh.conn.cell 2
   have hb:=ht.out.keptB HB.out HG.out
   have b1:wr.cell? ⟨g,1,none⟩=some (.int .i64 p.sq):=hb.cell 1
   clear hh hb hi
   have hk2:k+1<=ks.length:=by omega
   by_cases hy:y=st
   ·subst hy
    rw [if_pos rfl] at HSN
    go_wp2_with fail
    refine (HT.out _ HII.out).mono ?_
    rintro e w2 ⟨rfl,i2,t2⟩
    have HI2:Hid (InAct K1 (n+(k+1)) w2 a c (Cn.backs x p kind (ks.take (k+1)))):=by unfold Hid;rw [HSN.out];exact i2
    have HT2:=lh (ht.out.trans t2 (fun _ _ e=>e))
    clear i2 t2 HT
    go_wp2
    go_roundw
    case rel=>exact ⟨k+1,hk2,by go_num,HI2,HT2⟩
    case measure=>simp [intOf];omega
   ·rw [if_neg hy] at HSN
    have hyb:(y==st)=false:=by simpa using hy
    have HI2:Hid (InAct K1 (n+(k+1)) wr a c (Cn.backs x p kind (ks.take (k+1)))):=by unfold Hid;rw [HSN.out];exact HII.out.wide (by omega)
    clear HT hy
    go_wp2
    go_roundw
    case rel=>exact ⟨k+1,hk2,by go_num,HI2,ht⟩
    case measure=>simp [intOf];omega
  ·have hkk:k=ks.length:=by omega
   subst hkk
   have HX:Hid (InAct K (n+ks.length) wr a c (Cn.backs x p kind ks)/\Touch (OfAct K) w wr):=by
    rw [List.take_length] at hi
    exact ⟨hi.out.less HL.out,(HF.out.mono (fun _ _ e=>e.elim)).trans (ht.out.loose HL.out) (fun _ _ e=>e)⟩
   clear hi ht
   go_wp2
   go_end0
   exact ⟨rfl,HX.out⟩
set_option maxRecDepth 20000
def RingPdu (w:World) (g:Nat) (b:Option Nat) (most:Nat) (q:List Cn.Pd):Prop:=
 ∃ (A:Option Addr) (c a:Nat) (buf:List Cn.Pd),Blk w g 157 [.slice A buf.length c,.int .i64 a,.int .i64 q.length,.int .i64 most]/\Sl pduE w A c buf/\A.map Addr.block=b /\
  buf.length<=most/\most<=4096/\Gone buf a q
section
variable {w w':World} {g:Nat} {b:Option Nat} {most:Nat} {q:List Cn.Pd}
theorem RingPdu.touch {S:Nat->Prop} (h:RingPdu w g b most q) (ht:Touch S w w') (hg:¬ S g) (hb:∀ k,b=some k->¬ S k):RingPdu w' g b most q:=by
 obtain ⟨A,c,a,buf,h1,h2,h3,h4⟩:=h
 refine ⟨A,c,a,buf,ht.blk h1 hg,h2.touch ht (fun ad ha=>hb _ ?_),h3,h4⟩
 rw [<- h3,ha];rfl
theorem RingPdu.lt (h:RingPdu w g b most q):g<w.heap.size:=by obtain ⟨A,c,a,buf,h1,_⟩:=h;exact h1.lt
theorem RingPdu.ltb (h:RingPdu w g b most q):∀ k,b=some k->k<w.heap.size:=by
 obtain ⟨A,c,a,buf,h1,h2,rfl,_⟩:=h
 intro k hk
 cases A with
 |none=>cases hk
 |some ad=>have:=h2.lt ad rfl;simp at hk;omega
end
theorem ringPdu_new (n:Int) (w:World) :
  Calls Tryz.prog 63 #[.int .i64 n] w fun e w'=>e=.returned (.pointer (some ⟨w.heap.size,0,none⟩))/\RingPdu w' w.heap.size none (max 0 (min n 4096)).toNat []/\Fresh w w':=by
 have hmm:∀ m:Int,0<=m->m<=4096->RingPdu (w.alloc (.cells #[.slice none 0 0,.int .i64 0,.int .i64 0,.int .i64 m] 157)) w.heap.size none m.toNat []:=fun m h0 h1=>by
  refine ⟨none,0,0,[],?_,Sl.nil _ _,rfl,by simp,by omega,Gone.nil⟩
  have:=Blk.new w 157 [.slice none 0 0,.int .i64 0,.int .i64 0,.int .i64 m]
  rw [Int.toNat_of_nonneg h0]
  exact this
 have HM:=lh hmm
 clear hmm
 have hf:∀ o,Hid (Fresh w (w.alloc o)):=fun o=>(Touch.refl _ _).alloc _
 have HF:=lh hf
 clear hf
 obtain ⟨m,hm⟩:=qx ((if 4096<n then (4096:Int) else n))
 obtain ⟨m',hm'⟩:∃ m',(if 0<m then m else 0)=m':=⟨_,rfl⟩
 have hx:Hid (max 0 (min n 4096)=m'/\0<=m'/\m'<=4096):=by
  rw [<- hm',<- hm];refine ⟨?_,?_,?_⟩ <;> (split <;> (try split) <;> omega)
 go_enter Tryz.func63,Tryz.ntmps63
 go_wp2
 go_ret
 exact ⟨rfl,by rw [hx.out.1];exact HM.out m' hx.out.2.1 hx.out.2.2,HF.out _⟩
theorem ringPdu_len (g:Nat) (b:Option Nat) (most:Nat) (q:List Cn.Pd) (w:World) (h:RingPdu w g b most q) :
  Calls Tryz.prog 21 #[.pointer (some ⟨g,0,none⟩)] w fun e w'=>e=.returned (.int .i64 q.length)/\w'=w:=by
 obtain ⟨A,c,a,buf,hb,_⟩:=h
 have c2:w.cell? ⟨g,2,none⟩=some (.int .i64 q.length):=hb.cell 2
 go_enter Tryz.func21,Tryz.ntmps21
 go_wp2
 go_ret
 exact ⟨rfl,rfl⟩
theorem Blk.set8 {w:World} {g:Nat} {t:TypeId} {a0 a1 a2 a3 a4 a5 a6 a7:Value} (h:Blk w g t [a0,a1,a2,a3,a4,a5,a6,a7]) (v0 v1 v2 v3 v4 v5 v6 v7:Value):Blk ((((((((w.setCell ⟨g,0,none⟩ v0).setCell ⟨g,1,none⟩ v1).setCell ⟨g,2,none⟩ v2).setCell ⟨g,3,none⟩ v3).setCell ⟨g,4,none⟩ v4).setCell ⟨g,5,none⟩ v5).setCell ⟨g,6,none⟩ v6).setCell ⟨g,7,none⟩ v7) g t [v0,v1,v2,v3,v4,v5,v6,v7]:=
 ((((((((h.set 0 v0).set 1 v1).set 2 v2).set 3 v3).set 4 v4).set 5 v5).set 6 v6).set 7 v7)
theorem Fresh.st8 {w w':World} {g:Nat} (h:Fresh w w') (hg:w.heap.size<=g) (v0 v1 v2 v3 v4 v5 v6 v7:Value):Fresh w ((((((((w'.setCell ⟨g,0,none⟩ v0).setCell ⟨g,1,none⟩ v1).setCell ⟨g,2,none⟩ v2).setCell ⟨g,3,none⟩ v3).setCell ⟨g,4,none⟩ v4).setCell ⟨g,5,none⟩ v5).setCell ⟨g,6,none⟩ v6).setCell ⟨g,7,none⟩ v7):=by
 have k:∀ i,(⟨g,i,none⟩:Addr).block<w.heap.size->False:=fun i e=>by have e:g<w.heap.size:=e;omega
 exact (((((((h.setCell (k 0) v0).setCell (k 1) v1).setCell (k 2) v2).setCell (k 3) v3).setCell (k 4) v4).setCell (k 5) v5).setCell (k 6) v6).setCell (k 7) v7
theorem ringPdu_first0 (g:Nat) (b:Option Nat) (most:Nat) (w:World) (h:RingPdu w g b most []) :
  Calls Tryz.prog 129 #[.pointer (some ⟨g,0,none⟩)] w fun e w'=>e=.returned (.tuple #[.agg #[.int .i64 0,.int .i64 0,.int .u32 0,.int .u32 0,.int .u32 0,.slice none 0 0,.bool false,.string ByteArray.empty],.int .i64 9])/\Fresh w w':=by
 obtain ⟨A,c,a,buf,hb,_⟩:=h
 have c2:w.cell? ⟨g,2,none⟩=some (.int .i64 0):=hb.cell 2
 have hlt:=hb.lt
 go_enter Tryz.func129,Tryz.ntmps129
 go_wp2
 exact bodyPost_ret (v:=_) (by simp [results,Tryz.results129,go_sem];rfl) rfl ⟨rfl,((Touch.refl _ _).alloc _).alloc _⟩
theorem ringPdu_take0 (g:Nat) (b:Option Nat) (most:Nat) (w:World) (h:RingPdu w g b most []) :
  Calls Tryz.prog 78 #[.pointer (some ⟨g,0,none⟩)] w fun e w'=>e=.returned (.tuple #[.agg #[.int .i64 0,.int .i64 0,.int .u32 0,.int .u32 0,.int .u32 0,.slice none 0 0,.bool false,.string ByteArray.empty],.int .i64 9])/\Fresh w w':=by
 have HF:=lh (fun W hW=>ringPdu_first0 g b most W hW)
 have H:=lh h
 clear h
 go_enter Tryz.func78,Tryz.ntmps78
 go_wp2_with fail
 refine (HF.out _ (H.out.touch ((Touch.refl (fun _=>False) _).alloc _) (fun e=>e) (fun _ _ e=>e))).mono ?_
 rintro e w1 ⟨rfl,f1⟩
 have B1:=f1.blk (Blk.new w 49 [.int .i64 0,.int .i64 0,.int .u32 0,.int .u32 0,.int .u32 0,.slice none 0 0,.bool false,.string ByteArray.empty]) (fun e=>e)
 have F1:Hid (Fresh w w1):=((Touch.refl _ _).alloc _).trans f1 (fun _ _ e=>e)
 obtain ⟨g2,hg2⟩:=qx w.heap.size
 rw [hg2] at B1 ⊢
 have c0:∀ o,(w1.alloc o).cell? ⟨g2,0,none⟩=some (.int .i64 0):=fun o=>(B1.alloc o).cell 0
 have c1:∀ o,(w1.alloc o).cell? ⟨g2,1,none⟩=some (.int .i64 0):=fun o=>(B1.alloc o).cell 1
 have c2:∀ o,(w1.alloc o).cell? ⟨g2,2,none⟩=some (.int .u32 0):=fun o=>(B1.alloc o).cell 2
 have c3:∀ o,(w1.alloc o).cell? ⟨g2,3,none⟩=some (.int .u32 0):=fun o=>(B1.alloc o).cell 3
 have c4:∀ o,(w1.alloc o).cell? ⟨g2,4,none⟩=some (.int .u32 0):=fun o=>(B1.alloc o).cell 4
 have c5:∀ o,(w1.alloc o).cell? ⟨g2,5,none⟩=some (.slice none 0 0):=fun o=>(B1.alloc o).cell 5
 have c6:∀ o,(w1.alloc o).cell? ⟨g2,6,none⟩=some (.bool false):=fun o=>(B1.alloc o).cell 6
 have c7:∀ o,(w1.alloc o).cell? ⟨g2,7,none⟩=some (.string ByteArray.empty):=fun o=>(B1.alloc o).cell 7
 have z0:∀ o,(w1.alloc o).frozen? ⟨g2,0,none⟩=false:=fun o=>(B1.alloc o).frozen 0
 have z1:∀ o,(w1.alloc o).frozen? ⟨g2,1,none⟩=false:=fun o=>(B1.alloc o).frozen 1
 have z2:∀ o,(w1.alloc o).frozen? ⟨g2,2,none⟩=false:=fun o=>(B1.alloc o).frozen 2
 have z3:∀ o,(w1.alloc o).frozen? ⟨g2,3,none⟩=false:=fun o=>(B1.alloc o).frozen 3
 have z4:∀ o,(w1.alloc o).frozen? ⟨g2,4,none⟩=false:=fun o=>(B1.alloc o).frozen 4
 have z5:∀ o,(w1.alloc o).frozen? ⟨g2,5,none⟩=false:=fun o=>(B1.alloc o).frozen 5
 have z6:∀ o,(w1.alloc o).frozen? ⟨g2,6,none⟩=false:=fun o=>(B1.alloc o).frozen 6
 have z7:∀ o,(w1.alloc o).frozen? ⟨g2,7,none⟩=false:=fun o=>(B1.alloc o).frozen 7
 have BF:=lh ((B1.alloc (.cells #[.int .i64 0,.int .i64 0,.int .u32 0,.int .u32 0,.int .u32 0,.slice none 0 0,.bool false,.string ByteArray.empty] 49)).set8 (.int .i64 0) (.int .i64 0) (.int .u32 0) (.int .u32 0) (.int .u32 0) (.slice none 0 0) (.bool false) (.string ByteArray.empty))
 have FF:=lh (Fresh.st8 (F1.out.alloc (.cells #[.int .i64 0,.int .i64 0,.int .u32 0,.int .u32 0,.int .u32 0,.slice none 0 0,.bool false,.string ByteArray.empty] 49)) (Nat.le_of_eq hg2) (.int .i64 0) (.int .i64 0) (.int .u32 0) (.int .u32 0) (.int .u32 0) (.slice none 0 0) (.bool false) (.string ByteArray.empty))
 clear f1 B1 hg2 HF H
 simp only
 go_wp2
 have e0:=BF.out.cell 0
 have e1:=BF.out.cell 1
 have e2:=BF.out.cell 2
 have e3:=BF.out.cell 3
 have e4:=BF.out.cell 4
 have e5:=BF.out.cell 5
 have e6:=BF.out.cell 6
 have e7:=BF.out.cell 7
 simp only [List.getElem?_cons_zero,List.getElem?_cons_succ] at e0 e1 e2 e3 e4 e5 e6 e7
 exact bodyPost_ret (v:=_) (by simp [results,Tryz.results78,go_sem,e0,e1,e2,e3,e4,e5,e6,e7]) rfl ⟨rfl,FF.out⟩
theorem clonePdu_any (A:Option Addr) (c:Nat) (l:List Cn.Pd) (w:World) (h:Rd pduE w A c l) (hl:l.length<=1000000) :
  Calls Tryz.prog 77 #[.slice A l.length c] w fun e w'=>∃ A' c',e=.returned (.slice A' l.length c')/\Sl pduE w' A' c' l/\Fresh w w'/\∀ ad,A'=some ad->w.heap.size<=ad.block:=by
 cases A with
 |none =>
  have h0:=h.2.2.1 rfl
  subst h0
  have:l=[]:=List.eq_nil_of_length_eq_zero (by have:=h.1;omega)
  subst this
  have hz:=fun w=>Lib.run_eql_slice_nil (P:=Tryz.prog) w 100 49 none 0 0 0 0 Tryz.underlying100
  go_enter Tryz.func77,Tryz.ntmps77
  go_wp2
  go_ret
  exact ⟨none,0,rfl,Sl.nil _ _,Touch.refl _ _,fun _ h=>by cases h⟩
 |some ad =>
  have H:=lh h
  clear h
  have hz:=fun w=>Lib.run_eql_slice_nil (P:=Tryz.prog) w 100 49 (some ad) l.length c 0 0 Tryz.underlying100
  go_enter Tryz.func77,Tryz.ntmps77
  go_wp2_with (refine app_pdu rfl rfl (l:=[]) (l2:=l) rfl rfl (Sl.lit pduE w _ rfl _ _ rfl _ rfl (by decide)) (H.out.alloc _) (by simp;omega) ?_;intro A2 c2 L2 w2 hL2 hs2 ht2 hA2)
  go_ret
  have e:L2=l:=hL2.out
  subst e
  refine ⟨A2,c2,rfl,hs2,(((Touch.refl _ w).alloc _).trans ht2 (fun k hk e=>by simp at e;omega)),fun ad ha=>?_⟩
  subst ha
  rcases hA2 with e | e <;> (simp at e;omega)
end Go.Proofs.YtlbopdfobgjjaaaGreatDoor

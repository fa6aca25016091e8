/-
  conn: a connection in plain words: its numbers, what a call brings, and each function of it. No program is named · A list of the call's own, made behind a world. No program is named · Maps: what lies in a map's block, look-up, store, deletion. Over any program · Map keys that are arrays of two integers · Maps: deletion, and a loop over a map. Over any program.
-/
import Derived.Test.YtlbopdfobgjjaaaGreatDoorWhP
import Derived.MapKept
import Derived.OwnWalk
import Derived.Maps.Own
import Derived.Maps.OwnSet
import Derived.ChangeKeysEq
import Derived.Maps.RangeWalk
namespace Go.Proofs.YtlbopdfobgjjaaaGreatDoor
open Go.RowKit
namespace Cn
structure Sig where
 kind:Int
 data:ByteArray
 self:Bool
 code:Int
 n:Int
structure Pd where
 kind:Int
 sq:Int
 n:Int
 ps:Int
 mr:Int
 lA:Option Addr
 ln:Nat
 lc:Nat
 self:Bool
 data:ByteArray
structure S where
 most:Int
 credit:Int
 state:Int
 sq:Int
 peer:Int
 cc:Int
 ms:Int
 data:ByteArray
structure R where
 sigs:List Sig
 units:List Pd
 begins:Bool
 ends:Bool
 ms:Int
 timer:Int
def no:ByteArray:=ByteArray.empty
def r0:R:=⟨[],[],false,false,0,0⟩
def sig (kind:Int) (self:Bool) (data:ByteArray):Sig:=⟨kind,data,self,0,0⟩
def unit_ (kind sq:Int) (self:Bool) (data:ByteArray):Pd:=⟨kind,sq,0,0,0,none,0,0,self,data⟩
def has (k:Int):Bool:=k==1 || k==2 || k==5 || k==6 || k==9 || k==15
abbrev SR:=S × R
def tell (x:SR) (s:Sig):SR:=(x.1,{ x.2 with sigs:=x.2.sigs++[s] })
def crd (x:S) (p:Pd):Pd:=if has p.kind then { p with n:=x.credit } else p
def out (x:SR) (p:Pd):SR:=(x.1,{ x.2 with units:=x.2.units++[crd x.1 p] })
def to (x:SR) (st:Int):SR:=({ x.1 with state:=st },{ x.2 with ends:=x.2.ends || x.1.state==10 })
def stop (x:SR) (st:Int):SR:=let y:=to x st;(y.1,{ y.2 with timer:=2 })
def ready (x:SR):SR:=let y:=stop x 10;(y.1,{ y.2 with begins:=true,ms:=y.1.ms })
def akind (st:Int):Int:=if st=2 then 1 else if st=4 then 3 else if st=5 then 5 else 9
def again (x:SR):SR:=let y:=out x (unit_ (akind x.1.state) x.1.sq false x.1.data);(y.1,{ y.2 with timer:=1 })
def begin_ (x:SR) (st:Int) (data:ByteArray):SR:=
 let y:=to x st
 again ({ y.1 with sq:=(y.1.sq+1)%256,cc:=1,data:=data },y.2)
def leave (x:SR) (data:ByteArray):SR:=
 let y:=to x 4
 again ({ y.1 with cc:=1,data:=data },y.2)
def quit (x:SR):SR:=out x (unit_ 3 x.1.sq true no)
def report (x:SR) (code:Int):SR:=tell x ⟨12,no,false,code,0⟩
def backs (x:SR) (p:Pd) (kind:Int) (l:List Int):SR:=l.foldl (fun x s=>if s=x.1.state then out x (unit_ kind p.sq false no) else x) x
def heard (x:SR) (p:Pd):SR:=({ x.1 with peer:=p.sq,ms:=p.n },x.2)
def ask (x:SR) (kind:Int) (data:ByteArray):SR:=
 if kind=1 then begin_ x 2 data
 else if kind=2 then ready (out x (unit_ 2 x.1.peer false no))
 else if kind=3 then (if x.1.state=3 then to (out x (unit_ 7 x.1.peer false data)) 1 else leave x data)
 else if kind=4 then begin_ x 5 data
 else if kind=5 then ready (out x (unit_ 6 x.1.peer false no))
 else if kind=6 then (if x.1.state=9 then ready (out x (unit_ 15 x.1.peer false no)) else ready x)
 else x
def oldBegin (x:SR) (p:Pd):SR:=backs (backs x p 7 [1]) p 2 [5,6,7,8,9,10]
def newBegin (x:SR) (p:Pd):SR:=
 let y:=heard x p
 if x.1.state=1 then to (tell y (sig 1 false p.data)) 3
 else if x.1.state=2 then ready (tell (backs y p 2 [2]) (sig 2 false no))
 else if x.1.state=4 then stop (tell (tell y (sig 4 false no)) (sig 1 false p.data)) 3
 else stop (tell (tell y (sig 3 false no)) (sig 1 false p.data)) 3
def end_ (x:SR) (p:Pd):SR:=
 let y:=out x (unit_ 4 p.sq false no)
 if x.1.state=1 then y
 else if x.1.state=4 then stop (tell y (sig 4 false no)) 1
 else stop (tell y (sig 3 p.self p.data)) 1
def resync (x:SR) (p:Pd):SR:=
 let y:=heard x p
 if x.1.state=5 then ready (tell (out y (unit_ 6 p.sq false no)) (sig 6 false no))
 else if x.1.state=6 then y
 else stop (tell y (sig 5 false p.data)) 6
def recover (x:SR) (p:Pd):SR:=
 let y:=backs (heard x p) p 15 [7,8]
 if x.1.state=7 then stop (tell y (sig 7 false no)) 8
 else if x.1.state=10 then to (tell y (sig 7 false no)) 9
 else y
def setMs (x:SR) (p:Pd):SR:=({ x.1 with ms:=p.n },x.2)
def answer (x:SR) (p:Pd):SR:=
 if p.kind=2 then ready (tell (setMs x p) (sig 2 false no))
 else if p.kind=6 then ready (tell (setMs x p) (sig 6 false no))
 else if p.kind=15 then stop (tell (setMs x p) (sig 7 false no)) 8
 else if p.kind=7\/p.kind=4 then stop (tell x (if x.1.state=2 then sig 3 false p.data else sig 4 false no)) 1
 else x
def handle (x:SR) (p:Pd):SR:=
 if p.kind=1 then (if p.sq=x.1.peer then oldBegin x p else newBegin x p)
 else if p.kind=3 then end_ x p
 else if p.kind=5 then (if p.sq=x.1.peer then backs x p 6 [7,8,9,10] else resync x p)
 else if p.kind=9 then (if p.sq=x.1.peer then backs x p 15 [8,10] else recover x p)
 else if p.sq=x.1.sq then answer x p else x
theorem backs_fst (x:SR) (p:Pd) (kind:Int) (l:List Int):(backs x p kind l).1=x.1:=by
 unfold backs
 induction l generalizing x with
 |nil=>rfl
 |cons s l ih =>
  rw [List.foldl_cons,ih]
  split <;> rfl
theorem backs_snoc (x:SR) (p:Pd) (kind:Int) (l:List Int) (s:Int):backs x p kind (l++[s])=if s=x.1.state then out (backs x p kind l) (unit_ kind p.sq false no) else backs x p kind l:=by
 have h:=backs_fst x p kind l
 unfold backs at h ⊢
 rw [List.foldl_append,List.foldl_cons,List.foldl_nil,h]
def fail (x:SR) (code:Int):SR:=begin_ (report x code) 7 no
def silent (x:SR):SR:=to (tell (quit (report x 80)) (sig 3 true no)) 1
def expire (x:SR):SR:=
 if x.1.state=2\/x.1.state=4\/x.1.state=5\/x.1.state=7 then
  (if x.1.cc<x.1.most then again ({ x.1 with cc:=x.1.cc+1 },x.2)
  else if x.1.state=4 then stop (tell (report x 79) (sig 4 false no)) 1 else stop (tell (quit (report x 79)) (sig 3 true no)) 1)
 else x
def hear (what l:Int) (x:SR) (p:Pd):SR:=
 if what=1 then handle x p
 else if what=2 then report x l
 else if what=3 then quit (report x l)
 else if what=4 then stop (tell (report x l) (sig 3 true no)) 1
 else x
def new (most credit:Int):S:=⟨max 1 (min most 16),credit%16777216,1,0,-1,0,credit%16777216,no⟩
def Few (n:Nat) (x:SR):Prop:=x.2.sigs.length<=n/\x.2.units.length<=n
structure Ok (s:S):Prop where
 sq0:0<=s.sq
 sq1:s.sq<=255
 cc0:0<=s.cc
 cc1:s.cc<=16
 most0:1<=s.most
 most1:s.most<=16
end Cn
structure Mine {α:Type} (E:El α) (W w:World) (A:Option Addr) (c:Nat) (L:List α):Prop where
 sl:Sl E w A c L
 fresh:Fresh W w
 base:∀ ad,A=some ad->W.heap.size<=ad.block
section
variable {α:Type} {E:El α} {W w w':World} {A A':Option Addr} {c c':Nat} {L L':List α}
theorem Mine.nil (E:El α) (w:World):Mine E w w none 0 []:=⟨Sl.nil E w,Touch.refl _ w,fun _ e=>nomatch e⟩
theorem Mine.alloc (h:Mine E W w A c L) (o:Obj):Mine E W (w.alloc o) A c L:=⟨h.sl.alloc o,h.fresh.alloc o,h.base⟩
theorem Mine.drewN (h:Mine E W w A c L) (n:Nat):Mine E W (w.drewN n) A c L:=⟨h.sl,h.fresh.drewN n,h.base⟩
theorem Mine.old (h:Mine E W w A c L) (ht:Fresh w w'):Mine E W w' A c L:=⟨h.sl.touch ht (fun _ _ h=>h),h.fresh.trans ht (fun _ _ h=>h),h.base⟩
theorem Mine.app (h:Mine E W w A c L) (hs:Sl E w' A' c' L') (ht:Touch (fun k=>A.map Addr.block=some k) w w') (hA:A'.map Addr.block=A.map Addr.block\/A'.map Addr.block=some w.heap.size):Mine E W w' A' c' L':=by
 refine ⟨hs,h.fresh.trans ht (fun k hk e=>?_),fun ad e=>?_⟩
 ·cases A with
  |none=>cases e
  |some a0=>have:=h.base a0 rfl;simp at e;omega
 ·subst e
  rcases hA with e | e
  ·cases A with
   |none=>cases e
   |some a0=>have:=h.base a0 rfl;simp at e;omega
  ·have:=h.fresh.size;simp at e;omega
theorem Mine.lit (E:El α) (w:World) (cs:Array Value) (l:List α) (hl:cs.toList=E.all l) (n:Nat) (hn:n=l.length) (hm:n<=maxLen):Mine E w (w.alloc (.cells cs E.e)) (some ⟨w.heap.size,0,none⟩) n l:=
 ⟨Sl.lit E w _ rfl cs l hl n hn hm,(Touch.refl _ w).alloc _,fun ad e=>by injection e with e;subst e;exact Nat.le_refl _⟩
theorem Mine.keepsR {β:Type} {F:El β} {B:Option Addr} {d:Nat} {M:List β} (h:Mine E W w A c L) (hm:Rd F W B d M):Rd F w B d M:=hm.touch h.fresh (fun _ _ _ h=>h)
theorem Mine.own {S:Nat->Prop} (h:Mine E W w A c L) (ht:Touch S w w') (hS:∀ k,S k->W.heap.size<=k) (hA:∀ ad,A=some ad->¬ S ad.block):Mine E W w' A c L:=
 ⟨h.sl.touch ht hA,h.fresh.trans ht (fun k hk hs=>by have:=hS k hs;omega),h.base⟩
theorem Mine.back {α:Type} {E:El α} {W0 W w:World} {A:Option Addr} {c:Nat} {L:List α} (h:Mine E W w A c L) (ht:Fresh W0 W):Mine E W0 w A c L:=⟨h.sl,ht.trans h.fresh (fun _ _ h=>h),fun ad e=>Nat.le_trans ht.size (h.base ad e)⟩
end
def Grown (F:Nat->Prop) (w:World) (x:Nat):Prop:=F x\/w.heap.size<=x
def fnd {κ:Type} [DecidableEq κ] (a:κ):List κ->List Value->Nat->Option (Nat × Value)
 |k::ks,v::vs,i=>if a=k then some (i,v) else fnd a ks vs (i+1)
 |_,_,_=>none
structure KT (P:Program) (κ:Type) [DecidableEq κ] where
 t:TypeId
 enc:κ->Value
 inj:∀ a b,enc a=enc b->a=b
 check:∀ e a w,(Instr.checkKey e 10000 t (enc a)).run P w=.ok () w
 find:∀ (a:κ) (l:List MapEntry) (ks:List κ) (w:World),l.map (·.key)=ks.map enc->(Instr.findKey t (enc a) l).run P w=.ok (fnd a ks (l.map (·.val)) 0) w
 bits:∀ a,Instr.sameBits 10000 (enc a) (enc a)=true
section
variable {κ:Type} [DecidableEq κ]
abbrev MList (κ:Type):=List (κ × Value)
variable {β:Type}
def mget (m:List (κ × β)) (k:κ):Option β:=(m.find? fun p=>decide (p.1=k)).map (·.2)
def mset (m:List (κ × β)) (k:κ) (v:β):List (κ × β):=if k ∈ m.map (·.1) then m.map (fun p=>if p.1=k then (k,v) else p) else m++[(k,v)]
def mdel (m:List (κ × β)) (k:κ):List (κ × β):=m.filter fun p=>decide (p.1 ≠ k)
theorem mget_cons (p:κ × β) (m:List (κ × β)) (k:κ):mget (p::m) k=if p.1=k then some p.2 else mget m k:=by
 unfold mget
 by_cases h:p.1=k <;> simp [h]
theorem mget_none {m:List (κ × β)} {k:κ}:mget m k=none ↔ k ∉ m.map (·.1):=by
 induction m with
 |nil=>simp [mget]
 |cons p m ih =>
  rw [mget_cons]
  by_cases h:p.1=k
  ·simp [h]
  ·rw [if_neg h,ih]
   simp [Ne.symm h]
theorem keys_mset (m:List (κ × β)) (k:κ) (v:β):(mset m k v).map (·.1)=if k ∈ m.map (·.1) then m.map (·.1) else m.map (·.1)++[k]:=by
 unfold mset
 by_cases h:k ∈ m.map (·.1)
 ·rw [if_pos h,if_pos h,List.map_map]
  refine List.map_congr_left fun p _=>?_
  by_cases hp:p.1=k <;> simp [hp]
 ·rw [if_neg h,if_neg h];simp
theorem nodup_mset {m:List (κ × β)} (h:(m.map (·.1)).Nodup) (k:κ) (v:β):((mset m k v).map (·.1)).Nodup:=by
 rw [keys_mset]
 split
 ·exact h
 ·rename_i hk
  exact List.nodup_append.2 ⟨h,by simp,fun a ha b hb=>by simp at hb;subst hb;exact fun e=>hk (e ▸ ha)⟩
theorem nodup_mdel {m:List (κ × β)} (h:(m.map (·.1)).Nodup) (k:κ):((mdel m k).map (·.1)).Nodup:=
 List.Nodup.sublist (List.Sublist.map _ List.filter_sublist) h
theorem mget_lift {γ:Type} (f:β->γ) (m:List (κ × β)) (k:κ):mget (m.map fun p=>(p.1,f p.2)) k=(mget m k).map f:=by
 induction m with
 |nil=>rfl
 |cons p m ih =>
  rw [List.map_cons,mget_cons,mget_cons,ih]
  by_cases h:p.1=k <;> simp [h]
theorem mset_lift {γ:Type} (f:β->γ) (m:List (κ × β)) (k:κ) (v:β):mset (m.map fun p=>(p.1,f p.2)) k (f v)=(mset m k v).map fun p=>(p.1,f p.2):=by
 unfold mset
 have e:(m.map fun p=>(p.1,f p.2)).map (·.1)=m.map (·.1):=by rw [List.map_map];rfl
 rw [e]
 by_cases h:k ∈ m.map (·.1)
 ·rw [if_pos h,if_pos h,List.map_map,List.map_map]
  refine List.map_congr_left fun p _=>?_
  by_cases hp:p.1=k <;> simp [hp]
 ·rw [if_neg h,if_neg h];simp
theorem mdel_lift {γ:Type} (f:β->γ) (m:List (κ × β)) (k:κ):mdel (m.map fun p=>(p.1,f p.2)) k=(mdel m k).map fun p=>(p.1,f p.2):=by
 unfold mdel
 rw [List.filter_map]
 rfl
theorem fnd_spec (a:κ):∀ (ks:List κ) (vs:List Value) (i:Nat),ks.length=vs.length ->
  (fnd a ks vs i=none/\a ∉ ks)\/∃ j,∃ (h1:j<ks.length) (h2:j<vs.length),fnd a ks vs i=some (i+j,vs[j])/\ks[j]=a/\∀ q,(hq:q<j)->ks[q]'(by omega) ≠ a
 |[],vs,i,_=>.inl ⟨by cases vs <;> rfl,by simp⟩
 |k::ks,[],i,h=>by simp at h
 |k::ks,v::vs,i,h=>by
  by_cases hk:a=k
  ·subst hk
   exact .inr ⟨0,by simp,by simp,by simp [fnd],rfl,fun q hq=>by omega⟩
  ·rcases fnd_spec a ks vs (i+1) (by simpa using h) with ⟨h1,h2⟩ | ⟨j,h1,h2,h3,h4,h5⟩
   ·exact .inl ⟨by simp [fnd,hk,h1],by simp [hk,h2]⟩
   ·refine .inr ⟨j+1,by simp;omega,by simp;omega,by simp [fnd,hk,h3];omega,by simpa using h4,fun q hq=>?_⟩
    cases q with
    |zero=>exact fun e=>hk e.symm
    |succ q=>exact h5 q (by omega)
def MapAt {P:Program} (K:KT P κ) (w:World) (b:Nat) (m:MList κ):Prop:=
 (m.map (·.1)).Nodup/\∃ es clock,w.heap[b]?=some (.map es clock)/\es.toList.map (·.key)=(m.map (·.1)).map K.enc/\es.toList.map (·.val)=m.map (·.2)/\MapKept.Stamped es clock
variable {P:Program} {K:KT P κ} {w w':World} {b:Nat} {m:MList κ}
theorem MapAt.lt (h:MapAt K w b m):b<w.heap.size:=by
 obtain ⟨_,es,cl,hb,_⟩:=h
 exact (Array.getElem?_eq_some_iff.1 hb).1
theorem MapAt.keep (h:MapAt K w b m) (hk:w'.heap[b]?=w.heap[b]?):MapAt K w' b m:=by
 obtain ⟨hn,es,cl,hb,r⟩:=h
 exact ⟨hn,es,cl,hk.trans hb,r⟩
theorem MapAt.touch {S:Nat->Prop} (h:MapAt K w b m) (ht:Touch S w w') (hs:¬ S b):MapAt K w' b m:=h.keep (ht.block b h.lt hs)
theorem MapAt.alloc (h:MapAt K w b m) (o:Obj):MapAt K (w.alloc o) b m:=h.keep (Below.heap_alloc w o b h.lt)
theorem MapAt.setCell (h:MapAt K w b m) {p:Addr} (hp:b ≠ p.block) (u:Value):MapAt K (w.setCell p u) b m:=h.keep (Below.heap_setCell w p u b hp)
theorem MapAt.made (K:KT P κ) (w:World):MapAt K (w.alloc (.map #[] 0)) w.heap.size ([]:MList κ):=
 ⟨by simp,#[],0,heap_alloc_new w _,by simp,by simp,MapKept.stamped_empty 0⟩
theorem MapAt.blk_ne {g:Nat} {t:TypeId} {cs:List Value} (h:MapAt K w b m) (hb:Blk w g t cs):b ≠ g:=by
 rintro rfl
 obtain ⟨_,es,cl,hb',_⟩:=h
 unfold Blk at hb
 rw [hb] at hb'
 cases hb'
theorem mlen (h:MapAt K w b m):∃ es cl,w.heap[b]?=some (.map es cl)/\es.size=m.length:=by
 obtain ⟨_,es,cl,hb,hk,_⟩:=h
 refine ⟨es,cl,hb,?_⟩
 have:=congrArg List.length hk
 simpa using this
theorem fnd_mget (m:MList κ) (k:κ) (i:Nat):(fnd k (m.map (·.1)) (m.map (·.2)) i).map (·.2)=mget m k:=by
 induction m generalizing i with
 |nil=>rfl
 |cons p m ih =>
  rw [mget_cons]
  simp only [List.map_cons,fnd]
  by_cases h:k=p.1
  ·simp [h]
  ·simp [h,Ne.symm h,ih]
theorem MapAt.look {T e:TypeId} (h:MapAt K w b m) (hT:P.underlying T=some (.map K.t e)) {z:Value} (hz:(zeroValue e).run P w=.ok z w) (k:κ) (ok:Bool) :
  (Instr.lookup T (.map (some b)) (K.enc k) ok).run P w=.ok (if ok then .tuple #[(mget m k).getD z,.bool (mget m k).isSome] else (mget m k).getD z) w:=by
 obtain ⟨_,es,cl,hb,hk,hv,_⟩:=h
 have hfind:=K.find k es.toList _ w hk
 rw [hv] at hfind
 have hfm:=fnd_mget m k 0
 have hg:=MapKept.run_getObj_map (P:=P) hb
 simp only [Instr.lookup,Sem.run_bind,run_underlying hT,Result.andThen_ok,hg,K.check,hfind,Sem.run_pure]
 cases hc:fnd k (m.map (·.1)) (m.map (·.2)) 0 with
 |none =>
  rw [hc] at hfm
  rw [<- hfm]
  cases ok <;> simp [hz]
 |some x =>
  rw [hc] at hfm
  rw [<- hfm]
  cases ok <;> simp
theorem MapAt.store {T e:TypeId} (h:MapAt K w b m) (hT:P.underlying T=some (.map K.t e)) (k:κ) (v:Value) :
  ∃ w',(Instr.mapUpdate T (.map (some b)) (K.enc k) v).run P w=.ok () w'/\MapAt K w' b (mset m k v)/\Touch (· = b) w w':=by
 have h0:=h
 obtain ⟨hn,es,cl,hb,hk,hv,hst⟩:=h
 have hfind:=K.find k es.toList _ w hk
 rw [hv] at hfind
 have hg:=MapKept.run_getObj_map (P:=P) hb
 have htouch:∀ o,Touch (· = b) w { w with heap:=w.heap.setIfInBounds b o }:=fun o =>
  ⟨rfl,rfl,rfl,by simp,fun j hj hne=>(MapKept.heap_set hb (o':=o)).2 j hne⟩
 have hlen:es.toList.length=m.length:=by have:=congrArg List.length hk;simpa using this
 rcases fnd_spec k (m.map (·.1)) (m.map (·.2)) 0 (by simp) with ⟨h1,h2⟩ | ⟨j,h1,h2,h3,h4,h5⟩
 ·rw [h1] at hfind
  have hkeys:∀ x ∈ es.toList,x.key ≠ K.enc k:=by
   intro x hx e
   have:K.enc k ∈ es.toList.map (·.key):=e ▸ List.mem_map_of_mem hx
   rw [hk] at this
   obtain ⟨k',hk',e'⟩:=List.mem_map.1 this
   exact h2 (K.inj _ _ e' ▸ hk')
  refine ⟨_,?_,⟨nodup_mset hn k v,es.push { key:=K.enc k,val:=v,born:=cl },cl+1,(MapKept.heap_set hb).1,?_,?_,MapKept.stamped_push hst hkeys⟩,htouch _⟩
  ·simp only [Instr.mapUpdate,Sem.run_bind,run_underlying hT,Result.andThen_ok,hg,K.check,hfind]
   exact MapKept.run_setObj_map _ hb
  ·unfold mset;rw [if_neg h2];simp [hk]
  ·unfold mset;rw [if_neg h2];simp [hv]
 ·rw [h3] at hfind
  have hj:j<es.toList.length:=by rw [hlen];simpa using h1
  have hj':j<es.size:=by simpa using hj
  have hkj:es[j].key=K.enc k:=by
   have:(es.toList.map (·.key))[j]?=((m.map (·.1)).map K.enc)[j]?:=by rw [hk]
   rw [List.getElem?_map,List.getElem?_map,List.getElem?_eq_getElem hj,List.getElem?_eq_getElem h1] at this
   simpa [h4] using this
  have hmem:k ∈ m.map (·.1):=h4 ▸ List.getElem_mem h1
  have hstay:(Instr.keyThatStays (((es[j]?).map (·.key)).getD (K.enc k)) (K.enc k)).run P w=.ok (K.enc k) w:=by
   rw [Array.getElem?_eq_getElem hj']
   simp [Instr.keyThatStays,hkj,K.bits]
  have hmod:∀ (q:Nat) (hq:q<es.size),(es.modify j fun e=>{ e with key:=K.enc k,val:=v })[q]'(by simpa using hq)=if q=j then { es[q] with key:=K.enc k,val:=v } else es[q]:=by
   intro q hq
   rw [Array.getElem_modify]
   by_cases e:j=q <;> simp [e,eq_comm]
  have hnd:∀ (q:Nat) (hq:q<m.length),m[q].1=k ↔ q=j:=by
   intro q hq
   have hj1:m[j].1=k:=by simpa using h4
   constructor
   ·intro e
    have hpw:=List.pairwise_iff_getElem.1 hn
    rcases Nat.lt_trichotomy q j with hlt | heq | hgt
    ·exact absurd (by rw [h4,List.getElem_map];exact e) (hpw q j (by simpa using hq) h1 hlt)
    ·exact heq
    ·exact absurd (by rw [h4,List.getElem_map];exact e.symm) (hpw j q h1 (by simpa using hq) hgt)
   ·rintro rfl;exact hj1
  refine ⟨_,?_,⟨nodup_mset hn k v,es.modify j fun e=>{ e with key:=K.enc k,val:=v },cl,(MapKept.heap_set hb).1,?_,?_,?_⟩,htouch _⟩
  ·simp only [Instr.mapUpdate,Sem.run_bind,run_underlying hT,Result.andThen_ok,hg,K.check,hfind,Nat.zero_add,hstay]
   exact MapKept.run_setObj_map _ hb
  ·rw [keys_mset,if_pos hmem,<- hk]
   exact MapKept.modify_keys j _ (fun e he=>by rw [Array.getElem?_eq_getElem hj'] at he;injection he with he;subst he;exact hkj.symm)
  ·unfold mset
   rw [if_pos hmem]
   apply List.ext_getElem
   ·simp;simpa using hlen
   ·intro q hq1 hq2
    have hqs:q<es.size:=by simpa using hq1
    have hqm:q<m.length:=by simpa using hq2
    have hvq:es[q].val=m[q].2:=by
     have:(es.toList.map (·.val))[q]?=(m.map (·.2))[q]?:=by rw [hv]
     simpa [List.getElem?_map,hqs,hqm] using this
    simp only [List.getElem_map,Array.getElem_toList]
    rw [hmod q hqs]
    by_cases e:q=j
    ·subst e
     have:=(hnd q hqm).2 rfl
     simp [this]
    ·have:¬ m[q].1=k:=fun h=>e ((hnd q hqm).1 h)
     simp [e,this,hvq]
  ·refine MapKept.stamped_modify hst j _ (fun _ _=>rfl) (fun e _ he=>?_)
   rw [Array.getElem?_eq_getElem hj'] at he
   injection he with he
   subst he
   exact hkj.symm
end
def KT.int {P:Program} (t:TypeId) (k:IntKind) (hu:P.underlying t=some (.int k)):KT P Int where
 t:=t
 enc:=fun n=>.int k n
 inj:=fun a b e=>by injection e
 check:=fun e a w=>MapKept.run_checkKey hu (by simp [MapKept.IsKey]) e 9999
 find:=by
  intro a l ks w hl
  refine MapKept.run_findKey hu ?_
  have hgen:∀ (l:List MapEntry) (ks:List Int) (i:Nat),l.map (·.key)=ks.map (fun n=>Value.int k n)->Instr.findNow (.int k) (.int k a) l i=some (fnd a ks (l.map (·.val)) i):=by
   intro l
   induction l with
   |nil=>intro ks i h;cases ks with
    |nil=>rfl
    |cons k ks=>simp at h
   |cons e l ih=>intro ks i h;cases ks with
    |nil=>simp at h
    |cons k0 ks =>
     simp only [List.map_cons,List.cons.injEq] at h
     simp only [Instr.findNow,h.1,Instr.sameNow,if_true,List.map_cons,fnd]
     by_cases e0:a=k0
     ·simp [e0]
     ·have:(a==k0)=false:=by simpa using e0
      simp only [this,e0,if_false]
      exact ih ks (i+1) h.2
  exact hgen l ks 0 hl
 bits:=fun a=>by simp [Instr.sameBits]
section
variable {κ:Type} [DecidableEq κ] {P:Program} {K:KT P κ}
theorem wpList_lookM {ops:Array Oper} {rest:List Oper} {o:Oper} {a:Act} {w:World} {Q:Exit->Act->World->Prop} (hg:o.guard=none) {x y:Operand} {T e:TypeId} {ok:Bool} (hop:o.op=Op.lookup T x y ok)
  {b:Nat} {m:MList κ} {k:κ} (ex:a.eval x=.map (some b)) (ey:a.eval y=K.enc k) (h:MapAt K w b m) (hT:P.underlying T=some (.map K.t e)) {z:Value} (hz:(zeroValue e).run P w=.ok z w)
  (hK:wpList P ops Q rest (a.put o.dst (if ok then .tuple #[(mget m k).getD z,.bool (mget m k).isSome] else (mget m k).getD z)) w):wpList P ops Q (o::rest) a w:=by
 refine wpList_plain hg fun _ hk=>?_
 unfold Oper.wp
 simp only [execOp,hop,ex,ey,Sem.run_bind,Result.andThen_ok,h.look hT hz k ok,Sem.run_pure]
 exact hk _ _ hK
theorem wpList_storeM {ops:Array Oper} {rest:List Oper} {o:Oper} {a:Act} {w:World} {Q:Exit->Act->World->Prop} (hg:o.guard=none) {x y v:Operand} {T e:TypeId} (hop:o.op=Op.mapUpdate T x y v)
  {b:Nat} {m:MList κ} {k:κ} (ex:a.eval x=.map (some b)) (ey:a.eval y=K.enc k) (h:MapAt K w b m) (hT:P.underlying T=some (.map K.t e))
  (hK:∀ w',MapAt K w' b (mset m k (a.eval v))->Touch (· = b) w w'->wpList P ops Q rest (a.put o.dst undef) w'):wpList P ops Q (o::rest) a w:=by
 refine wpList_plain hg fun _ hk=>?_
 obtain ⟨w',hr,h1,h2⟩:=h.store hT k (a.eval v)
 unfold Oper.wp
 simp only [execOp,hop,ex,ey,Sem.run_bind,Result.andThen_ok,hr,Sem.run_pure]
 exact hk _ _ (hK w' h1 h2)
end
section
variable {P:Program} {t e:TypeId} {k:IntKind} {i:TypeInfo}
def pairV (k:IntKind) (p:Int × Int):Value:=.agg #[.int k p.1,.int k p.2]
theorem run_isAgg_int (w:World) (he:P.underlying e=some (.int k)):(isAgg e).run P w=.ok false w:=by
 unfold isAgg
 rw [Sem.run_bind,run_underlying he w]
 rfl
theorem run_part_pair (w:World) (he:P.underlying e=some (.int k)) (xs:Array Value) (o:Nat) (v:Value) (h:xs[o]?=some v):(part e xs o).run P w=.ok v w:=by
 simp [part,run_isAgg_int w he,h]
theorem run_check_pair' (w:World) (n:Nat) (hu:P.underlying t=some (.array 2 e)) (he:P.underlying e=some (.int k)) (hi:P.info? e=some i) (hs:i.size=1) (em:Bool) (p:Int × Int) :
  (Instr.checkKey em (n+1+1) t (pairV k p)).run P w=.ok () w:=by
 have h0:∀ x,(Instr.checkKey em (n+1) e (.int k x)).run P w=.ok () w:=fun x=>MapKept.run_checkKey he (by simp [MapKept.IsKey]) em n
 have p0:(part e #[.int k p.1,.int k p.2] 0).run P w=.ok (.int k p.1) w:=run_part_pair w he _ _ _ rfl
 have p1:(part e #[.int k p.1,.int k p.2] 1).run P w=.ok (.int k p.2) w:=run_part_pair w he _ _ _ rfl
 have hsz:(sizeOf e).run P w=.ok 1 w:=by simp [sizeOf,typeInfo,hi,hs]
 unfold pairV
 generalize n+1=m at *
 simp only [Instr.checkKey,Sem.run_bind,run_underlying hu,Result.andThen_ok]
 simp only [Std.Legacy.Range.forIn_eq_forIn_range',Std.Legacy.Range.size,Nat.sub_zero,Nat.add_one_sub_one,Nat.div_one,Nat.reduceAdd]
 rw [show List.range' 0 2=[0,1] from rfl]
 simp only [List.forIn_cons,List.forIn_nil,Sem.run_bind,hsz,Result.andThen_ok,Nat.zero_mul,Nat.one_mul,p0,p1,h0,Sem.run_pure]
theorem run_check_pair (w:World) (hu:P.underlying t=some (.array 2 e)) (he:P.underlying e=some (.int k)) (hi:P.info? e=some i) (hs:i.size=1) (em:Bool) (p:Int × Int) :
  (Instr.checkKey em 10000 t (pairV k p)).run P w=.ok () w:=run_check_pair' w 9998 hu he hi hs em p
theorem run_equal_pair' (w:World) (n:Nat) (hu:P.underlying t=some (.array 2 e)) (he:P.underlying e=some (.int k)) (hi:P.info? e=some i) (hs:i.size=1) (p q:Int × Int) :
  (Op.equalIn (n+1+1) t (pairV k p) (pairV k q)).run P w=.ok (decide (p=q)) w:=by
 have hc:P.cellsOf e=1:=by unfold Program.cellsOf;rw [hi];simpa using hs
 have p0:∀ w x y,(part e #[.int k x,.int k y] 0).run P w=.ok (.int k x) w:=fun w x y=>run_part_pair w he _ _ _ rfl
 have p1:∀ w x y,(part e #[.int k x,.int k y] 1).run P w=.ok (.int k y) w:=fun w x y=>run_part_pair w he _ _ _ rfl
 have heq:∀ a b w,(Op.equalIn (n+1) e (.int k a) (.int k b)).run P w=.ok (a==b) w:=fun a b w=>run_equalIn_int w n e k k a b he
 unfold pairV
 rw [run_equalIn_array w (n+1) _ _ hu hi,hc]
 rw [show List.range 2=[0,1] from rfl]
 simp only [Op.eqItems,Sem.run_bind,Nat.zero_mul,Nat.one_mul,p0,heq,Result.andThen_ok]
 obtain ⟨a,b⟩:=p
 obtain ⟨c,d⟩:=q
 by_cases h1:a=c
 ·subst h1
  by_cases h2:b=d
  ·subst h2;simp [p1,heq]
  ·have e2:(b==d)=false:=by simpa using h2
   simp [p1,heq,e2,h2]
 ·have e1:(a==c)=false:=by simpa using h1
  simp [e1,h1]
theorem run_equal_pair (w:World) (hu:P.underlying t=some (.array 2 e)) (he:P.underlying e=some (.int k)) (hi:P.info? e=some i) (hs:i.size=1) (p q:Int × Int) :
  (Op.equal t (pairV k p) (pairV k q)).run P w=.ok (decide (p=q)) w:=run_equal_pair' w 9998 hu he hi hs p q
def KT.pair (t e:TypeId) (k:IntKind) (hu:P.underlying t=some (.array 2 e)) (he:P.underlying e=some (.int k)) (hi:∃ i,P.info? e=some i/\i.size=1):KT P (Int × Int) where
 t:=t
 enc:=pairV k
 inj:=fun a b h=>by
  unfold pairV at h
  simp at h
  exact Prod.ext h.1 h.2
 check:=fun em a w=>by obtain ⟨i,hi,hs⟩:=hi;exact run_check_pair w hu he hi hs em a
 find:=by
  intro a l ks w hl
  obtain ⟨i,hi,hs⟩:=hi
  have hgen:∀ (l:List MapEntry) (ks:List (Int × Int)) (j:Nat),l.map (·.key)=ks.map (pairV k)->(Instr.findAsking t (pairV k a) l j).run P w=.ok (fnd a ks (l.map (·.val)) j) w:=by
   intro l
   induction l with
   |nil=>intro ks j h;cases ks with
    |nil=>rfl
    |cons k ks=>simp at h
   |cons e l ih=>intro ks j h;cases ks with
    |nil=>simp at h
    |cons k0 ks =>
     simp only [List.map_cons,List.cons.injEq] at h
     simp only [Instr.findAsking,h.1,Sem.run_bind,run_equal_pair w hu he hi hs,Result.andThen_ok,List.map_cons,fnd]
     by_cases e0:a=k0
     ·simp [e0]
     ·simp only [e0,decide_false,Bool.false_eq_true,if_false]
      exact ih ks (j+1) h.2
  simp only [Instr.findKey,Sem.run_bind,run_underlying hu,Result.andThen_ok]
  cases l with
  |nil=>cases ks with
   |nil=>rfl
   |cons k ks=>simp at hl
  |cons e l =>
   have hn:Instr.findNow (.array 2 ‹TypeId›) (pairV k a) (e::l) 0=none:=by
    simp [Instr.findNow,Instr.sameNow]
   rw [hn]
   exact hgen (e::l) ks 0 hl
 bits:=fun a=>by
  unfold pairV
  simp [Instr.sameBits]
end
open Go.ChangeMaps (setBlock)
theorem map_erase {α β:Type} (f:α->β):∀ (l:List α) (j:Nat),(l.eraseIdx j).map f=(l.map f).eraseIdx j
 |[],_=>rfl
 |_::_,0=>rfl
 |a::l,j+1=>by
  rw [List.eraseIdx_cons_succ,List.map_cons,List.map_cons,List.eraseIdx_cons_succ,map_erase f l j]
section
variable {κ:Type} [DecidableEq κ] {β:Type}
theorem mdel_erase:∀ (m:List (κ × β)) (k:κ) (j:Nat),(m.map (·.1)).Nodup->(hj:j<m.length)->m[j].1=k->mdel m k=m.eraseIdx j
 |[],_,_,_,hj,_=>by simp at hj
 |p::m,k,0,hn,_,e=>by
  simp only [List.getElem_cons_zero] at e
  rw [List.map_cons,List.nodup_cons] at hn
  unfold mdel
  rw [List.filter_cons,if_neg (by simp [e]),List.eraseIdx_cons_zero,List.filter_eq_self]
  intro q hq
  have:q.1 ≠ k:=fun h=>hn.1 (by rw [e,<- h];exact List.mem_map_of_mem hq)
  simp [this]
 |p::m,k,j+1,hn,hj,e=>by
  simp only [List.getElem_cons_succ] at e
  rw [List.map_cons,List.nodup_cons] at hn
  have hj':j<m.length:=by simpa using hj
  have hp:p.1 ≠ k:=fun h=>hn.1 (by rw [h,<- e];exact List.mem_map_of_mem (List.getElem_mem hj'))
  have ih:=mdel_erase m k j hn.2 hj' e
  unfold mdel at ih ⊢
  rw [List.filter_cons,if_pos (by simp [hp]),List.eraseIdx_cons_succ,ih]
theorem mdel_out (m:List (κ × β)) (k:κ) (h:k ∉ m.map (·.1)):mdel m k=m:=by
 unfold mdel
 rw [List.filter_eq_self]
 intro q hq
 have:q.1 ≠ k:=fun e=>h (e ▸ List.mem_map_of_mem hq)
 simp [this]
end
section
variable {κ:Type} [DecidableEq κ] {P:Program} {K:KT P κ} {w w':World} {b r:Nat} {m:MList κ} {D:List κ}
theorem MapAt.del {T e:TypeId} (h:MapAt K w b m) (hT:P.underlying T=some (.map K.t e)) (k:κ) (ty:TypeId) :
  ∃ w',(Builtin.delete_ #[T,K.t] ty #[.map (some b),K.enc k]).run P w=.ok (.tuple #[]) w'/\MapAt K w' b (mdel m k)/\Touch (· = b) w w':=by
 obtain ⟨hn,es,cl,hb,hk,hv,hst⟩:=h
 have hfind:=K.find k es.toList _ w hk
 rw [hv] at hfind
 have hg:=MapKept.run_getObj_map (P:=P) hb
 have htouch:∀ o,Touch (· = b) w { w with heap:=w.heap.setIfInBounds b o }:=fun o =>
  ⟨rfl,rfl,rfl,by simp,fun j hj hne=>(MapKept.heap_set hb (o':=o)).2 j hne⟩
 have hlen:es.toList.length=m.length:=by have:=congrArg List.length hk;simpa using this
 rcases fnd_spec k (m.map (·.1)) (m.map (·.2)) 0 (by simp) with ⟨h1,h2⟩ | ⟨j,h1,h2,h3,h4,h5⟩
 ·rw [h1] at hfind
  refine ⟨{ w with heap:=w.heap.setIfInBounds b (.map es cl) },?_,⟨?_,es,cl,(MapKept.heap_set hb).1,?_,?_,hst⟩,htouch _⟩
  ·simp [Builtin.delete_,run_underlying hT,hg,K.check,hfind,MapKept.run_setObj_map _ hb,Result.andThen]
  ·rw [mdel_out m k h2];exact hn
  ·rw [mdel_out m k h2];exact hk
  ·rw [mdel_out m k h2];exact hv
 ·rw [h3] at hfind
  have hj':j<m.length:=by simpa using h1
  have hmd:mdel m k=m.eraseIdx j:=mdel_erase m k j hn hj' (by simpa using h4)
  refine ⟨{ w with heap:=w.heap.setIfInBounds b (.map (es.eraseIdxIfInBounds j) cl) },?_,⟨?_,es.eraseIdxIfInBounds j,cl,(MapKept.heap_set hb).1,?_,?_,MapKept.stamped_erase hst j⟩,htouch _⟩
  ·simp [Builtin.delete_,run_underlying hT,hg,K.check,hfind,MapKept.run_setObj_map _ hb,Result.andThen]
  ·exact nodup_mdel hn k
  ·have e:(es.eraseIdxIfInBounds j).toList=es.toList.eraseIdx j:=by
    unfold Array.eraseIdxIfInBounds
    rw [dif_pos (by have:=hlen;simp at this;omega),Array.toList_eraseIdx]
   rw [e,hmd,map_erase,hk,map_erase,map_erase]
  ·have e:(es.eraseIdxIfInBounds j).toList=es.toList.eraseIdx j:=by
    unfold Array.eraseIdxIfInBounds
    rw [dif_pos (by have:=hlen;simp at this;omega),Array.toList_eraseIdx]
   rw [e,hmd,map_erase,hv,map_erase]
theorem wpList_delM {ops:Array Oper} {rest:List Oper} {o:Oper} {a:Act} {Q:Exit->Act->World->Prop} (hg:o.guard=none) {x y:Operand} {T T2 e:TypeId} (hop:o.op=.call { callee:=.builtin .delete,args:=#[x,y],argTypes:=#[T,T2] })
  {k:κ} (ex:a.eval x=.map (some b)) (ey:a.eval y=K.enc k) (h:MapAt K w b m) (hT:P.underlying T=some (.map K.t e)) (h2:T2=K.t)
  (hK:∀ w',MapAt K w' b (mdel m k)->Touch (· = b) w w'->wpList P ops Q rest (a.put o.dst (.tuple #[])) w'):wpList P ops Q (o::rest) a w:=by
 subst h2
 refine wpList_plain hg fun _ hk=>?_
 obtain ⟨w',hr,h1,h2⟩:=h.del hT k o.type
 unfold Oper.wp execOp
 simp only [hop,resolve,invoke,builtin,Sem.run_bind,Sem.run_pure,Result.andThen_ok,List.map_toArray,List.map_cons,List.map_nil,ex,ey,hr]
 exact hk _ _ (hK w' h1 h2)
structure IterAt (K:KT P κ) (w:World) (r b:Nat) (m:MList κ) (D:List κ):Prop where
 ex:∃ es clock since seen c0,w.heap[b]?=some (.map es clock)/\es.toList.map (·.key)=(m.map (·.1)).map K.enc/\es.toList.map (·.val)=m.map (·.2)/\MapKept.Stamped es clock /\
  w.heap[r]?=some (.mapIter (some b) since seen c0)/\(∀ x ∈ es.toList,x.born<since)/\since<=c0/\since<=clock/\∀ x ∈ es.toList,∃ p ∈ m,x.key=K.enc p.1/\x.val=p.2/\(seen.contains x.born=true ↔ p.1 ∈ D)
 nd:(m.map (·.1)).Nodup
 ne:r ≠ b
theorem IterAt.lt (h:IterAt K w r b m D):r<w.heap.size:=by
 obtain ⟨es,cl,si,se,c0,_,_,_,_,hr,_⟩:=h.ex
 exact (Array.getElem?_eq_some_iff.1 hr).1
theorem IterAt.ltb (h:IterAt K w r b m D):b<w.heap.size:=by
 obtain ⟨es,cl,si,se,c0,hb,_⟩:=h.ex
 exact (Array.getElem?_eq_some_iff.1 hb).1
theorem IterAt.touch {S:Nat->Prop} (h:IterAt K w r b m D) (ht:Touch S w w') (hb':¬ S b) (hr':¬ S r):IterAt K w' r b m D:=by
 have h1:=h.lt
 have h2:=h.ltb
 obtain ⟨es,cl,si,se,c0,hb,hk,hv,hs,hr,q⟩:=h.ex
 exact ⟨⟨es,cl,si,se,c0,(ht.block b h2 hb').trans hb,hk,hv,hs,(ht.block r h1 hr').trans hr,q⟩,h.nd,h.ne⟩
theorem IterAt.left_eq (h:IterAt K w r b m D) {S:Nat->Prop} (ht:Touch S w w') (hb':¬ S b) (hr':¬ S r):w'.rangeLeft b r=w.rangeLeft b r:=by
 have h1:=h.lt
 have h2:=h.ltb
 unfold World.rangeLeft
 rw [ht.block b h2 hb',ht.block r h1 hr']
theorem entry_pair {es:Array MapEntry} (hk:es.toList.map (·.key)=(m.map (·.1)).map K.enc) (hv:es.toList.map (·.val)=m.map (·.2)) (x:MapEntry) (hx:x ∈ es.toList):∃ p ∈ m,x.key=K.enc p.1/\x.val=p.2:=by
 obtain ⟨j,hj,rfl⟩:=List.getElem_of_mem hx
 have hlen:es.toList.length=m.length:=by have:=congrArg List.length hk;simpa using this
 have hj':j<m.length:=by omega
 refine ⟨m[j],List.getElem_mem hj',?_,?_⟩
 ·have:(es.toList.map (·.key))[j]?=((m.map (·.1)).map K.enc)[j]?:=by rw [hk]
  rw [List.getElem?_map,List.getElem?_map,List.getElem?_map,List.getElem?_eq_getElem hj,List.getElem?_eq_getElem hj'] at this
  simpa using this
 ·have:(es.toList.map (·.val))[j]?=(m.map (·.2))[j]?:=by rw [hv]
  rw [List.getElem?_map,List.getElem?_map,List.getElem?_eq_getElem hj,List.getElem?_eq_getElem hj'] at this
  simpa using this
theorem pair_entry {es:Array MapEntry} (hk:es.toList.map (·.key)=(m.map (·.1)).map K.enc) (_hv:es.toList.map (·.val)=m.map (·.2)) (p:κ × Value) (hp:p ∈ m):∃ x ∈ es.toList,x.key=K.enc p.1:=by
 obtain ⟨j,hj',rfl⟩:=List.getElem_of_mem hp
 have hlen:es.toList.length=m.length:=by have:=congrArg List.length hk;simpa using this
 have hj:j<es.toList.length:=by omega
 refine ⟨es.toList[j],List.getElem_mem hj,?_⟩
 have:(es.toList.map (·.key))[j]?=((m.map (·.1)).map K.enc)[j]?:=by rw [hk]
 rw [List.getElem?_map,List.getElem?_map,List.getElem?_map,List.getElem?_eq_getElem hj,List.getElem?_eq_getElem hj'] at this
 simpa using this
theorem wpList_rangeM {ops:Array Oper} {rest:List Oper} {o:Oper} {a:Act} {Q:Exit->Act->World->Prop} (hg:o.guard=none) {x:Operand} {T e:TypeId} (hop:o.op=Op.range T x) (ex:a.eval x=.map (some b)) (h:MapAt K w b m) (hT:P.underlying T=some (.map K.t e))
  (hK:∀ w',IterAt K w' w.heap.size b m []->Fresh w w'->wpList P ops Q rest (a.put o.dst (.pointer (some ⟨w.heap.size,0,none⟩))) w'):wpList P ops Q (o::rest) a w:=by
 refine wpList_plain hg fun _ hk=>?_
 have hlt:=h.lt
 obtain ⟨hn,es,cl,hb,hkk,hv,hst⟩:=h
 have hr:=run_range_map w T K.t e b es cl hT hb
 unfold Oper.wp
 simp only [execOp,hop,ex,Sem.run_bind,Result.andThen_ok,hr,Sem.run_pure]
 refine hk _ _ (hK _ ⟨⟨es,cl,cl,#[],cl,(Below.heap_alloc w _ b hlt).trans hb,hkk,hv,hst,heap_alloc_new w _,hst.1,Nat.le_refl _,Nat.le_refl _,fun y hy=>?_⟩,hn,by omega⟩ ((Touch.refl _ w).alloc _))
 obtain ⟨p,hp,e1,e2⟩:=entry_pair hkk hv y hy
 exact ⟨p,hp,e1,e2,by simp⟩
theorem wpList_nextM {ops:Array Oper} {rest:List Oper} {o:Oper} {a:Act} {Q:Exit->Act->World->Prop} (hg:o.guard=none) {it:Operand} (hop:o.op=Op.next it false) (ei:a.eval it=.pointer (some ⟨r,0,none⟩)) (h:IterAt K w r b m D)
  (hDone:(∀ p ∈ m,p.1 ∈ D)->wpList P ops Q rest (a.put o.dst (.tuple #[.bool false])) w)
  (hMore:∀ (p:κ × Value) (w':World),p ∈ m->p.1 ∉ D->IterAt K w' r b m (p.1::D)->Touch (· = r) w w'->w'.rangeLeft b r<w.rangeLeft b r->(Instr.entry (.pointer (some ⟨r,0,none⟩))).run P w'=.ok (.tuple #[K.enc p.1,p.2]) w' ->
   wpList P ops Q rest (a.put o.dst (.tuple #[.bool true,K.enc p.1,p.2])) w'):wpList P ops Q (o::rest) a w:=by
 refine wpList_plain hg fun _ hk=>?_
 have hrl:=h.lt
 have hne:=h.ne
 obtain ⟨es,cl,si,se,c0,hb,hkk,hv,hst,hr,hold,hsc,hsk,hse⟩:=h.ex
 unfold Oper.wp
 rcases run_next_at (P:=P) w o.type r b si c0 se es cl hr hb hold hsc with ⟨h0,hrun⟩ | ⟨e,he,w1,hal,hrun⟩
 ·simp only [execOp,hop,ei,Sem.run_bind,Result.andThen_ok,hrun,Sem.run_pure]
  refine hk _ _ (hDone fun p hp=>?_)
  obtain ⟨x,hx,ex⟩:=pair_entry hkk hv p hp
  obtain ⟨q,hq,e1,_,e3⟩:=hse x hx
  have:q.1=p.1:=K.inj _ _ (e1.symm.trans ex)
  rw [<- this]
  exact e3.1 (all_seen es se h0 x hx)
 ·obtain ⟨hem,hes⟩:=mem_left he
  obtain ⟨p,hp,e1,e2,e3⟩:=hse e hem
  have hpD:p.1 ∉ D:=fun hd=>by rw [e3.2 hd] at hes;cases hes
  have hr1:w1.heap[r]?=some (.mapIter (some b) si se c0):=by rcases hal with rfl | rfl <;> exact hr
  have hb1:w1.heap[b]?=some (.map es cl):=by rcases hal with rfl | rfl <;> exact hb
  have hset:=MapKept.heap_set (o':=.mapIter (some b) si (se.push e.born) cl) hr1
  have hb':(setBlock w1 r (.mapIter (some b) si (se.push e.born) cl)).heap[b]?=some (.map es cl):=(hset.2 b (fun q=>hne q.symm)).trans hb1
  have htouch:Touch (· = r) w (setBlock w1 r (.mapIter (some b) si (se.push e.born) cl)):=by
   rcases hal with rfl | rfl <;> exact ⟨rfl,rfl,rfl,by simp [setBlock],fun j _ hj=>hset.2 j hj⟩
  have hborn:=hst.2.1
  simp only [execOp,hop,ei,Sem.run_bind,Result.andThen_ok,hrun,Sem.run_pure]
  rw [e1,e2]
  refine hk _ _ (hMore p _ hp hpD ⟨⟨es,cl,si,se.push e.born,cl,hb',hkk,hv,hst,hset.1,hold,hsk,hsk,fun x hx=>?_⟩,h.nd,hne⟩ htouch ?_ ?_)
  ·obtain ⟨q,hq,f1,f2,f3⟩:=hse x hx
   refine ⟨q,hq,f1,f2,?_⟩
   rw [contains_push,Bool.or_eq_true,f3,List.mem_cons,beq_iff_eq]
   constructor
   ·rintro (h1 | h1)
    ·exact .inr h1
    ·have:x=e:=born_inj hborn hx hem h1
     subst this
     exact .inl (K.inj _ _ (f1.symm.trans e1))
   ·rintro (h1 | h1)
    ·right
     have hke:x.key=e.key:=by rw [f1,e1,h1]
     have hpw:=((MapKept.stamped_iff es cl).1 hst).2.2
     exact congrArg MapEntry.born (entry_eq_of_key hpw hx hem hke)
    ·exact .inl h1
  ·unfold World.rangeLeft
   rw [hb',show (setBlock w1 r (.mapIter (some b) si (se.push e.born) cl)).heap[r]?=some (.mapIter (some b) si (se.push e.born) cl) from hset.1,hb,hr]
   exact left_shrinks es se e he
  ·have:=run_entry_at (P:=P) _ r b si se es cl e hset.1 hb' hem hborn
   rwa [e1,e2] at this
end
end Go.Proofs.YtlbopdfobgjjaaaGreatDoor

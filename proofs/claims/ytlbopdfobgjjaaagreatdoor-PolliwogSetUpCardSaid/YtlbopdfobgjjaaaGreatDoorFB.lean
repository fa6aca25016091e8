/-
  slices.SortFunc at spans, of a nil slice: nothing is done · Boxes of a function's own, known whole; what may be touched beside them; two structs handed back. Each step leaves a world that is a letter. No program is named.
-/
import Derived.Test.YtlbopdfobgjjaaaGreatDoorLay
import Derived.Test.YtlbopdfobgjjaaaGreatDoorSpanE
import Derived.Test.YtlbopdfobgjjaaaGreatDoorRow2
import Derived.Test.YtlbopdfobgjjaaaGreatDoorDetP
import Derived.Test.YtlbopdfobgjjaaaGreatDoorCloP
namespace Go.Proofs.YtlbopdfobgjjaaaGreatDoor
open Go.RowKit Go.Shelf Go.Lib
theorem ins_none (w:World):Calls Tryz.prog 246 #[.slice none 0 0,.int .i64 0,.int .i64 0,.func (.func 201) #[] #[]] w fun e w'=>e=.returned (.tuple #[])/\w'=w:=by
 go_enter Tryz.func246,Tryz.ntmps246
 go_wp2_with fail
 go_loopw [8] (fun i wr=>i=.int .i64 1/\wr=w) (fun _ _=>0)
 case atStart=>exact ⟨rfl,rfl⟩
 case round =>
  obtain ⟨rfl,rfl⟩:=hrel
  go_wp2
  go_end0
  exact ⟨rfl,rfl⟩
theorem pdq_none (w:World):Calls Tryz.prog 230 #[.slice none 0 0,.int .i64 0,.int .i64 0,.int .i64 0,.func (.func 201) #[] #[]] w fun e w'=>e=.returned (.tuple #[])/\w'=w:=by
 go_enter Tryz.func230,Tryz.ntmps230
 go_wp2_with fail
 go_loopw [1,2,3] (fun a b l wr=>a=.int .i64 0/\b=.int .i64 0/\l=.int .i64 0/\wr=w) (fun _ _ _ _=>0)
 case atStart=>exact ⟨rfl,rfl,rfl,rfl⟩
 case round =>
  obtain ⟨rfl,rfl,rfl,rfl⟩:=hrel
  go_wp2_with fail
  refine (ins_none _).mono ?_
  rintro e w2 ⟨rfl,rfl⟩
  go_wp2
  refine bodyPost_ret (results_none rfl _ _ _) rfl ?_
  exact ⟨rfl,rfl⟩
theorem sort_none (w:World):Calls Tryz.prog 200 #[.slice none 0 0,.func (.func 201) #[] #[]] w fun e w'=>e=.returned (.tuple #[])/\w'=w:=by
 have hlen:∀ W,Calls Tryz.prog 231 #[.int .u64 0] W fun e w'=>e=.returned (.int .i64 0)/\w'=W:=fun W=>(Any.bits_Len Tryz.bitsLen2 0 W (by omega) (by omega)).mono fun _ _ h=>⟨h.1.trans (by rw [show (Lib.bitLen (0:Int).toNat)=0 by decide];rfl),h.2⟩
 go_enter Tryz.func200,Tryz.ntmps200
 go_wp2_with fail
 refine (hlen _).mono ?_
 rintro e w2 ⟨rfl,rfl⟩
 go_wp2_with fail
 refine (pdq_none _).mono ?_
 rintro e w2 ⟨rfl,rfl⟩
 go_wp2
 go_end0
 exact ⟨rfl,rfl⟩
open Go.RowKit
structure Bx where
 b:Nat
 t:TypeId
 cs:List Value
def KB (K:Nat->Prop) (bs:List Nat):Nat->Prop:=fun k=>K k\/k ∈ bs
structure FB (K:Nat->Prop) (bs:List Nat) (w0 w:World) (L:List Bx):Prop where
 t:Touch (OfAct K) w0 w
 bx:∀ x ∈ L,Blk w x.b x.t x.cs
 eq:L.map (·.b)=bs
 nd:bs.Nodup
 new:∀ b ∈ bs,w0.heap.size<=b
 lim:∀ k,K k->k<w0.heap.size
section
variable {K:Nat->Prop} {bs:List Nat} {w0 w w':World} {L:List Bx} {x:Bx}
theorem FB.at_ (h:FB K bs w0 w L) (i:Nat) (hx:L[i]?=some x):Blk w x.b x.t x.cs:=h.bx x (List.mem_of_getElem? hx)
theorem FB.mem (h:FB K bs w0 w L) (i:Nat) (hx:L[i]?=some x):x.b ∈ bs:=by
 rw [<- h.eq]
 exact List.mem_map.2 ⟨x,List.mem_of_getElem? hx,rfl⟩
theorem FB.lt (h:FB K bs w0 w L):∀ b ∈ bs,b<w.heap.size:=fun b hb=>by
 rw [<- h.eq] at hb
 obtain ⟨x,hx,rfl⟩:=List.mem_map.1 hb
 exact (h.bx x hx).lt
theorem FB.nil (w:World) (hl:∀ k,K k->k<w.heap.size):FB K [] w w []:=⟨Touch.refl _ _,fun _ e=>(by cases e),rfl,List.nodup_nil,fun _ e=>(by cases e),hl⟩
theorem FB.act (h:FB K bs w0 w L) (ht:Touch (OfAct (KB K bs)) w w'):FB K bs w0 w' L:=
 ⟨h.t.trans ht (fun k _ e e2=>e (.inl e2)),fun x hx=>ht.keptB (h.bx x hx) (.inr (by rw [<- h.eq];exact List.mem_map.2 ⟨x,hx,rfl⟩)),h.eq,h.nd,h.new,h.lim⟩
theorem FB.fresh (h:FB K bs w0 w L) (ht:Fresh w w'):FB K bs w0 w' L:=h.act (ht.mono fun _ _ e=>e.elim)
theorem FB.alloc (h:FB K bs w0 w L) (t:TypeId) (cs:List Value):FB K (bs++[w.heap.size]) w0 (w.alloc (.cells cs.toArray t)) (L++[⟨w.heap.size,t,cs⟩]):=by
 have hf:Fresh w (w.alloc (.cells cs.toArray t)):=(Touch.refl _ _).alloc _
 refine ⟨h.t.trans hf (fun _ _ e=>e.elim),fun x hx=>?_,by rw [List.map_append,h.eq];rfl,?_,fun b hb=>?_,h.lim⟩
 ·rcases List.mem_append.1 hx with hx | hx
  ·exact hf.blk (h.bx x hx) (fun e=>e)
  ·rw [List.mem_singleton.1 hx];exact Blk.new w t cs
 ·rw [List.nodup_append]
  refine ⟨h.nd,by simp,fun a ha b hb e=>?_⟩
  rw [List.mem_singleton.1 hb] at e
  have:=h.lt a ha
  omega
 ·rcases List.mem_append.1 hb with hb | hb
  ·exact h.new b hb
  ·rw [List.mem_singleton.1 hb];exact h.t.size
theorem FB.al (h:FB K bs w0 w L) (t:TypeId) (cs:List Value) (b:Nat) (hb:w.heap.size=b):FB K (bs++[b]) w0 (w.alloc (.cells cs.toArray t)) (L++[⟨b,t,cs⟩]):=by
 subst hb
 exact h.alloc t cs
theorem FB.put (h:FB K bs w0 w L) (i:Nat) (hx:L[i]?=some x) {cs:List Value} (hb:Blk w' x.b x.t cs) (ht:Touch (· = x.b) w w'):FB K bs w0 w' (L.set i ⟨x.b,x.t,cs⟩):=by
 have hm:=h.mem i hx
 have hi:i<L.length:=(List.getElem?_eq_some_iff.1 hx).1
 have hnd:=h.nd
 refine ⟨h.t.trans ht (fun k hk e e2=>?_),fun y hy=>?_,?_,hnd,h.new,h.lim⟩
 ·have e:k=x.b:=e
  have:=h.new _ hm
  omega
 ·obtain ⟨j,hj,rfl⟩:=List.getElem_of_mem hy
  rw [List.length_set] at hj
  rw [List.getElem_set]
  by_cases e:i=j
  ·rw [if_pos e];exact hb
  ·rw [if_neg e]
   refine ht.blk (h.bx _ (List.getElem_mem hj)) (fun e2=>e ?_)
   have e3:L[i]=x:=(List.getElem?_eq_some_iff.1 hx).2
   rw [<- h.eq] at hnd
   have h1:=(List.getElem_inj (xs:=L.map Bx.b) (i:=i) (j:=j) (h₀:=by simpa using hi) (h₁:=by simpa using hj) hnd).1
   exact h1 (by simp only [List.getElem_map];rw [e3];exact e2.symm)
 ·rw [List.map_set,h.eq]
  have:bs[i]?=some x.b:=by rw [<- h.eq,List.getElem?_map,hx];rfl
  have hib:=(List.getElem?_eq_some_iff.1 this).1
  have hiv:=(List.getElem?_eq_some_iff.1 this).2
  show bs.set i x.b=bs
  rw [<- hiv]
  exact List.set_getElem_self hib
end
namespace Dag
end Dag
end Go.Proofs.YtlbopdfobgjjaaaGreatDoor

/-
  A row that is gone round: the plain mathematics. No program is named · Sets of whole numbers as spans: the plain mathematics. No program is named.
-/
namespace Go.Proofs.YtlbopdfobgjjaaaGreatDoor
def Foot (g:Nat) (b:Option Nat) (k:Nat):Prop:=k=g\/b=some k
theorem wrap_mod (a i L:Nat) (h:a<L) (hi:i<=L):(a+i)%L=if a+i<L then a+i else a+i-L:=by
 split
 ·exact Nat.mod_eq_of_lt (by assumption)
 ·rw [Nat.mod_eq_sub_mod (by omega)]
  exact Nat.mod_eq_of_lt (by omega)
structure Gone {α:Type} (buf:List α) (at_:Nat) (q:List α):Prop where
 len:q.length<=buf.length
 pos:at_<buf.length\/(buf=[]/\at_=0)
 get:∀ i,i<q.length->buf[(at_+i)%buf.length]?=q[i]?
theorem Gone.nil {α:Type}:Gone ([]:List α) 0 []:=⟨by simp,.inr ⟨rfl,rfl⟩,fun i h=>by simp at h⟩
section
variable {α:Type} {buf q:List α} {a:Nat}
theorem Gone.put (h:Gone buf a q) (hl:q.length<buf.length) (v:α):Gone (buf.set ((a+q.length)%buf.length) v) a (q++[v]):=by
 have hp:a<buf.length:=by rcases h.pos with hp | ⟨rfl,_⟩;exact hp;simp at hl
 refine ⟨by simp;omega,.inl (by simpa using hp),fun i hi=>?_⟩
 simp only [List.length_set]
 have hi':i<=q.length:=by simp at hi;omega
 rw [wrap_mod a i _ hp (by omega),wrap_mod a q.length _ hp (by omega)]
 by_cases e:i=q.length
 ·subst e
  have hlt:(if a+q.length<buf.length then a+q.length else a+q.length-buf.length)<buf.length:=by split <;> omega
  simp [hlt]
 ·have hlt:i<q.length:=by omega
  have hne:(if a+q.length<buf.length then a+q.length else a+q.length-buf.length) ≠ (if a+i<buf.length then a+i else a+i-buf.length):=by
   split <;> split <;> omega
  rw [List.getElem?_set_ne hne,List.getElem?_append_left hlt,<- h.get i hlt,wrap_mod a i _ hp (by omega)]
theorem Gone.first (h:Gone buf a q) (hq:0<q.length):a<buf.length/\buf[a]?=q[0]?:=by
 have hp:a<buf.length:=by
  rcases h.pos with hp | ⟨rfl,_⟩
  ·exact hp
  ·have:=h.len;simp at this;subst this;simp at hq
 have:=h.get 0 hq
 rw [Nat.add_zero,Nat.mod_eq_of_lt hp] at this
 exact ⟨hp,this⟩
theorem Gone.take (h:Gone buf a q) (hq:0<q.length) (z:α):Gone (buf.set a z) ((a+1)%buf.length) q.tail:=by
 obtain ⟨hp,_⟩:=h.first hq
 have hw:=wrap_mod a 1 buf.length hp (by omega)
 refine ⟨by simp;have:=h.len;omega,.inl ?_,fun i hi=>?_⟩
 ·simp only [List.length_set];exact Nat.mod_lt _ (by omega)
 ·simp only [List.length_set]
  have hi':i+1<q.length:=by simp at hi;omega
  have hl:=h.len
  have hlt:(a+1)%buf.length<buf.length:=Nat.mod_lt _ (by omega)
  have e:((a+1)%buf.length+i)%buf.length=(a+(i+1))%buf.length:=by
   rw [Nat.mod_add_mod];congr 1;omega
  rw [e,wrap_mod a (i+1) _ hp (by omega)]
  have hne:a ≠ (if a+(i+1)<buf.length then a+(i+1) else a+(i+1)-buf.length):=by split <;> omega
  rw [List.getElem?_set_ne hne,<- wrap_mod a (i+1) _ hp (by omega),h.get (i+1) hi']
  cases q with
  |nil=>simp at hq
  |cons x q=>simp
theorem Gone.whole (q z:List α) (h:0<q.length+z.length):Gone (q++z) 0 q:=by
 refine ⟨by simp,.inl (by simp;omega),fun i hi=>?_⟩
 rw [Nat.zero_add,Nat.mod_eq_of_lt (by simp;omega),List.getElem?_append_left hi]
end
namespace Sp
def mem (s:List (Int × Int)) (n:Int):Prop:=∃ x ∈ s,x.1<=n/\n<x.2
def Canon (s:List (Int × Int)):Prop:=(∀ x ∈ s,x.1<x.2)/\s.Pairwise (fun x y=>x.2<y.1)
theorem mem_nil (n:Int):¬ mem [] n:=by rintro ⟨x,hx,_⟩;cases hx
theorem mem_cons (x:Int × Int) (s:List (Int × Int)) (n:Int):mem (x::s) n ↔ (x.1<=n/\n<x.2)\/mem s n:=by
 constructor
 ·rintro ⟨y,hy,h⟩
  rcases List.mem_cons.1 hy with rfl | hy
  ·exact .inl h
  ·exact .inr ⟨y,hy,h⟩
 ·rintro (h | ⟨y,hy,h⟩)
  ·exact ⟨x,by simp,h⟩
  ·exact ⟨y,by simp [hy],h⟩
theorem mem_append (s t:List (Int × Int)) (n:Int):mem (s++t) n ↔ mem s n\/mem t n:=by
 constructor
 ·rintro ⟨y,hy,h⟩
  rcases List.mem_append.1 hy with hy | hy
  ·exact .inl ⟨y,hy,h⟩
  ·exact .inr ⟨y,hy,h⟩
 ·rintro (⟨y,hy,h⟩ | ⟨y,hy,h⟩)
  ·exact ⟨y,by simp [hy],h⟩
  ·exact ⟨y,by simp [hy],h⟩
theorem Canon.nil:Canon []:=⟨by simp,by simp⟩
theorem Canon.tail {x:Int × Int} {s:List (Int × Int)} (h:Canon (x::s)):Canon s:=⟨fun y hy=>h.1 y (by simp [hy]),(List.pairwise_cons.1 h.2).2⟩
theorem Canon.head {x:Int × Int} {s:List (Int × Int)} (h:Canon (x::s)):x.1<x.2/\∀ y ∈ s,x.2<y.1:=⟨h.1 x (by simp),(List.pairwise_cons.1 h.2).1⟩
theorem Canon.tail_far {x:Int × Int} {s:List (Int × Int)} (h:Canon (x::s)) {n:Int} (hn:mem s n):x.2<n:=by
 obtain ⟨y,hy,h1,_⟩:=hn
 have:=h.head.2 y hy
 omega
theorem Canon.uniq {s t:List (Int × Int)} (hs:Canon s) (ht:Canon t) (h:∀ n,mem s n ↔ mem t n):s=t:=by
 induction s generalizing t with
 |nil =>
  cases t with
  |nil=>rfl
  |cons y t =>
   have:=(h y.1).2 ((mem_cons _ _ _).2 (.inl ⟨Int.le_refl _,ht.head.1⟩))
   exact absurd this (mem_nil _)
 |cons x s ih =>
  cases t with
  |nil =>
   have:=(h x.1).1 ((mem_cons _ _ _).2 (.inl ⟨Int.le_refl _,hs.head.1⟩))
   exact absurd this (mem_nil _)
  |cons y t =>
   have hx:=(h x.1).1 ((mem_cons _ _ _).2 (.inl ⟨Int.le_refl _,hs.head.1⟩))
   have hy:=(h y.1).2 ((mem_cons _ _ _).2 (.inl ⟨Int.le_refl _,ht.head.1⟩))
   have e1:x.1=y.1:=by
    rcases (mem_cons _ _ _).1 hx with hx | hx
    ·rcases (mem_cons _ _ _).1 hy with hy | hy
     ·omega
     ·have:=hs.tail_far hy;have:=hs.head.1;omega
    ·have h1:=ht.tail_far hx
     have h2:=ht.head.1
     rcases (mem_cons _ _ _).1 hy with hy | hy
     ·omega
     ·have:=hs.tail_far hy;have:=hs.head.1;omega
   have hs1:=hs.head.1
   have ht1:=ht.head.1
   have e2:x.2=y.2:=by
    rcases Int.lt_trichotomy x.2 y.2 with hlt | e | hgt
    ·have:=(h x.2).2 ((mem_cons _ _ _).2 (.inl ⟨by omega,hlt⟩))
     rcases (mem_cons _ _ _).1 this with h1 | h1
     ·omega
     ·have:=hs.tail_far h1;omega
    ·exact e
    ·have:=(h y.2).1 ((mem_cons _ _ _).2 (.inl ⟨by omega,hgt⟩))
     rcases (mem_cons _ _ _).1 this with h1 | h1
     ·omega
     ·have:=ht.tail_far h1;omega
   have exy:x=y:=Prod.ext e1 e2
   subst exy
   congr 1
   refine ih hs.tail ht.tail fun n=>?_
   constructor
   ·intro hn
    have h1:=hs.tail_far hn
    rcases (mem_cons _ _ _).1 ((h n).1 ((mem_cons _ _ _).2 (.inr hn))) with h2 | h2
    ·omega
    ·exact h2
   ·intro hn
    have h1:=ht.tail_far hn
    rcases (mem_cons _ _ _).1 ((h n).2 ((mem_cons _ _ _).2 (.inr hn))) with h2 | h2
    ·omega
    ·exact h2
def mergeStep (out:List (Int × Int)) (x:Int × Int):List (Int × Int):=
 match out.getLast? with
 |some y=>if x.1<=y.2 then out.dropLast++[(y.1,max y.2 x.2)] else out++[x]
 |none=>[x]
theorem mergeStep_ok (out:List (Int × Int)) (x:Int × Int) (hc:Canon out) (hx:x.1<x.2) (hle:∀ y ∈ out,y.1<=x.1) :
  Canon (mergeStep out x)/\(∀ n,mem (mergeStep out x) n ↔ mem out n\/(x.1<=n/\n<x.2))/\(∀ y ∈ mergeStep out x,y.1<=x.1):=by
 rcases List.eq_nil_or_concat out with rfl | ⟨o,y,rfl⟩
 ·refine ⟨⟨by simpa [mergeStep] using hx,by simp [mergeStep]⟩,fun n=>?_,by simp [mergeStep]⟩
  show mem [x] n ↔ _
  rw [mem_cons]
  simp [mem_nil]
 ·rw [List.concat_eq_append] at *
  have hm:mergeStep (o++[y]) x=if x.1<=y.2 then o++[(y.1,max y.2 x.2)] else o++[y]++[x]:=by
   unfold mergeStep
   simp
  have hyx:=hle y (by simp)
  have hy:=hc.1 y (by simp)
  obtain ⟨hp1,_,hp2⟩:=List.pairwise_append.1 hc.2
  rw [hm]
  split
  ·rename_i h
   refine ⟨⟨fun z hz=>?_,List.pairwise_append.2 ⟨hp1,by simp,fun a ha b hb=>?_⟩⟩,fun n=>?_,fun z hz=>?_⟩
   ·rcases List.mem_append.1 hz with hz | hz
    ·exact hc.1 z (by simp [hz])
    ·simp at hz;subst hz;show y.1<max y.2 x.2;omega
   ·simp at hb;subst hb;exact hp2 a ha y (by simp)
   ·rw [mem_append,mem_append,mem_cons,mem_cons]
    simp only [mem_nil,or_false]
    constructor
    ·rintro (h1 | h1)
     ·exact .inl (.inl h1)
     ·by_cases h2:n<y.2
      ·exact .inl (.inr ⟨h1.1,h2⟩)
      ·right;omega
    ·rintro ((h1 | h1) | h1)
     ·exact .inl h1
     ·right;omega
     ·right;omega
   ·rcases List.mem_append.1 hz with hz | hz
    ·exact hle z (by simp [hz])
    ·simp at hz;subst hz;exact hyx
  ·rename_i h
   refine ⟨⟨fun z hz=>?_,List.pairwise_append.2 ⟨hc.2,by simp,fun a ha b hb=>?_⟩⟩,fun n=>?_,fun z hz=>?_⟩
   ·rcases List.mem_append.1 hz with hz | hz
    ·exact hc.1 z hz
    ·simp at hz;subst hz;exact hx
   ·simp at hb;subst hb
    rcases List.mem_append.1 ha with ha | ha
    ·have:=hp2 a ha y (by simp);omega
    ·simp at ha;subst ha;omega
   ·rw [mem_append,mem_cons]
    simp [mem_nil]
   ·rcases List.mem_append.1 hz with hz | hz
    ·exact hle z hz
    ·simp at hz;subst hz;exact Int.le_refl _
theorem merge_ok (l out:List (Int × Int)) (hc:Canon out) (hl:∀ x ∈ l,x.1<x.2) (hs:l.Pairwise (fun x y=>x.1<=y.1)) (hle:∀ y ∈ out,∀ x ∈ l,y.1<=x.1) :
  Canon (l.foldl mergeStep out)/\∀ n,mem (l.foldl mergeStep out) n ↔ mem out n\/mem l n:=by
 induction l generalizing out with
 |nil=>exact ⟨hc,fun n=>by simp [mem_nil]⟩
 |cons x l ih =>
  obtain ⟨h1,h2,h3⟩:=mergeStep_ok out x hc (hl x (by simp)) (fun y hy=>hle y hy x (by simp))
  obtain ⟨hsx,hsl⟩:=List.pairwise_cons.1 hs
  obtain ⟨g1,g2⟩:=ih (mergeStep out x) h1 (fun y hy=>hl y (by simp [hy])) hsl (fun y hy z hz=>by have:=h3 y hy;have:=hsx z hz;omega)
  refine ⟨g1,fun n=>?_⟩
  show mem (l.foldl mergeStep (mergeStep out x)) n ↔ _
  rw [g2,h2,mem_cons,or_assoc]
def run (x:Int × Int):List Int:=(List.range (x.2-x.1).toNat).map fun i:Nat=>x.1+i
def nums (s:List (Int × Int)):List Int:=s.flatMap run
def Rising (l:List Int):Prop:=l.Pairwise (· < ·)
theorem mem_run (x:Int × Int) (n:Int):n ∈ run x ↔ x.1<=n/\n<x.2:=by
 unfold run
 rw [List.mem_map]
 constructor
 ·rintro ⟨i,hi,rfl⟩
  have:=List.mem_range.1 hi
  omega
 ·rintro ⟨h1,h2⟩
  exact ⟨(n-x.1).toNat,List.mem_range.2 (by omega),by omega⟩
theorem mem_nums (s:List (Int × Int)) (n:Int):n ∈ nums s ↔ mem s n:=by
 unfold nums mem
 rw [List.mem_flatMap]
 constructor
 ·rintro ⟨x,hx,h⟩;exact ⟨x,hx,(mem_run x n).1 h⟩
 ·rintro ⟨x,hx,h⟩;exact ⟨x,hx,(mem_run x n).2 h⟩
theorem run_rising (x:Int × Int):Rising (run x):=by
 unfold Rising run
 rw [List.pairwise_map]
 exact List.Pairwise.imp (fun h=>by omega) List.pairwise_lt_range
theorem nums_rising (s:List (Int × Int)) (h:Canon s):Rising (nums s):=by
 induction s with
 |nil=>exact List.Pairwise.nil
 |cons x s ih =>
  show Rising (run x++nums s)
  refine List.pairwise_append.2 ⟨run_rising x,ih h.tail,fun a ha b hb=>?_⟩
  have h1:=(mem_run x a).1 ha
  have h2:=h.tail_far ((mem_nums s b).1 hb)
  omega
theorem Rising.uniq {l m:List Int} (hl:Rising l) (hm:Rising m) (h:∀ n,n ∈ l ↔ n ∈ m):l=m:=by
 induction l generalizing m with
 |nil =>
  cases m with
  |nil=>rfl
  |cons y m=>exact absurd ((h y).2 (by simp)) (by simp)
 |cons x l ih =>
  cases m with
  |nil=>exact absurd ((h x).1 (by simp)) (by simp)
  |cons y m =>
   obtain ⟨hx,hl'⟩:=List.pairwise_cons.1 hl
   obtain ⟨hy,hm'⟩:=List.pairwise_cons.1 hm
   have e:x=y:=by
    rcases List.mem_cons.1 ((h x).1 (by simp)) with h1 | h1
    ·exact h1
    ·rcases List.mem_cons.1 ((h y).2 (by simp)) with h2 | h2
     ·exact h2.symm
     ·have:=hx y h2;have:=hy x h1;omega
   subst e
   congr 1
   refine ih hl' hm' fun n=>?_
   constructor
   ·intro hn
    rcases List.mem_cons.1 ((h n).1 (by simp [hn])) with e | h1
    ·have:=hx n hn;omega
    ·exact h1
   ·intro hn
    rcases List.mem_cons.1 ((h n).2 (by simp [hn])) with e | h1
    ·have:=hy n hn;omega
    ·exact h1
end Sp
end Go.Proofs.YtlbopdfobgjjaaaGreatDoor

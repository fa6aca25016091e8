/-
  Memory words of this place's proofs: a block known whole ('Blk'), what a call may turn ('Touch'). Over any world; no program is named · Plain arithmetic as the walk writes it. No program is named · PolliwogWhole in plain words: bytes, words of four bytes, units as bytes. No program is named.
-/
import Derived.WalkKit
import Derived.WalkSpells
import Derived.WalkLawsBesides
import Derived.Deep.Draws
import Derived.Lib.Hide
import Derived.Lib.Strings
namespace Go.Proofs.YtlbopdfobgjjaaaGreatDoor
open Go.RowKit
def Blk (w:World) (g:Nat) (t:TypeId) (cs:List Value):Prop:=w.heap[g]?=some (.cells cs.toArray t (0,0))
structure Touch (S:Nat->Prop) (w w':World):Prop where
 os:w'.os=w.os
 tape:w'.tape=w.tape
 output:w'.output=w.output
 size:w.heap.size<=w'.heap.size
 block:∀ k,k<w.heap.size->¬ S k->w'.heap[k]?=w.heap[k]?
section
variable {w w' w'':World} {g g':Nat} {t t':TypeId} {cs cs':List Value} {S T U:Nat->Prop}
theorem Blk.lt (h:Blk w g t cs):g<w.heap.size:=by
 rcases Nat.lt_or_ge g w.heap.size with hlt | hge
 ·exact hlt
 ·unfold Blk at h;rw [Array.getElem?_eq_none hge] at h;cases h
theorem Blk.cell (h:Blk w g t cs) (i:Nat):w.cell? ⟨g,i,none⟩=cs[i]?:=by
 rw [cell_of_row w g i cs.toArray t (0,0) h];simp
theorem Blk.frozen (h:Blk w g t cs) (i:Nat):w.frozen? ⟨g,i,none⟩=false:=by
 unfold Blk at h
 simp [World.frozen?,h]
theorem Blk.new (w:World) (t:TypeId) (cs:List Value):Blk (w.alloc (.cells cs.toArray t)) w.heap.size t cs:=heap_alloc_new w _
theorem Blk.drew (h:Blk w g t cs):Blk w.drew g t cs:=h
theorem Blk.drewN (h:Blk w g t cs) (n:Nat):Blk (w.drewN n) g t cs:=h
theorem Blk.alloc (h:Blk w g t cs) (o:Obj):Blk (w.alloc o) g t cs:=(Below.heap_alloc w o g h.lt).trans h
theorem Blk.set (h:Blk w g t cs) (i:Nat) (u:Value):Blk (w.setCell ⟨g,i,none⟩ u) g t (cs.set i u):=by
 unfold Blk at h ⊢
 simp [World.setCell,Array.getElem?_modify,h]
theorem Blk.far (h:Blk w g t cs) {p:Addr} (hp:g ≠ p.block) (u:Value):Blk (w.setCell p u) g t cs:=(Below.heap_setCell w p u g hp).trans h
theorem Blk.ne_ (h:Blk w g t cs) (h':Blk w g' t' cs') (hne:t ≠ t'):g ≠ g':=by
 rintro rfl
 unfold Blk at h h'
 rw [h] at h'
 injection h' with h'
 injection h' with _ ht
 exact hne ht
theorem Blk.eq_cells (h:Blk w g t cs) (e:cs=cs'):Blk w g t cs':=e ▸ h
theorem Touch.refl (S:Nat->Prop) (w:World):Touch S w w:=⟨rfl,rfl,rfl,Nat.le_refl _,fun _ _ _=>rfl⟩
theorem Touch.trans (h:Touch S w w') (h':Touch T w' w'') (hT:∀ k,k<w.heap.size->T k->S k):Touch S w w'':=
 ⟨h'.os.trans h.os,h'.tape.trans h.tape,h'.output.trans h.output,Nat.le_trans h.size h'.size,
  fun k hk hs=>(h'.block k (Nat.lt_of_lt_of_le hk h.size) (fun c=>hs (hT k hk c))).trans (h.block k hk hs)⟩
theorem Touch.mono (h:Touch S w w') (hT:∀ k,k<w.heap.size->S k->T k):Touch T w w':=
 ⟨h.os,h.tape,h.output,h.size,fun k hk hs=>h.block k hk fun c=>hs (hT k hk c)⟩
theorem Touch.drew (h:Touch S w w'):Touch S w w'.drew:=⟨h.os,h.tape,h.output,h.size,h.block⟩
theorem Touch.drewN (h:Touch S w w') (n:Nat):Touch S w (w'.drewN n):=⟨h.os,h.tape,h.output,h.size,h.block⟩
theorem Touch.alloc (h:Touch S w w') (o:Obj):Touch S w (w'.alloc o):=
 ⟨h.os,h.tape,h.output,by have:=h.size;simp;omega,fun k hk hs=>(Below.heap_alloc w' o k (Nat.lt_of_lt_of_le hk h.size)).trans (h.block k hk hs)⟩
theorem Touch.setCell (h:Touch S w w') {p:Addr} (hp:p.block<w.heap.size->S p.block) (u:Value):Touch S w (w'.setCell p u):=
 ⟨h.os,h.tape,h.output,by simpa using h.size,fun k hk hs=>(Below.heap_setCell w' p u k (fun e=>hs (e ▸ hp (e ▸ hk)))).trans (h.block k hk hs)⟩
theorem Touch.set1 (w:World) (g i:Nat) (u:Value):Touch (· = g) w (w.setCell ⟨g,i,none⟩ u):=by
 refine Touch.setCell (Touch.refl _ w) ?_ u
 intro _
 rfl
theorem Touch.st (h:Touch S w w') {g i:Nat} {u:Value} (hs:S g):Touch S w (w'.setCell ⟨g,i,none⟩ u):=h.setCell (fun _=>hs) _
theorem Touch.blk (h:Touch S w w') (hb:Blk w g t cs) (hs:¬ S g):Blk w' g t cs:=(h.block g hb.lt hs).trans hb
theorem Touch.below (h:Touch S w w') {B:Nat} (hB:B<=w.heap.size) (hs:∀ k,k<B->¬ S k):Below B w w':=
 ⟨h.os,h.tape,h.output,h.size,fun k hk=>h.block k (by omega) (hs k hk)⟩
theorem Touch.of_below {B:Nat} (h:Below B w w') (hs:∀ k,k<w.heap.size->¬ S k->k<B):Touch S w w':=
 ⟨h.os,h.tape,h.output,h.size,fun k hk c=>h.block k (hs k hk c)⟩
theorem Touch.grownBy {r:Option Nat} (h:Touch S w w') (hs:∀ k,k<w.heap.size->S k->some k=r):w.grownBy w' r:=
 ⟨h.os,h.tape,h.output,h.size,fun k hk c=>h.block k hk fun s=>c (hs k hk s)⟩
theorem lh {p:Prop} (h:p):Hid p:=h
theorem xq {α:Sort _} (a:α):∃ x,x=a:=⟨a,rfl⟩
theorem qx {α:Sort _} (a:α):∃ x,a=x:=⟨a,rfl⟩
theorem Blk.a5 {w:World} {g:Nat} {t:TypeId} {a0 a1 a2 a3 a4:Value} (h:Blk w g t [a0,a1,a2,a3,a4]):w.cell? ⟨g,0,none⟩=some a0/\w.cell? ⟨g,1,none⟩=some a1/\w.cell? ⟨g,2,none⟩=some a2/\w.cell? ⟨g,3,none⟩=some a3/\w.cell? ⟨g,4,none⟩=some a4:=⟨h.cell 0,h.cell 1,h.cell 2,h.cell 3,h.cell 4⟩
theorem Blk.a8 {w:World} {g:Nat} {t:TypeId} {a0 a1 a2 a3 a4 a5 a6 a7:Value} (h:Blk w g t [a0,a1,a2,a3,a4,a5,a6,a7]):w.cell? ⟨g,0,none⟩=some a0/\w.cell? ⟨g,1,none⟩=some a1/\w.cell? ⟨g,2,none⟩=some a2/\w.cell? ⟨g,3,none⟩=some a3/\w.cell? ⟨g,4,none⟩=some a4/\w.cell? ⟨g,5,none⟩=some a5/\w.cell? ⟨g,6,none⟩=some a6/\w.cell? ⟨g,7,none⟩=some a7:=⟨h.cell 0,h.cell 1,h.cell 2,h.cell 3,h.cell 4,h.cell 5,h.cell 6,h.cell 7⟩
end
abbrev Fresh:World->World->Prop:=Touch (fun _=>False)
structure El (α:Type) where
 e:TypeId
 size:Nat
 bytes:Nat
 zero:Value
 zel:α
 enc:α->List Value
 len:∀ a,(enc a).length=size
 one:∀ a,∀ u ∈ enc a,u.oneCell'=true
 pos:0<size
 zsize:zero.cells.size=size
 zenc:enc zel=zero.cells.toList
def El.all {α:Type} (E:El α) (l:List α):List Value:=l.flatMap E.enc
theorem El.all_len {α:Type} (E:El α) (l:List α):(E.all l).length=l.length*E.size:=by
 induction l with
 |nil=>simp [El.all]
 |cons a l ih =>
  have:E.all (a::l)=E.enc a++E.all l:=by simp [El.all]
  rw [this,List.length_append,ih,E.len,List.length_cons,Nat.add_mul,Nat.one_mul,Nat.add_comm]
theorem El.all_cons {α:Type} (E:El α) (a:α) (l:List α):E.all (a::l)=E.enc a++E.all l:=rfl
theorem El.all_append {α:Type} (E:El α) (l l':List α):E.all (l++l')=E.all l++E.all l':=by simp [El.all]
theorem El.all_one {α:Type} (E:El α) (l:List α):∀ u ∈ E.all l,u.oneCell'=true:=by
 intro u hu
 obtain ⟨a,_,ha⟩:=List.mem_flatMap.1 hu
 exact E.one a u ha
theorem El.all_drop {α:Type} (E:El α) (l:List α) (k:Nat):(E.all l).drop (k*E.size)=E.all (l.drop k):=by
 induction k generalizing l with
 |zero=>simp
 |succ k ih =>
  cases l with
  |nil=>simp [El.all]
  |cons a l =>
   have:E.all (a::l)=E.enc a++E.all l:=by simp [El.all]
   rw [this,Nat.add_mul,Nat.one_mul,Nat.add_comm,<- List.drop_drop,List.drop_left' (E.len a),ih,List.drop_succ_cons]
theorem El.all_take {α:Type} (E:El α) (l:List α) (k:Nat):(E.all l).take (k*E.size)=E.all (l.take k):=by
 induction k generalizing l with
 |zero=>simp [El.all]
 |succ k ih =>
  cases l with
  |nil=>simp [El.all]
  |cons a l =>
   have h1:E.all (a::l)=E.enc a++E.all l:=by simp [El.all]
   have h2:E.all (a::l.take k)=E.enc a++E.all (l.take k):=by simp [El.all]
   rw [h1,List.take_succ_cons,h2,Nat.add_mul,Nat.one_mul,Nat.add_comm,List.take_add,List.take_left' (E.len a),List.drop_left' (E.len a),ih]
theorem El.all_get {α:Type} (E:El α) (l:List α) (j:Nat) (u:Value) (h:(E.all l)[j]?=some u):∃ (i f:Nat) (hi:i<l.length),j=i*E.size+f/\f<E.size/\(E.enc l[i])[f]?=some u:=by
 induction l generalizing j with
 |nil=>simp [El.all] at h
 |cons a l ih =>
  rw [E.all_cons] at h
  by_cases hj:j<E.size
  ·rw [List.getElem?_append_left (by rw [E.len];exact hj)] at h
   exact ⟨0,j,by simp,by omega,hj,h⟩
  ·rw [List.getElem?_append_right (by rw [E.len];omega),E.len] at h
   obtain ⟨i,f,hi,e,hf,hu⟩:=ih _ h
   exact ⟨i+1,f,by simpa using hi,by rw [Nat.add_mul];omega,hf,by simpa using hu⟩
theorem exists_list {α:Type} {n:Nat} {p:Nat->α->Prop} (h:∀ i,i<n->∃ a,p i a):∃ l:List α,l.length=n/\∀ (i:Nat) (hi:i<l.length),p i l[i]:=by
 induction n with
 |zero=>exact ⟨[],rfl,fun i hi=>by simp at hi⟩
 |succ n ih =>
  obtain ⟨l,hl,hp⟩:=ih fun i hi=>h i (by omega)
  obtain ⟨a,ha⟩:=h n (by omega)
  refine ⟨l++[a],by simp [hl],fun i hi=>?_⟩
  by_cases hi':i<l.length
  ·rw [List.getElem_append_left hi'];exact hp i hi'
  ·have:i=n:=by simp at hi;omega
   subst this
   rw [List.getElem_append_right (by omega)]
   simpa [hl] using ha
def Sl {α:Type} (E:El α) (w:World) (A:Option Addr) (c:Nat) (l:List α):Prop:=
 l.length<=c/\c<=maxLen/\(A=none->c=0) /\
 ∀ ad,A=some ad->ad.spot=none/\∃ cs,Blk w ad.block E.e cs/\ad.off+c*E.size<=cs.length/\(cs.drop ad.off).take (l.length*E.size)=E.all l
section
variable {α:Type} {E:El α} {w w':World} {A:Option Addr} {c:Nat} {l:List α}
theorem Sl.nil (E:El α) (w:World):Sl E w none 0 []:=⟨by simp,by simp [maxLen],fun _=>rfl,fun _ h=>by cases h⟩
theorem Sl.keep (h:Sl E w A c l) (hk:∀ ad,A=some ad->w'.heap[ad.block]?=w.heap[ad.block]?):Sl E w' A c l:=
 ⟨h.1,h.2.1,h.2.2.1,fun ad ha=>by
  obtain ⟨h1,cs,hb,h2⟩:=h.2.2.2 ad ha
  exact ⟨h1,cs,(hk ad ha).trans hb,h2⟩⟩
theorem Sl.lt (h:Sl E w A c l):∀ ad,A=some ad->ad.block<w.heap.size:=fun ad ha=>by
 obtain ⟨_,cs,hb,_⟩:=h.2.2.2 ad ha
 exact hb.lt
theorem Sl.touch {S:Nat->Prop} (h:Sl E w A c l) (ht:Touch S w w') (hs:∀ ad,A=some ad->¬ S ad.block):Sl E w' A c l:=
 h.keep fun ad ha=>ht.block _ (h.lt ad ha) (hs ad ha)
theorem Sl.drew (h:Sl E w A c l):Sl E w.drew A c l:=h
theorem Sl.alloc (h:Sl E w A c l) (o:Obj):Sl E (w.alloc o) A c l:=h.keep fun ad ha=>Below.heap_alloc w o _ (h.lt ad ha)
theorem Sl.setCell (h:Sl E w A c l) {p:Addr} (hp:∀ ad,A=some ad->ad.block ≠ p.block) (u:Value):Sl E (w.setCell p u) A c l:=
 h.keep fun ad ha=>Below.heap_setCell w p u _ (hp ad ha)
theorem Sl.blk_ne {g:Nat} {t:TypeId} {cs:List Value} (h:Sl E w A c l) (hb:Blk w g t cs) (ht:E.e ≠ t):∀ ad,A=some ad->ad.block ≠ g:=fun ad ha=>by
 obtain ⟨_,cs',hb',_⟩:=h.2.2.2 ad ha
 exact hb'.ne_ hb ht
theorem Sl.cells (h:Sl E w A c l) (ad:Addr) (ha:A=some ad):∀ j u,(E.all l)[j]?=some u->w.cell? (ad.add j)=some u:=by
 intro j u hu
 obtain ⟨hs,cs,hb,hl,he⟩:=h.2.2.2 ad ha
 obtain ⟨g,o,sp⟩:=ad
 obtain rfl:sp=none:=hs
 rw [Addr.add_lit,hb.cell]
 have hj:j<(E.all l).length:=(List.getElem?_eq_some_iff.1 hu).1
 rw [<- he] at hu
 rw [List.getElem?_take,if_pos (by rw [El.all_len] at hj;exact hj),List.getElem?_drop] at hu
 exact hu
theorem Sl.at_ (h:Sl E w A c l) (k:Nat) (hk:k<l.length):∃ g o,A=some ⟨g,o,none⟩/\g<w.heap.size/\∀ f u,(E.enc l[k])[f]?=some u->w.cell? ⟨g,o+(k*E.size+f),none⟩=some u:=by
 cases A with
 |none=>have:=h.2.2.1 rfl;have:=h.1;omega
 |some ad =>
  obtain ⟨hs,cs,hb,hl,he⟩:=h.2.2.2 ad rfl
  obtain ⟨g,o,sp⟩:=ad
  obtain rfl:sp=none:=hs
  refine ⟨g,o,rfl,hb.lt,fun f u hu=>?_⟩
  have:=h.cells ⟨g,o,none⟩ rfl (k*E.size+f) u (by
   have h1:(E.all l).drop (k*E.size)=E.all (l.drop k):=E.all_drop l k
   have h2:(E.all l)[k*E.size+f]?=(E.all (l.drop k))[f]?:=by rw [<- h1,List.getElem?_drop]
   rw [h2,List.drop_eq_getElem_cons hk]
   rw [E.all_cons,List.getElem?_append_left (List.getElem?_eq_some_iff.1 hu).1]
   exact hu)
  rw [Addr.add_lit] at this
  exact this
theorem Sl.frozen (h:Sl E w A c l) (g o:Nat) (ha:A=some ⟨g,o,none⟩) (j:Nat):w.frozen? ⟨g,j,none⟩=false:=by
 obtain ⟨_,cs,hb,_⟩:=h.2.2.2 _ ha
 exact hb.frozen j
theorem Sl.from_ (h:Sl E w A c l) {k:Nat} (hk:k<=l.length):Sl E w (if c=k then A else A.map (·.add (k*E.size))) (c-k) (l.drop k):=by
 refine ⟨by have:=h.1;simp;omega,by have:=h.2.1;omega,fun ha=>?_,fun ad ha=>?_⟩
 ·by_cases hck:c=k
  ·omega
  ·rw [if_neg hck] at ha
   cases A with
   |none=>have:=h.2.2.1 rfl;omega
   |some ad=>cases ha
 ·by_cases hck:c=k
  ·subst hck
   rw [if_pos rfl] at ha
   obtain ⟨h1,cs,hb,h2,h3⟩:=h.2.2.2 ad ha
   have hz:l.length=c:=by have:=h.1;omega
   refine ⟨h1,cs,hb,by simp;omega,?_⟩
   rw [List.drop_of_length_le (by omega)]
   simp [El.all]
  ·rw [if_neg hck] at ha
   cases A with
   |none=>cases ha
   |some ad0 =>
    obtain ⟨h1,cs,hb,h2,h3⟩:=h.2.2.2 ad0 rfl
    simp only [Option.map_some,Option.some.injEq] at ha
    subst ha
    obtain ⟨g,o,sp⟩:=ad0
    obtain rfl:sp=none:=h1
    rw [Addr.add_lit]
    refine ⟨rfl,cs,hb,?_,?_⟩
    ·simp only at h2 ⊢
     have:(c-k)*E.size+k*E.size=c*E.size:=by rw [<- Nat.add_mul];congr 1;have:=h.1;omega
     omega
    ·rw [<- E.all_drop,<- h3]
     simp only [List.drop_take,List.drop_drop,List.length_drop]
     rw [Nat.sub_mul]
theorem Sl.lit (E:El α) (w:World) (g:Nat) (hg:w.heap.size=g) (cs:Array Value) (l:List α) (hl:cs.toList=E.all l) (n:Nat) (hn:n=l.length) (hm:n<=maxLen) :
  Sl E (w.alloc (.cells cs E.e)) (some ⟨g,0,none⟩) n l:=by
 subst hn
 refine ⟨Nat.le_refl _,hm,fun h=>by (cases h),fun ad ha=>?_⟩
 injection ha with ha
 subst ha
 refine ⟨rfl,E.all l,?_,by simp [El.all_len],?_⟩
 ·rw [<- hg,<- hl]
  simpa using Blk.new w E.e cs.toList
 ·rw [List.drop_zero,<- El.all_len,List.take_length]
theorem Sl.of_own {base:Nat} {n:Nat} (h:w.ownsRow base E.e E.size (.slice A n c) n (E.all l)) (hn:n=l.length):Sl E w A c l:=by
 subst hn
 rcases h.2 with ⟨hv,h0⟩ | ⟨g,cap,cur,hv,_,hg,h1,h2,h3,h4⟩
 ·injection hv with hA _ hc
  subst hA hc
  have:l=[]:=List.eq_nil_of_length_eq_zero h0
  subst this
  exact Sl.nil E w
 ·injection hv with hA _ hc
  subst hA hc
  refine ⟨h1,h2,fun h=>by (cases h),fun ad ha=>?_⟩
  injection ha with ha
  subst ha
  refine ⟨rfl,cur.toList,by simpa [Blk] using hg,by simp;omega,by simpa using h4⟩
end
def Rd {α:Type} (E:El α) (w:World) (A:Option Addr) (c:Nat) (l:List α):Prop:=
 l.length<=c/\c<=maxLen/\(A=none->c=0)/\∀ ad,A=some ad->∀ j u,(E.all l)[j]?=some u->w.cell? (ad.add j)=some u
section
variable {α:Type} {E:El α} {w w':World} {A:Option Addr} {c:Nat} {l:List α}
theorem Sl.rd (h:Sl E w A c l):Rd E w A c l:=⟨h.1,h.2.1,h.2.2.1,fun ad ha=>h.cells ad ha⟩
theorem Rd.nil (E:El α) (w:World):Rd E w none 0 []:=(Sl.nil E w).rd
theorem Rd.at_ (h:Rd E w A c l) (k:Nat) (hk:k<l.length):∃ g o,A=some ⟨g,o,none⟩/\g<w.heap.size/\∀ f u,(E.enc l[k])[f]?=some u->w.cell? ⟨g,o+(k*E.size+f),none⟩=some u:=by
 cases A with
 |none=>have:=h.2.2.1 rfl;have:=h.1;omega
 |some ad =>
  have hc:=h.2.2.2 ad rfl
  have hall:=E.all_len l
  have hpos:0<(E.all l).length:=by rw [hall];exact Nat.mul_pos (by omega) E.pos
  have h0:=hc 0 _ (List.getElem?_eq_getElem hpos)
  obtain ⟨g,o,sp⟩:=ad
  have hsp:sp=none:=by simpa [Addr.add] using World.cell?_spot h0
  subst hsp
  rw [Addr.add_lit] at h0
  refine ⟨g,o,rfl,World.block_lt_of_cell? w _ h0,fun f u hu=>?_⟩
  have:=hc (k*E.size+f) u (by
   have h1:(E.all l).drop (k*E.size)=E.all (l.drop k):=E.all_drop l k
   have h2:(E.all l)[k*E.size+f]?=(E.all (l.drop k))[f]?:=by rw [<- h1,List.getElem?_drop]
   rw [h2,List.drop_eq_getElem_cons hk,E.all_cons,List.getElem?_append_left (List.getElem?_eq_some_iff.1 hu).1]
   exact hu)
  rw [Addr.add_lit] at this
  exact this
theorem Rd.keep (h:Rd E w A c l) (hk:∀ ad,A=some ad->∀ j u,(E.all l)[j]?=some u->w'.cell? (ad.add j)=w.cell? (ad.add j)):Rd E w' A c l:=
 ⟨h.1,h.2.1,h.2.2.1,fun ad ha j u hu=>(hk ad ha j u hu).trans (h.2.2.2 ad ha j u hu)⟩
theorem Rd.lt (h:Rd E w A c l) (hl:0<l.length):∀ ad,A=some ad->ad.block<w.heap.size:=fun ad ha=>by
 obtain ⟨g,o,hA,hg,_⟩:=h.at_ 0 hl
 rw [ha] at hA
 injection hA with hA
 subst hA
 exact hg
theorem block_of_add (a:Addr) (n:Nat):(a.add n).block=a.block:=by unfold Addr.add;split <;> rfl
theorem Rd.touch {S:Nat->Prop} (h:Rd E w A c l) (ht:Touch S w w') (hs:∀ ad,A=some ad->0<l.length->¬ S ad.block):Rd E w' A c l:=by
 refine h.keep fun ad ha j u hu=>?_
 have hpos:0<l.length:=by
  cases l with
  |nil=>simp [El.all] at hu
  |cons a l=>simp
 refine World.cell?_of_block ?_
 rw [block_of_add]
 exact ht.block _ (h.lt hpos ad ha) (hs ad ha hpos)
theorem Rd.alloc (h:Rd E w A c l) (o:Obj):Rd E (w.alloc o) A c l:=h.touch ((Touch.refl (fun _=>False) w).alloc o) (fun _ _ _ h=>h)
end
section
variable {α:Type} (E:El α) {P:Program} {w:World}
theorem Rd.first {A:Option Addr} {c:Nat} {l:List α} (h:Rd E w A c l) (w1:World) (hw:w1.heap=w.heap):(Builtin.firstCells E.size l.length (.slice A l.length c)).run P w1=.ok (E.all l).toArray w1:=by
 cases A with
 |none =>
  have h0:=h.2.2.1 rfl
  have:l=[]:=List.eq_nil_of_length_eq_zero (by have:=h.1;omega)
  subst this
  simp [Builtin.firstCells,El.all]
 |some ad =>
  refine run_firstCells_some w1 E.size l.length ad l.length c (E.all l) (E.all_len l) (fun j u hj=>?_)
  rw [<- h.2.2.2 ad rfl j u hj]
  exact World.cell?_of_block (by rw [hw])
theorem run_app (T ty:TypeId) (i:TypeInfo) (hT:P.underlying T=some (.slice E.e)) (hi:P.info? E.e=some i) (hz:i.zero=some E.zero) (hs:i.size=E.size) (hb:i.bytes=E.bytes)
  {A A2:Option Addr} {c c2:Nat} {l l2:List α} (h:Sl E w A c l) (h2:Rd E w A2 c2 l2) (hm:l.length+l2.length<=maxLen) (hby:(l.length+l2.length)*E.bytes<=140737488355328) :
  ∃ A' c' w',(Builtin.append_ #[T,T] ty #[.slice A l.length c,.slice A2 l2.length c2]).run P w=.ok (.slice A' (l++l2).length c') w'/\Sl E w' A' c' (l++l2) /\
   Touch (fun k=>A.map Addr.block=some k) w w'/\(A'.map Addr.block=A.map Addr.block\/A'.map Addr.block=some w.heap.size):=by
 have hsmall:l.length+l2.length<=9223372036854775807:=by simp only [maxLen] at hm;omega
 by_cases hr:l.length+l2.length<=c
 ·cases A with
  |none =>
   have h0:=h.2.2.1 rfl
   subst h0
   have e1:l=[]:=List.eq_nil_of_length_eq_zero (by omega)
   have e2:l2=[]:=List.eq_nil_of_length_eq_zero (by omega)
   subst e1 e2
   have hf:=h2.first (P:=P) E w rfl
   simp only [El.all,List.flatMap_nil,List.length_nil] at hf
   refine ⟨none,0,w,?_,by simpa using h,Touch.refl _ _,.inl rfl⟩
   simp [Builtin.append_,run_underlying hT,sizeOf,typeInfo,hi,Builtin.lenOf,hs,hf]
  |some ad =>
   obtain ⟨hsp,cs,hblk,hfit,he⟩:=h.2.2.2 ad rfl
   obtain ⟨g,o,sp⟩:=ad
   obtain rfl:sp=none:=hsp
   simp only at hblk hfit he
   have hf:=h2.first (P:=P) E w rfl
   have hlen:(l.length+l2.length)*E.size<=c*E.size:=Nat.mul_le_mul_right _ hr
   rw [Nat.add_mul] at hlen
   have hst:=run_storeCells_at P g (o+l.length*E.size) E.e (E.all l2) 0 cs.toArray w hblk (by rw [E.all_len];simp;omega) (E.all_one l2)
   simp only [Nat.add_zero] at hst
   have hrun:(Builtin.append_ #[T,T] ty #[.slice (some ⟨g,o,none⟩) l.length c,.slice A2 l2.length c2]).run P w=.ok (.slice (some ⟨g,o,none⟩) (l++l2).length c)
     (w.setRow g (cs.take (o+l.length*E.size)++E.all l2++cs.drop (o+l.length*E.size+(E.all l2).length)).toArray):=by
    simp [Builtin.append_,run_underlying hT,sizeOf,typeInfo,hi,Builtin.lenOf,hs,hf,hr,Addr.add_lit,hst,List.length_append]
   refine ⟨_,_,_,hrun,⟨by simp;omega,h.2.1,fun h=>by (cases h),fun ad ha=>?_⟩,⟨rfl,rfl,rfl,by simp,fun k _ hk=>setRow_other w g k _ (fun e=>hk (by simp [e]))⟩,.inl rfl⟩
   injection ha with ha
   subst ha
   refine ⟨rfl,_,setRow_heap w g cs.toArray _ E.e _ hblk,?_,?_⟩
   ·simp only [List.length_append,List.length_take,List.length_drop,E.all_len]
    omega
   ·have e0:(cs.take (o+l.length*E.size)++E.all l2++cs.drop (o+l.length*E.size+(E.all l2).length)).drop o=E.all l++E.all l2++cs.drop (o+l.length*E.size+(E.all l2).length):=by
     rw [List.append_assoc,List.drop_append_of_le_length (by simp;omega),List.drop_take]
     have:o+l.length*E.size-o=l.length*E.size:=by omega
     rw [this,he,List.append_assoc]
    simp only at e0 ⊢
    rw [e0,E.all_append,List.take_left' (by rw [<- E.all_append,E.all_len])]
 ·have hn:¬ (l.length+l2.length<=c):=hr
  have hf:=h2.first (P:=P) E w.drew rfl
  have hfo:=h.rd.first (P:=P) E w.drew rfl
  have h63':¬ (9223372036854775807<((l.length:Int)+(l2.length:Int))):=by omega
  have hfit:Builtin.nextslicecap (l.length+l2.length) c*E.bytes<=281474976710656:=growslice_fits (by omega) hby
  have h48':¬ (281474976710656<Builtin.nextslicecap (l.length+l2.length) c*E.bytes):=by omega
  have hge:=grownCap_ge w (l.length+l2.length) c E.e
  have hcm:=grownCap_le_maxLen w (l.length+l2.length) c E.e hm
  have hrun:(Builtin.append_ #[T,T] ty #[.slice A l.length c,.slice A2 l2.length c2]).run P w =
    .ok (.slice (some ⟨w.heap.size,0,none⟩) (l++l2).length (grownCap w (l.length+l2.length) c E.e))
     (w.drew.alloc (.cells ((E.all l).toArray++(E.all l2).toArray++Builtin.zeroCells E.zero.cells (grownCap w (l.length+l2.length) c E.e-(l.length+l2.length))) E.e)):=by
   simp [Builtin.append_,run_underlying hT,sizeOf,typeInfo,zeroValue,hi,hz,hs,hb,Builtin.lenOf,hn,h63',h48',Question.forced,hf,hfo,newRow,grownCap]
   rw [<- Array.append_assoc]
   simp
  refine ⟨_,_,_,hrun,⟨by simp;omega,hcm,fun h=>by (cases h),fun ad ha=>?_⟩,⟨rfl,rfl,rfl,by simp,fun k hk _=>Below.heap_alloc w.drew _ k hk⟩,.inr rfl⟩
  injection ha with ha
  subst ha
  refine ⟨rfl,E.all l++E.all l2++(Builtin.zeroCells E.zero.cells (grownCap w (l.length+l2.length) c E.e-(l.length+l2.length))).toList,?_,?_,?_⟩
  ·have:=Blk.new w.drew E.e (E.all l++E.all l2++(Builtin.zeroCells E.zero.cells (grownCap w (l.length+l2.length) c E.e-(l.length+l2.length))).toList)
   have e0:∀ (a b:List Value) (z:Array Value),(a++b++z.toList).toArray=a.toArray++b.toArray++z:=by intro a b z;simp [<- Array.append_assoc,<- List.append_toArray]
   rw [e0] at this
   exact this
  ·simp only [List.length_append,E.all_len,Array.length_toList,size_zeroCells,E.zsize,Nat.zero_add]
   rw [<- Nat.add_mul,<- Nat.add_mul]
   exact Nat.mul_le_mul_right _ (by omega)
  ·rw [List.drop_zero,E.all_append,List.take_left' (by rw [<- E.all_append,E.all_len])]
theorem wp_app {o:Oper} {a:Act} {K:Act->World->Prop} {Q:Exit->Act->World->Prop} {s x:Operand} {T:TypeId}
  (ho:o.op=.call { callee:=.builtin .append,args:=#[s,x],argTypes:=#[T,T] })
  (i:TypeInfo) (hT:P.underlying T=some (.slice E.e)) (hi:P.info? E.e=some i) (hz:i.zero=some E.zero) (hs:i.size=E.size) (hb:i.bytes=E.bytes)
  {A A2:Option Addr} {c c2:Nat} {l l2:List α} (es:a.eval s=.slice A l.length c) (ex:a.eval x=.slice A2 l2.length c2)
  (h:Sl E w A c l) (h2:Rd E w A2 c2 l2) (hm:l.length+l2.length<=maxLen) (hby:(l.length+l2.length)*E.bytes<=140737488355328)
  (hK:∀ A' c' L w',Hid (L=l++l2)->Sl E w' A' c' L->Touch (fun k=>A.map Addr.block=some k) w w'->(A'.map Addr.block=A.map Addr.block\/A'.map Addr.block=some w.heap.size) ->
   K (a.put o.dst (.slice A' L.length c')) w'):o.wp P a w K Q:=by
 obtain ⟨A',c',w',hr,h3,h4,h5⟩:=run_app E (P:=P) T o.type i hT hi hz hs hb h h2 hm hby
 unfold Oper.wp execOp
 simp only [ho,resolve,invoke,builtin,Sem.run_bind,Sem.run_pure,Result.andThen_ok,List.map_toArray,List.map_cons,List.map_nil,es,ex,hr]
 exact hK A' c' (l++l2) w' rfl h3 h4 h5
theorem wpList_app {ops:Array Oper} {rest:List Oper} {o:Oper} {a:Act} {Q:Exit->Act->World->Prop} (hgd:o.guard=none) {s x:Operand} {T:TypeId}
  (ho:o.op=.call { callee:=.builtin .append,args:=#[s,x],argTypes:=#[T,T] })
  (i:TypeInfo) (hT:P.underlying T=some (.slice E.e)) (hi:P.info? E.e=some i) (hz:i.zero=some E.zero) (hs:i.size=E.size) (hb:i.bytes=E.bytes)
  {A A2:Option Addr} {c c2:Nat} {l l2:List α} (es:a.eval s=.slice A l.length c) (ex:a.eval x=.slice A2 l2.length c2)
  (h:Sl E w A c l) (h2:Rd E w A2 c2 l2) (hm:l.length+l2.length<=maxLen) (hby:(l.length+l2.length)*E.bytes<=140737488355328)
  (hK:∀ A' c' L w',Hid (L=l++l2)->Sl E w' A' c' L->Touch (fun k=>A.map Addr.block=some k) w w'->(A'.map Addr.block=A.map Addr.block\/A'.map Addr.block=some w.heap.size) ->
   wpList P ops Q rest (a.put o.dst (.slice A' L.length c')) w'):wpList P ops Q (o::rest) a w:=
 wpList_plain hgd fun _ hk=>wp_app E ho i hT hi hz hs hb es ex h h2 hm hby fun A' c' L w' a1 a2 a3 a4=>hk _ _ (hK A' c' L w' a1 a2 a3 a4)
end
theorem step_app {α:Type} (E:El α) {P:Program} {w:World} {ops:Array Oper} {o:Oper} {a:Act} {K:Act->World->Prop} {Q:Exit->Act->World->Prop} {F:Prop} (hgd:o.guard=none) {s x:Operand} {T:TypeId}
  (ho:o.op=.call { callee:=.builtin .append,args:=#[s,x],argTypes:=#[T,T] })
  (i:TypeInfo) (hT:P.underlying T=some (.slice E.e)) (hi:P.info? E.e=some i) (hz:i.zero=some E.zero) (hs:i.size=E.size) (hb:i.bytes=E.bytes)
  {A A2:Option Addr} {c c2:Nat} {l l2:List α} (es:a.eval s=.slice A l.length c) (ex:a.eval x=.slice A2 l2.length c2)
  (h:Sl E w A c l) (h2:Rd E w A2 c2 l2) (hm:l.length+l2.length<=maxLen) (hby:(l.length+l2.length)*E.bytes<=140737488355328)
  (hK:∀ A' c' L w',Hid (L=l++l2)->Sl E w' A' c' L->Touch (fun k=>A.map Addr.block=some k) w w'->(A'.map Addr.block=A.map Addr.block\/A'.map Addr.block=some w.heap.size) ->
   K (a.put o.dst (.slice A' L.length c')) w'):if Region.wanted o (yielded ops a.tmps)=true then Oper.wp P o a w K Q else F:=by
 have hw:Region.wanted o (yielded ops a.tmps)=true:=by simp [Region.wanted,hgd]
 rw [if_pos hw]
 exact wp_app E ho i hT hi hz hs hb es ex h h2 hm hby hK
section
variable {α:Type} (E:El α) {P:Program} {w:World}
theorem madeCells_all (n:Nat):(madeCells E.zero.cells (n*E.size)).toList=E.all (List.replicate n E.zel):=by
 apply List.ext_getElem?
 intro j
 by_cases hj:j<n*E.size
 ·have h1:j<(E.all (List.replicate n E.zel)).length:=by rw [E.all_len];simpa using hj
  have h2:=List.getElem?_eq_getElem h1
  obtain ⟨i,f,hi,e,hf,hu⟩:=E.all_get _ j _ h2
  have hfm:j%E.size=f:=by rw [e,Nat.mul_comm,Nat.mul_add_mod,Nat.mod_eq_of_lt hf]
  rw [h2]
  simp only [List.getElem_replicate,E.zenc,Array.getElem?_toList] at hu
  have hfz:f<E.zero.cells.size:=by rw [E.zsize];exact hf
  simp only [madeCells,Array.toList_map,List.getElem?_map,Array.getElem?_toList,Array.getElem?_range,if_pos hj,Option.map_some,E.zsize,hfm]
  rw [<- hu]
  simp [hfz]
 ·rw [List.getElem?_eq_none (by simp [size_madeCells];omega),List.getElem?_eq_none (by rw [E.all_len];simp;omega)]
theorem wpList_mk {ops:Array Oper} {rest:List Oper} {o:Oper} {a:Act} {Q:Exit->Act->World->Prop} (hgd:o.guard=none) {x y:Operand} {T:TypeId} (ho:o.op=Op.makeSlice T x y)
  (i:TypeInfo) (hT:P.underlying T=some (.slice E.e)) (hi:P.info? E.e=some i) (hz:i.zero=some E.zero) (hs:i.size=E.size) (hb:i.bytes=E.bytes)
  (n:Nat) {kx ky:IntKind} (ex:a.eval x=.int kx n) (ey:a.eval y=.int ky n) (hm:n<=maxLen) (hby:E.bytes*n<=281474976710656)
  (hK:∀ L w',Hid (L=List.replicate n E.zel)->Hid (L.length=n)->Sl E w' (some ⟨w.heap.size,0,none⟩) n L->Fresh w w' ->
   wpList P ops Q rest (a.put o.dst (.slice (some ⟨w.heap.size,0,none⟩) n n)) w'):wpList P ops Q (o::rest) a w:=by
 refine wpList_plain hgd fun K hk=>?_
 obtain ⟨w',hrun,r1,r2⟩:=run_make_full (P:=P) w 0 T E.e i E.zero E.size hT hi hz hs kx ky n (by rw [hb];exact hby) hm (Nat.zero_le _)
 unfold Oper.wp
 simp only [execOp,ho,ex,ey,Sem.run_bind,hrun,Result.andThen_ok,Sem.run_pure]
 refine hk _ _ (hK (List.replicate n E.zel) w' rfl (by simp [Hid]) (Sl.of_own (base:=0) (n:=n) ?_ (by simp)) ⟨r2.os,r2.tape,r2.output,r2.size,fun k hk _=>r2.block k hk (by simp)⟩)
 rw [<- madeCells_all]
 exact r1
theorem wpList_cp {ops:Array Oper} {rest:List Oper} {o:Oper} {a:Act} {Q:Exit->Act->World->Prop} (hgd:o.guard=none) {x y:Operand} {T T2:TypeId}
  (ho:o.op=.call { callee:=.builtin .copy,args:=#[x,y],argTypes:=#[T,T2] })
  (i:TypeInfo) (hT:P.underlying T=some (.slice E.e)) (hi:P.info? E.e=some i) (hs:i.size=E.size)
  {A A2:Option Addr} {c c2:Nat} {l l2:List α} (ex:a.eval x=.slice A l.length c) (ey:a.eval y=.slice A2 l2.length c2) (h:Sl E w A c l) (h2:Rd E w A2 c2 l2)
  (hK:∀ L w',Hid (L=l2.take l.length++l.drop l2.length)->Hid (L.length=l.length)->Sl E w' A c L->Touch (fun k=>A.map Addr.block=some k) w w' ->
   wpList P ops Q rest (a.put o.dst (.int .i64 (Nat.min l2.length l.length))) w'):wpList P ops Q (o::rest) a w:=by
 refine wpList_plain hgd fun K hk=>?_
 have hlenL:(l2.take l.length++l.drop l2.length).length=l.length:=by simp;omega
 have hmin:Nat.min l2.length l.length=(l2.take l.length).length:=by simp [Nat.min_def];split <;> split <;> omega
 have hf:(Builtin.firstCells E.size (Nat.min l2.length l.length) (.slice A2 l2.length c2)).run P w=.ok (E.all (l2.take l.length)).toArray w:=by
  cases A2 with
  |none =>
   have h0:=h2.2.2.1 rfl
   have:l2=[]:=List.eq_nil_of_length_eq_zero (by have:=h2.1;omega)
   subst this
   simp [Builtin.firstCells,El.all]
  |some ad =>
   rw [hmin]
   refine run_firstCells_some w E.size _ ad _ _ _ (E.all_len _) (fun j u hj=>?_)
   refine h2.2.2.2 ad rfl j u ?_
   rw [<- E.all_take,List.getElem?_take] at hj
   split at hj
   ·exact hj
   ·cases hj
 cases A with
 |none =>
  have h0:=h.2.2.1 rfl
  have hl:l=[]:=List.eq_nil_of_length_eq_zero (by have:=h.1;omega)
  subst hl
  have hrun:(Builtin.copy_ #[T,T2] o.type #[.slice none ([]:List α).length c,.slice A2 l2.length c2]).run P w=.ok (goInt (Nat.min l2.length ([]:List α).length)) w:=by
   have hf':(Builtin.firstCells E.size 0 (.slice A2 l2.length c2)).run P w=.ok #[] w:=by simpa [El.all] using hf
   simp [Builtin.copy_,run_underlying hT,sizeOf,typeInfo,hi,hs,Builtin.lenOf,hf']
  unfold Oper.wp execOp
  simp only [ho,resolve,invoke,builtin,Sem.run_bind,Sem.run_pure,Result.andThen_ok,List.map_toArray,List.map_cons,List.map_nil,ex,ey,hrun]
  exact hk _ _ (hK [] w (by simp [Hid]) rfl h (Touch.refl _ _))
 |some ad =>
  obtain ⟨hsp,cs,hblk,hfit,he⟩:=h.2.2.2 ad rfl
  obtain ⟨g,of_,sp⟩:=ad
  obtain rfl:sp=none:=hsp
  simp only at hblk hfit he
  have hle:(E.all (l2.take l.length)).length<=l.length*E.size:=by
   rw [E.all_len];exact Nat.mul_le_mul_right _ (by simp;omega)
  have hlc:l.length*E.size<=c*E.size:=Nat.mul_le_mul_right _ h.1
  have hst:=run_storeCells_at P g of_ E.e (E.all (l2.take l.length)) 0 cs.toArray w hblk (by simp;omega) (E.all_one _)
  simp only [Nat.add_zero] at hst
  have hrun:(Builtin.copy_ #[T,T2] o.type #[.slice (some ⟨g,of_,none⟩) l.length c,.slice A2 l2.length c2]).run P w=.ok (goInt (Nat.min l2.length l.length))
    (w.setRow g (cs.take of_++E.all (l2.take l.length)++cs.drop (of_+(E.all (l2.take l.length)).length)).toArray):=by
   simp [Builtin.copy_,run_underlying hT,sizeOf,typeInfo,hi,hs,Builtin.lenOf,hf,hst]
  unfold Oper.wp execOp
  simp only [ho,resolve,invoke,builtin,Sem.run_bind,Sem.run_pure,Result.andThen_ok,List.map_toArray,List.map_cons,List.map_nil,ex,ey,hrun]
  refine hk _ _ (hK _ _ rfl hlenL ⟨by rw [hlenL];exact h.1,h.2.1,fun h=>by (cases h),fun ad ha=>?_⟩ ⟨rfl,rfl,rfl,by simp,fun k _ hk=>setRow_other w g k _ (fun e=>hk (by simp [e]))⟩)
  injection ha with ha
  subst ha
  refine ⟨rfl,_,setRow_heap w g cs.toArray _ E.e _ hblk,?_,?_⟩
  ·simp only [List.length_append,List.length_take,List.length_drop]
   omega
  ·have e0:(cs.take of_++E.all (l2.take l.length)++cs.drop (of_+(E.all (l2.take l.length)).length)).drop of_=E.all (l2.take l.length)++cs.drop (of_+(E.all (l2.take l.length)).length):=by
    rw [List.append_assoc,List.drop_left' (by simp;omega)]
   have e1:(cs.drop (of_+(E.all (l2.take l.length)).length)).take (l.length*E.size-(E.all (l2.take l.length)).length)=E.all (l.drop l2.length):=by
    have hk:(E.all (l2.take l.length)).length=(min l.length l2.length)*E.size:=by rw [E.all_len];simp
    have hd:l.drop l2.length=l.drop (min l.length l2.length):=by
     rcases Nat.le_total l.length l2.length with hle' | hle'
     ·rw [Nat.min_eq_left hle',List.drop_of_length_le hle',List.drop_length]
     ·rw [Nat.min_eq_right hle']
    rw [hd,<- E.all_drop,<- he,List.drop_take,List.drop_drop,hk]
   simp only at e0 ⊢
   rw [e0,hlenL,E.all_append,List.take_append,List.take_of_length_le hle,e1]
theorem wpList_cpn {ops:Array Oper} {rest:List Oper} {o:Oper} {a:Act} {Q:Exit->Act->World->Prop} (hgd:o.guard=none) {x y:Operand} {T T2:TypeId}
  (ho:o.op=.call { callee:=.builtin .copy,args:=#[x,y],argTypes:=#[T,T2] })
  (i:TypeInfo) (hT:P.underlying T=some (.slice E.e)) (hi:P.info? E.e=some i) (hs:i.size=E.size)
  {A A2:Option Addr} {c c2 n n2:Nat} {l l2:List α} (ex:a.eval x=.slice A n c) (ey:a.eval y=.slice A2 n2 c2) (hn:Hid (l.length=n)) (hn2:Hid (l2.length=n2)) (h:Sl E w A c l) (h2:Rd E w A2 c2 l2)
  (hK:∀ L w',Hid (L=l2.take l.length++l.drop l2.length)->Hid (L.length=n)->Sl E w' A c L->Touch (fun k=>A.map Addr.block=some k) w w' ->
   wpList P ops Q rest (a.put o.dst (.int .i64 (Nat.min n2 n))) w'):wpList P ops Q (o::rest) a w:=by
 have e1:=hn.out
 have e2:=hn2.out
 subst e1 e2
 exact wpList_cp E hgd ho i hT hi hs ex ey h h2 hK
theorem Sl.set1 {E:El α} {A:Option Addr} {c:Nat} {l:List α} (h:Sl E w A c l) (h1:E.size=1) {g o:Nat} (hA:A=some ⟨g,o,none⟩) {i:Nat} {x:α} {u:Value} (hx:E.enc x=[u]) :
  Sl E (w.setCell ⟨g,o+i,none⟩ u) A c (l.set i x):=by
 refine ⟨by simpa using h.1,h.2.1,h.2.2.1,fun ad ha=>?_⟩
 obtain ⟨hs,cs,hb,hl,he⟩:=h.2.2.2 ad ha
 rw [hA] at ha
 injection ha with ha
 subst ha
 rw [h1,Nat.mul_one] at hl he
 simp only at hb hl he
 refine ⟨rfl,cs.set (o+i) u,hb.set _ _,by rw [h1];simpa using hl,?_⟩
 rw [h1,Nat.mul_one,List.length_set]
 have hset:∀ (l:List α) (i:Nat),E.all (l.set i x)=(E.all l).set i u:=by
  intro l
  induction l with
  |nil=>intro i;simp [El.all]
  |cons b l ih =>
   intro i
   have hb1:(E.enc b).length=1:=by rw [E.len,h1]
   obtain ⟨v,hv⟩:=List.length_eq_one_iff.1 hb1
   cases i with
   |zero=>rw [List.set_cons_zero,E.all_cons,E.all_cons,hx,hv];rfl
   |succ i=>rw [List.set_cons_succ,E.all_cons,E.all_cons,ih,hv];rfl
 show List.take l.length (List.drop o (cs.set (o+i) u))=_
 rw [hset,<- he,List.drop_set,if_neg (by omega),List.take_set,Nat.add_sub_cancel_left]
end
theorem and_mask (a:Int) (k m:Nat) (hm:m+1=2 ^ k) (hk:k<=62):bits .and .i64 a (m:Int)=a%((m+1:Nat):Int):=by
 have hle:2 ^ k<=2 ^ 62:=Nat.pow_le_pow_right (by omega) hk
 have h2:(BitVec.ofInt 64 (m:Int)).toNat=m:=by
  rw [BitVec.ofInt_natCast,BitVec.toNat_ofNat];exact Nat.mod_eq_of_lt (by omega)
 show IntKind.i64.wrap ((BitVec.ofInt 64 a &&& BitVec.ofInt 64 (m:Int)).toNat:Int)=_
 rw [BitVec.toNat_and,h2,BitVec.toNat_ofInt]
 have hm':m=2 ^ k-1:=by omega
 have e1:((a%((2 ^ 64:Nat):Int)).toNat &&& m)=(a%((2 ^ 64:Nat):Int)).toNat%(m+1):=by
  rw [hm,hm',Nat.and_two_pow_sub_one_eq_mod]
 rw [e1]
 have hpos:(0:Int)<=a%((2 ^ 64:Nat):Int):=Int.emod_nonneg _ (by decide)
 have e2:(((a%((2 ^ 64:Nat):Int)).toNat%(m+1):Nat):Int)=a%((m+1:Nat):Int):=by
  rw [Int.natCast_emod,Int.toNat_of_nonneg hpos]
  refine Int.emod_emod_of_dvd a ?_
  rw [hm]
  exact Int.natCast_dvd_natCast.2 (Nat.pow_dvd_pow 2 (by omega))
 rw [e2]
 have b1:0<=a%((m+1:Nat):Int):=Int.emod_nonneg _ (by omega)
 have b2:a%((m+1:Nat):Int)<((m+1:Nat):Int):=Int.emod_lt_of_pos _ (by omega)
 exact IntWalk.i64_in _ ⟨by omega,by omega⟩
namespace Wh
def byt (x:Int):UInt8:=UInt8.ofNat (x%256).toNat
theorem byt_nat (x:Int):((byt x).toNat:Int)=x%256:=by
 unfold byt
 rw [UInt8.toNat_ofNat']
 have:(x%256).toNat%2 ^ 8=(x%256).toNat:=Nat.mod_eq_of_lt (by omega)
 rw [this]
 omega
def four (x:Int):List UInt8:=[byt (x / 16777216),byt (x / 65536),byt (x / 256),byt x]
theorem four_len (x:Int):(four x).length=4:=rfl
theorem or_add (a b:Int) (k:Nat) (hk:k<=32) (ha:a%2 ^ k=0) (a0:0<=a) (a1:a<=4294967295) (b0:0<=b) (b1:b<2 ^ k):bits .or .u32 a b=a+b:=by
 obtain ⟨n,rfl⟩:=Int.eq_ofNat_of_zero_le a0
 obtain ⟨m,rfl⟩:=Int.eq_ofNat_of_zero_le b0
 have hk2:(2:Nat) ^ k<=2 ^ 32:=Nat.pow_le_pow_right (by omega) hk
 have hm:m<2 ^ k:=by exact_mod_cast b1
 have hn:n%2 ^ k=0:=by exact_mod_cast ha
 show IntKind.u32.wrap ((BitVec.ofInt 32 (n:Int) ||| BitVec.ofInt 32 (m:Int)).toNat:Int)=_
 rw [BitVec.ofInt_natCast,BitVec.ofInt_natCast,BitVec.toNat_or,BitVec.toNat_ofNat,BitVec.toNat_ofNat,Nat.mod_eq_of_lt (show n<2 ^ 32 by omega),Nat.mod_eq_of_lt (show m<2 ^ 32 by omega)]
 obtain ⟨q,rfl⟩:∃ q,n=2 ^ k*q:=⟨n / 2 ^ k,by have:=Nat.div_add_mod n (2 ^ k);omega⟩
 rw [<- Nat.two_pow_add_eq_or_of_lt hm]
 have hs:2 ^ k*q+m<4294967296:=by
  obtain ⟨j,hj⟩:∃ j,k+j=32:=⟨32-k,by omega⟩
  have h2:2 ^ k*2 ^ j=4294967296:=by rw [<- Nat.pow_add,hj]
  have h3:2 ^ k*q<2 ^ k*2 ^ j:=by rw [h2];omega
  have h4:q<2 ^ j:=Nat.lt_of_mul_lt_mul_left h3
  have h5:2 ^ k*(q+1)<=2 ^ k*2 ^ j:=Nat.mul_le_mul_left _ h4
  rw [Nat.mul_add,Nat.mul_one,h2] at h5
  omega
 have:=IntWalk.u32_in ((2 ^ k*q+m:Nat):Int) (by omega)
 rw [this]
 omega
theorem or_add64 (a b:Int) (k:Nat) (hk:k<=62) (ha:a%2 ^ k=0) (a0:0<=a) (a1:a<=4611686018427387903) (b0:0<=b) (b1:b<2 ^ k):bits .or .i64 a b=a+b:=by
 obtain ⟨n,rfl⟩:=Int.eq_ofNat_of_zero_le a0
 obtain ⟨m,rfl⟩:=Int.eq_ofNat_of_zero_le b0
 have hk2:(2:Nat) ^ k<=2 ^ 62:=Nat.pow_le_pow_right (by omega) hk
 have hm:m<2 ^ k:=by exact_mod_cast b1
 have hn:n%2 ^ k=0:=by exact_mod_cast ha
 show IntKind.i64.wrap ((BitVec.ofInt 64 (n:Int) ||| BitVec.ofInt 64 (m:Int)).toNat:Int)=_
 rw [BitVec.ofInt_natCast,BitVec.ofInt_natCast,BitVec.toNat_or,BitVec.toNat_ofNat,BitVec.toNat_ofNat,Nat.mod_eq_of_lt (show n<2 ^ 64 by omega),Nat.mod_eq_of_lt (show m<2 ^ 64 by omega)]
 obtain ⟨q,rfl⟩:∃ q,n=2 ^ k*q:=⟨n / 2 ^ k,by have:=Nat.div_add_mod n (2 ^ k);omega⟩
 rw [<- Nat.two_pow_add_eq_or_of_lt hm]
 have hs:2 ^ k*q+m<4611686018427387904:=by
  obtain ⟨j,hj⟩:∃ j,k+j=62:=⟨62-k,by omega⟩
  have h2:2 ^ k*2 ^ j=4611686018427387904:=by rw [<- Nat.pow_add,hj]
  have h3:2 ^ k*q<2 ^ k*2 ^ j:=by rw [h2];omega
  have h4:q<2 ^ j:=Nat.lt_of_mul_lt_mul_left h3
  have h5:2 ^ k*(q+1)<=2 ^ k*2 ^ j:=Nat.mul_le_mul_left _ h4
  rw [Nat.mul_add,Nat.mul_one,h2] at h5
  omega
 have:=IntWalk.i64_in ((2 ^ k*q+m:Nat):Int) (by omega)
 rw [this]
 omega
theorem xor32_in (a b:Int):0<=bits .xor .u32 a b/\bits .xor .u32 a b<=4294967295:=by
 show 0<=IntKind.u32.wrap _/\IntKind.u32.wrap _<=4294967295
 rw [IntKind.wrap_u32]
 omega
theorem xor8_in (a b:Int):0<=bits .xor .u8 a b/\bits .xor .u8 a b<=255:=by
 show 0<=IntKind.u8.wrap _/\IntKind.u8.wrap _<=255
 rw [IntKind.wrap_u8]
 omega
def B (l:List UInt8):ByteArray:=⟨l.toArray⟩
theorem B_size (l:List UInt8):(B l).size=l.length:=by simp [B,ByteArray.size]
theorem B_list (l:List UInt8):(B l).data.toList=l:=rfl
theorem B_of (s:ByteArray):B s.data.toList=s:=Lib.mk_data s
theorem B_app (l m:List UInt8):B l++B m=B (l++m):=by
 show (⟨l.toArray⟩:ByteArray)++⟨m.toArray⟩=⟨(l++m).toArray⟩
 apply ByteArray.ext
 rw [ByteArray.data_append]
 simp
theorem B_extract (l:List UInt8) (a b:Nat):(B l).extract a b=B ((l.drop a).take (b-a)):=by
 rw [<- B_of ((B l).extract a b),Lib.extract_data];rfl
theorem B_front (l m:List UInt8):(B (l++m)).extract 0 l.length=B l:=by
 rw [B_extract,List.drop_zero,Nat.sub_zero,List.take_left']
 rfl
theorem B_back (l m:List UInt8) (n:Nat) (h:n=(l++m).length):(B (l++m)).extract l.length n=B m:=by
 subst h
 rw [B_extract,List.drop_left',List.length_append,Nat.add_sub_cancel_left,List.take_length]
 rfl
theorem B_get (l:List UInt8) (i:Nat) (h:i<(B l).size):(B l)[i]=l.getD i 0:=by
 have h2:i<l.length:=by rw [<- B_size];exact h
 show l.toArray[i]=_
 simp [List.getD,List.getElem?_eq_getElem h2]
structure Sh where
 data:Int
 sq:Bool
 n:Bool
 list:Int
 ps:Bool
 mr:Bool
 self:Bool
 is:Bool
def shape (k:Int):Sh:=
 if k=1\/k=5 then ⟨64,true,true,0,false,false,false,true⟩
 else if k=2\/k=6\/k=9\/k=15 then ⟨0,true,true,0,false,false,false,true⟩
 else if k=7 then ⟨64,true,false,0,false,false,false,true⟩
 else if k=3 then ⟨64,true,false,0,false,false,true,true⟩
 else if k=4 then ⟨0,true,false,0,false,false,false,true⟩
 else if k=8 then ⟨200,false,true,0,false,false,false,true⟩
 else if k=10 then ⟨0,false,true,0,true,false,false,true⟩
 else if k=11 then ⟨0,false,true,-1,true,true,false,true⟩
 else if k=12 then ⟨0,false,true,2,false,true,false,true⟩
 else if k=13\/k=14 then ⟨200,false,false,0,false,false,false,true⟩
 else ⟨0,false,false,0,false,false,false,false⟩
structure P where
 kind:Int
 sq:Int
 n:Int
 ps:Int
 mr:Int
 l:List Int
 self:Bool
 data:ByteArray
def low (x:Int):Bool:=x==x%16777216
def listOk (s:Sh) (p:P):Bool:=((p.l.length:Int)==s.list) || (decide (s.list<0) && ((p.l.length:Int)%2==0))
def allOk (p:P):Bool:=low p.n && (low p.ps && (low p.mr && !(p.l.any fun x=>!low x)))
def someOk (s:Sh) (p:P):Bool:=(decide (0<s.data) || p.data.toList.isEmpty) && ((s.n || p.n==0) && ((s.ps || p.ps==0) && ((s.mr || p.mr==0) && (s.self || !p.self))))
def ckS (s:Sh) (p:P):Int:=
 if s.is=false then 10
 else if (s.data<(p.data.size:Int)/\0<s.data)\/128<p.l.length then 6
 else if listOk s p=false\/allOk p=false\/someOk s p=false\/p.sq<0\/255<p.sq\/(s.sq=false/\p.sq ≠ 0) then 1
 else 0
def ck (p:P):Int:=ckS (shape p.kind) p
def pad (p:P):Nat:=(4-p.data.size%4)%4
def wordsS (s:Sh) (p:P):List Int:=(if s.sq then [p.sq] else [])++(p.l++((if s.ps then [p.ps] else [])++(if s.mr then [p.mr] else [])))
def lastW (p:P):Int:=(pad p:Int)*1073741824+(if p.self then 536870912 else 0)+p.kind*16777216+p.n
def front (p:P):List UInt8:=p.data.data.toList++List.replicate (pad p) 0
def bytesS (s:Sh) (p:P):List UInt8:=front p++((wordsS s p).flatMap four++four (lastW p))
def bytes (p:P):List UInt8:=if ck p=0 then bytesS (shape p.kind) p else []
theorem fours_len (l:List Int):(l.flatMap four).length=4*l.length:=by
 induction l with
 |nil=>rfl
 |cons x l ih=>rw [List.flatMap_cons,List.length_append,ih,four_len,List.length_cons];omega
theorem front_len (p:P):(front p).length=p.data.size+pad p:=by
 unfold front
 rw [List.length_append,List.length_replicate,Array.length_toList]
 rfl
theorem pad_lt (p:P):pad p<4:=by unfold pad;omega
theorem front_4 (p:P):(front p).length%4=0:=by
 rw [front_len]
 unfold pad
 omega
theorem bytesS_len (s:Sh) (p:P):(bytesS s p).length=p.data.size+pad p+4*(wordsS s p).length+4:=by
 unfold bytesS
 rw [List.length_append,List.length_append,front_len,fours_len,four_len]
 omega
structure ShOk (s:Sh):Prop where
 list:s.list=0\/(s.list=-1/\s.data=0/\s.sq=false)\/s.list=2
 data:0<=s.data/\s.data<=200
theorem shape_ok (k:Int):ShOk (shape k):=by
 unfold shape
 repeat' split
 all_goals constructor <;> simp
theorem shape_is (k:Int) (h:(shape k).is=true):1<=k/\k<=15:=by
 unfold shape at h
 repeat' split at h
 all_goals first | omega | (simp at h)
structure Ok (s:Sh) (p:P):Prop where
 is:s.is=true
 big:s.data<(p.data.size:Int)->¬ 0<s.data
 ll:p.l.length<=128
 list:listOk s p=true
 all:allOk p=true
 some_:someOk s p=true
 sq0:0<=p.sq
 sq1:p.sq<=255
 sqn:s.sq=false->p.sq=0
theorem ok_of (s:Sh) (p:P) (h:ckS s p=0):Ok s p:=by
 unfold ckS at h
 split at h
 ·omega
 ·rename_i h1
  split at h
  ·omega
  ·rename_i h2
   split at h
   ·omega
   ·rename_i h3
    simp only [not_or,not_and,Bool.not_eq_false,Int.not_lt,Decidable.not_not] at h1 h2 h3
    obtain ⟨a1,a2,a3,a4,a5,a6⟩:=h3
    exact ⟨h1,fun h=>by have:=h2.1 h;omega,by omega,a1,a2,a3,a4,a5,a6⟩
theorem ck_of (s:Sh) (p:P) (h:Ok s p):ckS s p=0:=by
 unfold ckS
 rw [if_neg (by simp [h.is]),if_neg (by
  rintro (⟨a,b⟩ | a)
  ·exact h.big a b
  ·have:=h.ll;omega),if_neg]
 rintro (a | a | a | a | a | a)
 ·rw [h.list] at a;cases a
 ·rw [h.all] at a;cases a
 ·rw [h.some_] at a;cases a
 ·have:=h.sq0;omega
 ·have:=h.sq1;omega
 ·exact a.2 (h.sqn a.1)
theorem low_lt (x:Int) (h:low x=true):0<=x/\x<16777216:=by
 unfold low at h
 have:=of_decide_eq_true (p:=x=x%16777216) (by simpa using h)
 omega
section
variable {s:Sh} {p:P} (h:Ok s p)
include h
theorem Ok.n:0<=p.n/\p.n<16777216:=by
 have:=h.all
 unfold allOk at this
 simp only [Bool.and_eq_true] at this
 exact low_lt _ this.1
theorem Ok.ps:0<=p.ps/\p.ps<16777216:=by
 have:=h.all
 unfold allOk at this
 simp only [Bool.and_eq_true] at this
 exact low_lt _ this.2.1
theorem Ok.mr:0<=p.mr/\p.mr<16777216:=by
 have:=h.all
 unfold allOk at this
 simp only [Bool.and_eq_true] at this
 exact low_lt _ this.2.2.1
theorem Ok.l:∀ x ∈ p.l,0<=x/\x<16777216:=by
 have:=h.all
 unfold allOk at this
 simp only [Bool.and_eq_true] at this
 intro x hx
 have h4:=this.2.2.2
 simp only [Bool.not_eq_true',List.any_eq_false] at h4
 exact low_lt _ (by simpa using h4 x hx)
theorem Ok.dsize (hs:ShOk s):p.data.size<=200:=by
 have h1:=h.big
 have h2:=h.some_
 have h3:=hs.data
 unfold someOk at h2
 simp only [Bool.and_eq_true,Bool.or_eq_true,decide_eq_true_eq] at h2
 rcases h2.1 with a | a
 ·have:¬ s.data<(p.data.size:Int):=fun b=>h1 b a
  omega
 ·have:p.data.data.toList=[]:=by rw [<- Lib.toList_data];simpa using a
  have e:=Lib.size_eq p.data
  rw [this] at e
  have e2:p.data.size=0:=by simpa using e
  omega
theorem Ok.psn (hp:s.ps=false):p.ps=0:=by
 have h2:=h.some_
 unfold someOk at h2
 simp only [Bool.and_eq_true,Bool.or_eq_true,beq_iff_eq] at h2
 rcases h2.2.2.1 with a | a
 ·rw [hp] at a;cases a
 ·exact a
theorem Ok.mrn (hp:s.mr=false):p.mr=0:=by
 have h2:=h.some_
 unfold someOk at h2
 simp only [Bool.and_eq_true,Bool.or_eq_true,beq_iff_eq] at h2
 rcases h2.2.2.2.1 with a | a
 ·rw [hp] at a;cases a
 ·exact a
theorem Ok.dnil (hd:s.data=0):p.data.size=0:=by
 have h2:=h.some_
 unfold someOk at h2
 simp only [Bool.and_eq_true,Bool.or_eq_true,decide_eq_true_eq] at h2
 rcases h2.1 with a | a
 ·omega
 ·have:p.data.data.toList=[]:=by rw [<- Lib.toList_data];simpa using a
  have e:=Lib.size_eq p.data
  rw [this] at e
  simpa using e
theorem Ok.ln (hl:0<=s.list):(p.l.length:Int)=s.list:=by
 have h2:=h.list
 unfold listOk at h2
 simp only [Bool.or_eq_true,Bool.and_eq_true,decide_eq_true_eq,beq_iff_eq] at h2
 rcases h2 with a | a
 ·exact a
 ·omega
end
end Wh
end Go.Proofs.YtlbopdfobgjjaaaGreatDoor

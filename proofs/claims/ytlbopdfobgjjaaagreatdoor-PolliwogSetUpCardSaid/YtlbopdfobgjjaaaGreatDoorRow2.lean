/-
  What a sort's world (the library's word) is to a slice that reads as a list. No program is named · A struct stored whole into a block of its own. No program is named · A struct loaded and stored whole, its cells whatever they are: no cell is looked at. No program is named.
-/
import Derived.Test.YtlbopdfobgjjaaaGreatDoorMapD
import Derived.Shelf.GgSortFunc.InsertionK
import Derived.Test.YtlbopdfobgjjaaaGreatDoorWhP
import Derived.Deep.MidRow
import Derived.Deep.RegionHeld3
namespace Go.Proofs.YtlbopdfobgjjaaaGreatDoor
open Go.RowKit Go.Sort
section
variable {α:Type} [Inhabited α] {E:El α} {w:World} {g o c:Nat} {l l':List α}
theorem flatK_all (E:El α) (l:List α):(flatK E.enc E.size l.toArray).toList=E.all l:=by
 apply List.ext_getElem
 ·simp [E.all_len]
 ·intro t h1 h2
  obtain ⟨i,f,hi,ht,hf,hu⟩:=E.all_get l t _ (List.getElem?_eq_getElem h2)
  have hlt:t<l.toArray.size*E.size:=by simpa [E.all_len] using h2
  have hg:=get_flatK E.enc E.size l.toArray t hlt
  have h1':t<(flatK E.enc E.size l.toArray).size:=by simpa using hlt
  rw [getElem!_pos _ t h1'] at hg
  rw [Array.getElem_toList,hg]
  have e1:t / E.size=i:=by rw [ht,Nat.mul_comm,Nat.mul_add_div E.pos,Nat.div_eq_of_lt hf,Nat.add_zero]
  have e2:t%E.size=f:=by rw [ht,Nat.mul_comm,Nat.mul_add_mod,Nat.mod_eq_of_lt hf]
  rw [e1,e2]
  have e3:(l.toArray)[i]! = l[i]:=by simp [hi]
  rw [e3,List.getElem!_eq_getElem?_getD,hu]
  rfl
theorem Sl.holdsK (h:Sl E w (some ⟨g,o,none⟩) c l):HoldsK E.enc E.size w g o l.toArray:=fun j hj=>by
 refine ⟨?_,h.frozen g o rfl _⟩
 have hj':j<(E.all l).length:=by rw [E.all_len];simpa using hj
 have:=h.cells ⟨g,o,none⟩ rfl j _ (List.getElem?_eq_getElem hj')
 have e:(⟨g,o,none⟩:Addr).add j=⟨g,o+j,none⟩:=by simp [Addr.add]
 rw [e] at this
 rw [this,getElem!_pos _ j hj,<- Array.getElem_toList]
 simp only [flatK_all,id]
theorem sorted_blk {cs:List Value} {t:TypeId} (hb:Blk w g t cs) (n:Nat) (d:Array α) (os:Array Obj) :
  Blk (sortWorldK E.enc E.size w g o n d os) g t (putCells id o (flatK E.enc E.size d) cs.toArray).toList:=by
 have hlt:=hb.lt
 unfold Blk at hb ⊢
 simp only [sortWorldK,grow,putRowK,putRow,mapBlock]
 rw [Array.getElem?_append_left (by simpa using hlt),Array.getElem?_modify,if_pos rfl,show (Go.Sort.ahead w n).heap=w.heap from rfl,hb]
 rfl
theorem sorted_touch (n:Nat) (d:Array α) (os:Array Obj):Touch (· = g) w (sortWorldK E.enc E.size w g o n d os) where
 os:=rfl
 tape:=rfl
 output:=rfl
 size:=by simp [sortWorldK,grow,putRowK,putRow,mapBlock]
 block:=fun k hk hs=>by
  simp only [sortWorldK,grow,putRowK,putRow,mapBlock]
  rw [Array.getElem?_append_left (by simpa using hk),Array.getElem?_modify,if_neg (fun e=>hs e.symm),show (Go.Sort.ahead w n).heap=w.heap from rfl]
theorem Sl.sorted (h:Sl E w (some ⟨g,o,none⟩) c l) (hl:l'.length=l.length) (n:Nat) (os:Array Obj) :
  Sl E (sortWorldK E.enc E.size w g o n l'.toArray os) (some ⟨g,o,none⟩) c l':=by
 refine ⟨by rw [hl];exact h.1,h.2.1,nofun,fun ad e=>?_⟩
 injection e with e
 subst e
 obtain ⟨hs,cs,hb,hlen,hcs⟩:=h.2.2.2 _ rfl
 refine ⟨rfl,_,sorted_blk hb n _ os,by simpa [putCells] using hlen,?_⟩
 have hc1:l.length*E.size<=c*E.size:=Nat.mul_le_mul_right _ h.1
 simp only at hlen hcs ⊢
 have hfl:(flatK E.enc E.size l'.toArray).size=l.length*E.size:=by simp [hl]
 apply List.ext_getElem?
 intro k
 rw [List.getElem?_take]
 split
 ·rename_i hk
  rw [hl] at hk
  rw [List.getElem?_drop,Array.getElem?_toList]
  unfold putCells
  rw [Array.getElem?_mapIdx]
  have hk2:o+k<cs.toArray.size:=by simp;omega
  rw [Array.getElem?_eq_getElem hk2,Option.map_some,if_pos (by omega),show o+k-o=k by omega,getElem!_pos _ k (by omega),<- flatK_all,Array.getElem?_toList,Array.getElem?_eq_getElem (by omega)]
  rfl
 ·rename_i hk
  rw [eq_comm,List.getElem?_eq_none_iff,E.all_len]
  omega
theorem permIn_list {d d':Array α} (h:PermIn 0 d.size d d'):d'.toList.Perm d.toList:=by
 have h3:=h.2.2
 have e:=h.1
 rw [Array.extract_eq_self_of_le (Nat.le_refl _),Array.extract_eq_self_of_le (by omega)] at h3
 exact h3
end
section
variable {α:Type} {E:El α} {w:World} {g o c:Nat} {l:List α}
theorem Sl.put (h:Sl E w (some ⟨g,o,none⟩) c l) {i f:Nat} {a:α} {u:Value} (hi:i<l.length) (hf:f<E.size) (ha:E.enc a=(E.enc l[i]).set f u) :
  Sl E (w.setCell ⟨g,o+(i*E.size+f),none⟩ u) (some ⟨g,o,none⟩) c (l.set i a):=by
 refine ⟨by simpa using h.1,h.2.1,h.2.2.1,fun ad e=>?_⟩
 obtain ⟨hs,cs,hb,hl,he⟩:=h.2.2.2 ad e
 injection e with e
 subst e
 simp only at hb hl he
 refine ⟨rfl,cs.set (o+(i*E.size+f)) u,hb.set _ _,by simpa using hl,?_⟩
 rw [List.length_set]
 have hset:∀ (l:List α) (i:Nat) (hi:i<l.length),E.enc a=(E.enc l[i]).set f u->E.all (l.set i a)=(E.all l).set (i*E.size+f) u:=by
  intro l
  induction l with
  |nil=>intro i hi;simp at hi
  |cons b l ih =>
   intro i hi ha
   cases i with
   |zero =>
    rw [List.set_cons_zero,E.all_cons,E.all_cons,ha,Nat.zero_mul,Nat.zero_add,List.set_append,if_pos (by rw [E.len];exact hf)]
    rfl
   |succ i =>
    rw [List.set_cons_succ,E.all_cons,E.all_cons,ih i (by simpa using hi) ha,List.set_append,if_neg (by rw [E.len,Nat.add_mul];omega),E.len]
    congr 2
    rw [Nat.add_mul]
    omega
 show List.take (l.length*E.size) (List.drop o (cs.set (o+(i*E.size+f)) u))=_
 rw [hset l i hi ha,<- he,List.drop_set,if_neg (by omega),List.take_set,Nat.add_sub_cancel_left]
end
open Go.RowKit
theorem Blk.there {w:World} {g:Nat} {t:TypeId} {cs:List Value} (h:Blk w g t cs) {n:Nat} (hn:n<=cs.length):w.there g 0 n:=fun j hj=>by
 rw [Nat.zero_add]
 exact ⟨by rw [h.cell,List.getElem?_eq_getElem (show j<cs.length by omega)];rfl,h.frozen j⟩
theorem Touch.setCells {S:Nat->Prop} {g:Nat} (hS:S g):∀ (vs:List Value) (o:Nat) {w w':World},Touch S w w'->Touch S w (w'.setCells g o vs)
 |[],_,_,_,h=>h
 |_v::r,o,_,_,h=>Touch.setCells hS r (o+1) (h.st hS)
theorem Blk.setCells_at:∀ (vs:List Value) (o:Nat) {w:World} {g:Nat} {t:TypeId} {cs:List Value},Blk w g t cs->o+vs.length<=cs.length->Blk (w.setCells g o vs) g t (cs.take o++vs++cs.drop (o+vs.length))
 |[],o,w,g,t,cs,h,_=>by simpa [World.setCells] using h
 |v::r,o,w,g,t,cs,h,hl=>by
  have hl':o+1+r.length<=(cs.set o v).length:=by simp at hl ⊢;omega
  have:=Blk.setCells_at r (o+1) (h.set o v) hl'
  rw [World.setCells]
  refine this.eq_cells ?_
  have ho:o<cs.length:=by simp at hl;omega
  have e1:(cs.set o v).take (o+1)=cs.take o++[v]:=by
   rw [List.take_set,List.take_succ_eq_append_getElem ho,List.set_append_right _ _ (by simp;omega)]
   have:(List.take o cs).length=o:=by simp;omega
   rw [this,Nat.sub_self];rfl
  have e2:(cs.set o v).drop (o+1+r.length)=cs.drop (o+(v::r).length):=by
   rw [List.drop_set,if_pos (by omega)]
   congr 1
   simp
   omega
  rw [e1,e2]
  simp
theorem Blk.setCells {w:World} {g:Nat} {t:TypeId} {cs vs:List Value} (h:Blk w g t cs) (hl:vs.length=cs.length):Blk (w.setCells g 0 vs) g t vs:=by
 have:=Blk.setCells_at vs 0 h (by omega)
 refine this.eq_cells ?_
 rw [Nat.zero_add,hl]
 simp
section
variable {P:Program} {w:World} {b:Nat} {t:TypeId} {cs old:List Value}
theorem Blk.range (h:Blk w b t cs):w.rangeAt b 0 cs:=fun j v hv=>by rw [Nat.zero_add,h.cell];exact hv
theorem Blk.range_at (h:Blk w b t cs) (o:Nat) {vs:List Value} (hv:∀ (j:Nat) (v:Value),vs[j]?=some v->cs[o+j]?=some v):w.rangeAt b o vs:=fun j v e=>by rw [h.cell];exact hv j v e
theorem Blk.there_at (h:Blk w b t cs) (o:Nat) {n:Nat} (hn:o+n<=cs.length):w.there b o n:=fun j hj =>
 ⟨by rw [h.cell,List.getElem?_eq_getElem (show o+j<cs.length by omega)];rfl,h.frozen (o+j)⟩
variable {ty:TypeId} {d:TypeDesc}
theorem exec_loadB {o:Oper} {ρ:Operand->Value} {x:Operand} (ho:o.op=.load ty x) {k:Nat} (hx:ρ x=.pointer (some ⟨b,k,none⟩)) (hc:w.rangeAt b k cs) (hu:P.underlying ty=some d) (hd:d.isRow=true) (hi:(P.info? ty).map (·.size)=some cs.length):(execOp ρ o).run P w=.ok (.value (.agg cs.toArray)) w:=by
 unfold execOp
 simp only [ho,hx,Instr.loadAt,Instr.sureAddr,Sem.run_bind,Sem.run_pure,Result.andThen_ok,run_loadVar_mid w b k ty cs d hc hu hd hi]
theorem exec_storeB {o:Oper} {ρ:Operand->Value} {x y:Operand} (ho:o.op=.store ty x y) {k:Nat} (hx:ρ x=.pointer (some ⟨b,k,none⟩)) (hy:ρ y=.agg cs.toArray) (ht:w.there b k cs.length) (hi:(P.info? ty).map (·.size)=some cs.length) (h1:∀ v ∈ cs,v.oneCell'=true):(execOp ρ o).run P w=.ok .skip (w.setCells b k cs):=by
 unfold execOp
 simp only [ho,hx,hy,Instr.storeAt,Instr.sureAddr,Sem.run_bind,Sem.run_pure,Result.andThen_ok,run_storeVar_mid w b k ty cs.toArray (by simpa using ht) (by simpa using hi) (all_oneCell_toArray h1)]
theorem exec_buildB {o:Oper} {ρ:Operand->Value} {parts:Array (Nat × Operand)} (ho:o.op=.build ty parts) (cells:Array Value) (h:P.built ty (parts.map fun (i,x)=>(i,ρ x)).toList=some cells):(execOp ρ o).run P w=.ok (.value (.agg cells)) w:=by
 unfold execOp
 simp only [ho,Sem.run_bind,run_build w ty _ cells h,Result.andThen_ok]
 rfl
theorem wpList_loadB {ops:Array Oper} {rest:List Oper} {op:Oper} {a:Act} {Q:Exit->Act->World->Prop} (hgd:op.guard=none) (ty:TypeId) (x:Operand) (ho:op.op=.load ty x)
  (b k:Nat) (hx:a.eval x=.pointer (some ⟨b,k,none⟩)) (cs:List Value) {d:TypeDesc} (hc:w.rangeAt b k cs) (hu:P.underlying ty=some d) (hd:d.isRow=true) (hi:(P.info? ty).map (·.size)=some cs.length)
  (h:wpList P ops Q rest (a.put op.dst (.agg cs.toArray)) w):wpList P ops Q (op::rest) a w:=
 wpList_load_mid hgd ty x ho b k hx cs d hc hu hd hi h
theorem wpList_storeB {ops:Array Oper} {rest:List Oper} {op:Oper} {a:Act} {Q:Exit->Act->World->Prop} (hgd:op.guard=none) (ty:TypeId) (x y:Operand) (ho:op.op=.store ty x y)
  (b k:Nat) (hx:a.eval x=.pointer (some ⟨b,k,none⟩)) (cs:List Value) (hy:a.eval y=.agg cs.toArray) {t:TypeId} {old:List Value} (hB:Blk w b t old) (hl:k+cs.length<=old.length) (hi:(P.info? ty).map (·.size)=some cs.length) (h1:∀ v ∈ cs,v.oneCell'=true)
  (h:∀ w',Blk w' b t (old.take k++cs++old.drop (k+cs.length))->Touch (· = b) w w'->wpList P ops Q rest (a.put op.dst undef) w'):wpList P ops Q (op::rest) a w:=
 wpList_store_mid hgd ty x y ho b k cs.toArray hx hy (by simpa using hB.there_at k hl) (by simpa using hi) (all_oneCell_toArray h1) (h _ (Blk.setCells_at cs k hB hl) (Touch.setCells (S:=(· = b)) rfl cs k (Touch.refl _ _)))
/-! Results that are read out of boxes. -/
theorem loadVar_B {b k:Nat} {cs:List Value} (hc:w.rangeAt b k cs) (hu:P.underlying ty=some d) (hd:d.isRow=true) (hi:(P.info? ty).map (·.size)=some cs.length):(loadVar ty ⟨b,k,none⟩).run P w=.ok (.agg cs.toArray) w:=run_loadVar_mid w b k ty cs d hc hu hd hi
theorem results_c {fn:Func} {t:Tmp} (h:fn.results=#[.cell t ty]) (tmps:Array Value) (ht:tmps.getD t undef=.pointer (some ⟨b,0,none⟩)) (hc:w.rangeAt b 0 cs) (hu:P.underlying ty=some d) (hd:d.isRow=true) (hi:(P.info? ty).map (·.size)=some cs.length) :
  (results fn tmps).run P w=.ok (.agg cs.toArray) w:=by
 have hl:=loadVar_B (P:=P) hc hu hd hi
 have ht:tmps[t]?.getD undef=.pointer (some ⟨b,0,none⟩):=by rw [<- Array.getD_eq_getD_getElem?];exact ht
 simp [results,h,ht,asAddr,hl]
theorem results_tc {fn:Func} {t u:Tmp} (h:fn.results=#[.tmp u,.cell t ty]) (tmps:Array Value) (ht:tmps.getD t undef=.pointer (some ⟨b,0,none⟩)) (hc:w.rangeAt b 0 cs) (hu:P.underlying ty=some d) (hd:d.isRow=true) (hi:(P.info? ty).map (·.size)=some cs.length) :
  (results fn tmps).run P w=.ok (.tuple #[tmps.getD u undef,.agg cs.toArray]) w:=by
 have hl:=loadVar_B (P:=P) hc hu hd hi
 have ht:tmps[t]?.getD undef=.pointer (some ⟨b,0,none⟩):=by rw [<- Array.getD_eq_getD_getElem?];exact ht
 simp [results,h,ht,asAddr,hl]
variable {b2:Nat} {ty2:TypeId} {d2:TypeDesc} {cs2:List Value}
end
end Go.Proofs.YtlbopdfobgjjaaaGreatDoor

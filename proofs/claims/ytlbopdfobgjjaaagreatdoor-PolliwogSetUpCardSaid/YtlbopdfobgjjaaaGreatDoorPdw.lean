/-
  slices.DeleteFunc at units, by the kind: those of one kind are taken out, in the row's own memory. No conditions · slices.IndexFunc, slices.DeleteFunc at units, by the kind, in node's bring: the walks. No conditions.
-/
import Derived.Test.YtlbopdfobgjjaaaGreatDoorCloP
import Derived.Test.YtlbopdfobgjjaaaGreatDoorRow2
import Derived.Lib.SliceRun
import Derived.Deep.MidRow
import Derived.Shelf.Abstract
import Derived.Deep.RegionLaw
import Derived.Deep.DeepCutAuto
set_option maxHeartbeats 4000000
namespace Go.Proofs.YtlbopdfobgjjaaaGreatDoor
open Go.RowKit
structure OutAt {α:Type} (p:α->Bool) (l M:List α) (j:Nat):Prop where
 len:M.length=l.length
 take:M.take ((l.take j).filter (fun x=>!p x)).length=(l.take j).filter (fun x=>!p x)
 drop:M.drop j=l.drop j
section
variable {α:Type} {p:α->Bool} {l M:List α} {j:Nat}
theorem outs_succ (p:α->Bool) (l:List α) (j:Nat) (hj:j<l.length):(l.take (j+1)).filter (fun x=>!p x)=if p l[j]=true then (l.take j).filter (fun x=>!p x) else (l.take j).filter (fun x=>!p x)++[l[j]]:=by
 rw [List.take_succ_eq_append_getElem hj,List.filter_append]
 by_cases h:p l[j]=true
 ·rw [if_pos h];simp [h]
 ·rw [if_neg h];simp [h]
theorem outs_le (p:α->Bool) (l:List α) (j:Nat):((l.take j).filter (fun x=>!p x)).length<=j:=Nat.le_trans (List.length_filter_le _ _) (by simp;omega)
theorem OutAt.get (h:OutAt p l M j) (hj:j<l.length):M[j]?=some l[j]:=by
 have:=congrArg (fun L=>L[0]?) h.drop
 simpa [List.getElem?_eq_getElem hj] using this
theorem OutAt.skip (h:OutAt p l M j) (hj:j<l.length) (hp:p l[j]=true):OutAt p l M (j+1):=by
 refine ⟨h.len,?_,?_⟩
 ·rw [outs_succ p l j hj,if_pos hp];exact h.take
 ·have:=congrArg (List.drop 1) h.drop
  simpa [List.drop_drop,Nat.add_comm] using this
theorem OutAt.keep (h:OutAt p l M j) (hj:j<l.length) (hp:p l[j]=false):OutAt p l (M.set ((l.take j).filter (fun x=>!p x)).length l[j]) (j+1):=by
 have hle:=outs_le p l j
 have e:=outs_succ p l j hj
 rw [if_neg (by rw [hp];decide)] at e
 refine ⟨by rw [List.length_set];exact h.len,?_,?_⟩
 ·rw [e,List.length_append,List.length_singleton,List.take_succ_eq_append_getElem (by rw [List.length_set,h.len];omega),List.getElem_set_self,List.take_set_of_le (Nat.le_refl _),h.take]
 ·rw [List.drop_set_of_lt (by omega)]
  have:=congrArg (List.drop 1) h.drop
  simpa [List.drop_drop,Nat.add_comm] using this
theorem OutAt.first {k:Nat} (hk:k<=l.length) (h:∀ x ∈ l.take k,p x=false):OutAt p l l k/\((l.take k).filter (fun x=>!p x)).length=k:=by
 have e:(l.take k).filter (fun x=>!p x)=l.take k:=List.filter_eq_self.2 fun x hx=>by simp [h x hx]
 have e2:(l.take k).length=k:=by simp;omega
 exact ⟨⟨rfl,by rw [e,e2],rfl⟩,by rw [e,e2]⟩
end
section
variable {α:Type} {E:El α} {w:World} {g o c:Nat} {l:List α}
theorem El.all_set (E:El α) (x:α):∀ (l:List α) (i:Nat),i<l.length->E.all (l.set i x)=(E.all l).take (i*E.size)++E.enc x++(E.all l).drop (i*E.size+E.size)
 |[],i,h=>by cases h
 |b::l,0,_=>by
  rw [List.set_cons_zero,E.all_cons,E.all_cons,Nat.zero_mul,Nat.zero_add,List.take_zero,List.nil_append,<- E.len b,List.drop_left]
 |b::l,i+1,h=>by
  rw [List.set_cons_succ,E.all_cons,E.all_cons,El.all_set E x l i (by simpa using h)]
  have e1:(i+1)*E.size=(E.enc b).length+i*E.size:=by rw [E.len,Nat.succ_mul];omega
  rw [e1,Nat.add_assoc,List.take_length_add_append,List.drop_length_add_append]
  simp only [List.append_assoc]
theorem Sl.heap {w':World} {A:Option Addr} (h:Sl E w A c l) (e:w'.heap=w.heap):Sl E w' A c l:=h.keep fun ad _=>by rw [e]
theorem touch_of_heap {S:Nat->Prop} {W:World} (o:Obj) (h1:W.os=w.os) (h2:W.tape=w.tape) (h3:W.output=w.output) (h4:W.heap=(w.alloc o).heap):Touch S w W:=by
 have h:=(Touch.refl S w).alloc o
 exact ⟨h1,h2,h3,by rw [h4];exact h.size,fun k hk hs=>by rw [h4];exact h.block k hk hs⟩
theorem Sl.setE (h:Sl E w (some ⟨g,o,none⟩) c l) (i:Nat) (hi:i<l.length) (x:α):Sl E (w.setCells g (o+i*E.size) (E.enc x)) (some ⟨g,o,none⟩) c (l.set i x):=by
 refine ⟨by simpa using h.1,h.2.1,h.2.2.1,fun ad ha=>?_⟩
 obtain ⟨h1,cs,hb,h2,h3⟩:=h.2.2.2 ad ha
 injection ha with ha
 subst ha
 simp only at h2 h3 hb
 have hm:(i+1)*E.size<=l.length*E.size:=Nat.mul_le_mul_right _ hi
 have hc:l.length*E.size<=c*E.size:=Nat.mul_le_mul_right _ h.1
 rw [Nat.succ_mul] at hm
 have hx:=E.len x
 refine ⟨rfl,_,Blk.setCells_at (E.enc x) (o+i*E.size) hb (by omega),by simp only [List.length_append,List.length_take,List.length_drop];omega,?_⟩
 show List.take _ (List.drop o _)=_
 have hP:(List.drop o (cs.take (o+i*E.size)))=(E.all l).take (i*E.size):=by
  rw [<- h3,List.take_take,List.drop_take,Nat.min_eq_left (by omega)]
  congr 1
  omega
 have lP:((E.all l).take (i*E.size)).length=i*E.size:=by rw [List.length_take,E.all_len];omega
 rw [List.append_assoc,List.drop_append_of_le_length (by simp;omega),hP,E.all_set x l i hi,List.length_set,List.append_assoc]
 generalize (E.all l).take (i*E.size)=P at *
 have e1:l.length*E.size=P.length+((E.enc x).length+(l.length*E.size-(i*E.size+E.size))):=by omega
 rw [e1,List.take_length_add_append,List.take_length_add_append,<- h3,List.drop_take,List.drop_drop,hx]
 congr 3
 congr 1
 omega
theorem Sl.tailE (h:Sl E w (some ⟨g,o,none⟩) c l) (i:Nat) (hi:i<=l.length) (vs:List Value) (hv:i*E.size+vs.length<=c*E.size) :
  Sl E (w.setCells g (o+i*E.size) vs) (some ⟨g,o,none⟩) c (l.take i):=by
 refine ⟨by have:=h.1;simp;omega,h.2.1,h.2.2.1,fun ad ha=>?_⟩
 obtain ⟨h1,cs,hb,h2,h3⟩:=h.2.2.2 ad ha
 injection ha with ha
 subst ha
 simp only at h2 h3 hb
 have hm:i*E.size<=l.length*E.size:=Nat.mul_le_mul_right _ hi
 have e2:(l.take i).length=i:=by simp;omega
 refine ⟨rfl,_,Blk.setCells_at vs (o+i*E.size) hb (by omega),by simp only [List.length_append,List.length_take,List.length_drop];omega,?_⟩
 show List.take _ (List.drop o _)=_
 rw [e2,<- E.all_take,<- h3,List.take_take,Nat.min_eq_left hm,List.append_assoc,List.drop_append_of_le_length (by simp;omega),List.take_append_of_le_length (by simp;omega),List.drop_take,List.take_take]
 congr 1
 omega
theorem run_clearE {P:Program} (w:World) (t e ty:TypeId) (z:Value) (n:Nat) (vs:List Value) (hvs:(Builtin.zeroCells z.cells n).toList=vs) (ht:P.underlying t=some (.slice e)) (hv:∀ w,(zeroValue e).run P w=.ok z w) (h1:∀ v ∈ vs,v.oneCell'=true) (b o c:Nat) (hn:0<n)
  (hc:∀ j,j<vs.length->(w.cell? ⟨b,o+j,none⟩).isSome=true) (hf:∀ j,j<vs.length->w.frozen? ⟨b,o+j,none⟩=false) :
  (Builtin.clear_ #[t] ty #[.slice (some ⟨b,o,none⟩) n c]).run P w=.ok (.tuple #[]) (w.setCells b o vs):=by
 have hst:=run_storeCells_cells (P:=P) b o vs 0 w (by simpa using hc) (by simpa using hf) h1
 simp only [Nat.add_zero] at hst
 obtain ⟨m,rfl⟩:∃ m,n=m+1:=⟨n-1,by omega⟩
 simp [Builtin.clear_,run_underlying ht,hv,hvs,hst]
theorem zeroCells_ok (z:Value) (n:Nat) (hz:0<z.cells.size):(Builtin.zeroCells z.cells n).toList.length=n*z.cells.size/\∀ v ∈ (Builtin.zeroCells z.cells n).toList,v ∈ z.cells:=by
 unfold Builtin.zeroCells
 refine ⟨by simp,fun v hv=>?_⟩
 simp only [Array.toList_map,List.mem_map] at hv
 obtain ⟨i,_,rfl⟩:=hv
 have hi:i%z.cells.size<z.cells.size:=Nat.mod_lt _ hz
 rw [getElem!_pos z.cells _ hi]
 exact Array.getElem_mem hi
end
set_option maxRecDepth 20000
theorem nbcl_any (x:Cn.Pd) (b:Nat) (kd:Int) (w:World) (hb:w.cell? ⟨b,0,none⟩=some (.int .i64 kd)) :
  Calls Tryz.prog 96 #[pduV x,.pointer (some ⟨b,0,none⟩)] w fun e w'=>e=.returned (.bool (x.kind==kd))/\Fresh w w':=by
 have hlt:=World.block_lt_of_cell? w _ hb
 simp only at hlt
 have hne:¬ w.heap.size=b:=by omega
 have hne2:¬ b=w.heap.size:=by omega
 unfold pduV
 go_enter Tryz.func96,Tryz.ntmps96
 go_wp2
 go_ret
 exact ⟨rfl,(Touch.refl _ _).alloc _⟩
theorem Rd.pdu8 {w:World} {A:Option Addr} {c:Nat} {l:List Cn.Pd} (h:Rd pduE w A c l) (k:Nat) (hk:k<l.length):∃ g o,A=some ⟨g,o,none⟩/\w.cell? ⟨g,o+k*8,none⟩=some (.int .i64 l[k].kind)/\w.cell? ⟨g,o+k*8+1,none⟩=some (.int .i64 l[k].sq)/\w.cell? ⟨g,o+k*8+2,none⟩=some (.int .u32 l[k].n)/\w.cell? ⟨g,o+k*8+3,none⟩=some (.int .u32 l[k].ps)/\w.cell? ⟨g,o+k*8+4,none⟩=some (.int .u32 l[k].mr)/\w.cell? ⟨g,o+k*8+5,none⟩=some (.slice l[k].lA l[k].ln l[k].lc)/\w.cell? ⟨g,o+k*8+6,none⟩=some (.bool l[k].self)/\w.cell? ⟨g,o+k*8+7,none⟩=some (.string l[k].data):=by
 obtain ⟨g,o,hA,_,hc⟩:=h.at_ k hk
 exact ⟨g,o,hA,hc 0 _ rfl,hc 1 _ rfl,hc 2 _ rfl,hc 3 _ rfl,hc 4 _ rfl,hc 5 _ rfl,hc 6 _ rfl,hc 7 _ rfl⟩
theorem Sl.there {α:Type} {E:El α} {w:World} {g o c:Nat} {l:List α} (h:Sl E w (some ⟨g,o,none⟩) c l) (i:Nat) (hi:i<l.length):w.there g (o+i*E.size) E.size:=fun j hj=>by
 obtain ⟨g',o',e,_,hc⟩:=h.at_ i hi
 cases e
 have hl:=E.len l[i]
 have:=hc j _ (List.getElem?_eq_getElem (by omega))
 rw [<- Nat.add_assoc] at this
 exact ⟨by rw [this];rfl,h.frozen g o rfl _⟩
theorem Sl.there_from {α:Type} {E:El α} {w:World} {g o c:Nat} {l:List α} (h:Sl E w (some ⟨g,o,none⟩) c l) (i n:Nat) (hi:i+n<=l.length):∀ j,j<n*E.size->(w.cell? ⟨g,o+i*E.size+j,none⟩).isSome=true/\w.frozen? ⟨g,o+i*E.size+j,none⟩=false:=fun j hj=>by
 have hp:=E.pos
 have hd:j / E.size<n:=(Nat.div_lt_iff_lt_mul hp).2 hj
 have:=h.there (i+j / E.size) (by omega) (j%E.size) (Nat.mod_lt _ hp)
 have e:o+(i+j / E.size)*E.size+j%E.size=o+i*E.size+j:=by
  have:=Nat.div_add_mod j E.size
  rw [Nat.add_mul,Nat.mul_comm (j / E.size)]
  omega
 rw [e] at this
 exact this
theorem pidxk_any (b:Nat) (kd:Int) (A:Option Addr) (c:Nat) (l:List Cn.Pd) (w:World) (h:Rd pduE w A c l) (hl:l.length<=1000000) (hb:∀ W,Fresh w W->W.cell? ⟨b,0,none⟩=some (.int .i64 kd)) :
  Calls Tryz.prog 157 #[.slice A l.length c,.func (.func 96) #[] #[.pointer (some ⟨b,0,none⟩)]] w fun e w'=>Fresh w w'/\((e=.returned (.int .i64 (-1))/\∀ x ∈ l,(x.kind==kd)=false)\/∃ (k:Nat) (hk:k<l.length),e=.returned (.int .i64 k)/\(l[k].kind==kd)=true/\∀ x ∈ l.take k,(x.kind==kd)=false):=by
 have H:=lh h
 have HP:Hid (∀ W x,Fresh w W->Calls Tryz.prog 96 #[pduV x,.pointer (some ⟨b,0,none⟩)] W fun e w'=>e=.returned (.bool (x.kind==kd))/\Fresh W w'):=fun W x hW=>nbcl_any x b kd W (hb W hW)
 have eg:∀ args w,(callFunc 96 args).run Tryz.prog w=.ok (.enter 96 args) w:=enters_of Tryz.func96 (by kernel_rfl) rfl
 clear h hb
 go_enter Tryz.func157,Tryz.ntmps157
 go_wp2_with fail
 go_loopw [8] (fun s8 wr=>∃ k:Nat,k<=l.length/\s8=.int .i64 k/\Hid (∀ x ∈ l.take k,(x.kind==kd)=false)/\Hid (Fresh w wr)) (fun s8 _=>l.length-(intOf s8).toNat)
 case atStart=>exact ⟨0,by omega,rfl,fun x hx=>by simp at hx,Touch.refl _ _⟩
 case round =>
  obtain ⟨k,hk,rfl,HB,HF⟩:=hrel
  by_cases hlt:k<l.length
  ·have hk1:(k:Int)<(l.length:Int):=by omega
   have hk0:(0:Int)<=(k:Int):=by omega
   obtain ⟨g,o,rfl,c0,c1,c2,c3,c4,c5,c6,c7⟩:=(H.out.touch HF.out (fun _ _ _ h=>h)).pdu8 k hlt
   have HT:Hid (l.take (k+1)=l.take k++[l[k]]):=List.take_succ_eq_append_getElem hlt
   obtain ⟨y,hy⟩:=xq (l[k])
   have HY:=lh hy
   rw [<- hy] at c0 c1 c2 c3 c4 c5 c6 c7 HT
   have HC:=lh (HP.out wr y HF.out)
   unfold pduV at HC
   clear hy
   generalize hz:(y.kind==kd)=z at HC
   have HZ:=lh hz
   clear hz
   go_wp2_with fail
   refine HC.out.mono ?_
   rintro e w2 ⟨rfl,f2⟩
   have F2:=lh (HF.out.trans f2 (fun _ _ h=>h))
   clear f2 HC HF eg c0 c1 c2 c3 c4 c5 c6 c7
   cases z with
   |true =>
    go_wp2
    go_ret
    exact ⟨F2.out,.inr ⟨k,hlt,rfl,by rw [<- HY.out,HZ.out],HB.out⟩⟩
   |false =>
    have HB2:Hid (∀ x ∈ l.take (k+1),(x.kind==kd)=false):=fun x hx=>by
     rw [HT.out] at hx
     rcases List.mem_append.1 hx with hx | hx
     ·exact HB.out x hx
     ·rw [List.mem_singleton.1 hx]
      exact HZ.out
    clear HB
    go_wp2
    go_roundw
    case rel=>exact ⟨k+1,hlt,by go_num,HB2,F2⟩
    case measure=>simp [intOf];omega
  ·obtain rfl:k=l.length:=by omega
   have HB2:Hid (∀ x ∈ l,(x.kind==kd)=false):=fun x hx=>HB.out x (by rw [List.take_length];exact hx)
   clear HB
   go_wp2
   go_ret
   exact ⟨HF.out,.inl ⟨rfl,HB2.out⟩⟩
theorem pdelf_any (b:Nat) (kd:Int) (g o c:Nat) (l:List Cn.Pd) (w:World) (h:Sl pduE w (some ⟨g,o,none⟩) c l) (hl:l.length<=1000000) (hb:∀ W,Touch (· = g) w W->W.cell? ⟨b,0,none⟩=some (.int .i64 kd)) :
  Calls Tryz.prog 95 #[.slice (some ⟨g,o,none⟩) l.length c,.func (.func 96) #[] #[.pointer (some ⟨b,0,none⟩)]] w fun e w'=>e=.returned (.slice (some ⟨g,o,none⟩) (l.filter fun x=>!(x.kind==kd)).length c)/\Sl pduE w' (some ⟨g,o,none⟩) c (l.filter fun x=>!(x.kind==kd))/\Touch (· = g) w w':=by
 have H:=lh h
 have HP:Hid (∀ W x,Touch (· = g) w W->Calls Tryz.prog 96 #[pduV x,.pointer (some ⟨b,0,none⟩)] W fun e w'=>e=.returned (.bool (x.kind==kd))/\Fresh W w'):=fun W x hW=>nbcl_any x b kd W (hb W hW)
 have HI:=lh (pidxk_any b kd (some ⟨g,o,none⟩) c l w h.rd hl (fun W hW=>hb W (hW.mono (fun _ _ h=>h.elim))))
 have eg:∀ args w,(callFunc 96 args).run Tryz.prog w=.ok (.enter 96 args) w:=enters_of Tryz.func96 (by kernel_rfl) rfl
 have hcl:=h.1
 have hcm:=h.2.1
 unfold maxLen at hcm
 clear h hb
 obtain ⟨p,hp⟩:∃ p:Cn.Pd->Bool,p=fun x=>x.kind==kd:=⟨_,rfl⟩
 have HPP:Hid (∀ x:Cn.Pd,(x.kind==kd)=p x):=fun x=>by rw [hp]
 have HFI:Hid ((l.filter fun x=>!(x.kind==kd))=l.filter fun x=>!p x):=by rw [hp];rfl
 rw [HFI.out]
 have HI2:Hid (Calls Tryz.prog 157 #[.slice (some ⟨g,o,none⟩) l.length c,.func (.func 96) #[] #[.pointer (some ⟨b,0,none⟩)]] w fun e w'=>Fresh w w'/\((e=.returned (.int .i64 (-1))/\∀ x ∈ l,p x=false)\/∃ (k:Nat) (hk:k<l.length),e=.returned (.int .i64 k)/\p l[k]=true/\∀ x ∈ l.take k,p x=false)):=by rw [hp];exact HI.out
 clear hp HI
 go_enter Tryz.func95,Tryz.ntmps95
 go_wp2_with fail
 refine HI2.out.mono ?_
 rintro e w1 ⟨f1,hcase⟩
 have F1:=lh f1
 rcases hcase with ⟨rfl,hall⟩ | ⟨k,hk,rfl,hpk,hfirst⟩
 ·have HA:Hid (l.filter (fun x=>!p x)=l):=List.filter_eq_self.2 fun x hx=>by simp [hall x hx]
  clear f1 hall HI2 HP
  simp only
  go_wp2
  go_ret
  exact ⟨by rw [HA.out];rfl,by rw [HA.out];exact H.out.touch F1.out (fun _ _ h=>h),F1.out.mono (fun _ _ h=>h.elim)⟩
 ·have hke:((k:Int)==-1)=false:=by simp
  obtain ⟨d1,d2⟩:=OutAt.first (p:=p) (l:=l) (Nat.le_of_lt hk) hfirst
  have HD0:=lh (d1.skip hk hpk)
  have HL0:Hid (((l.take (k+1)).filter (fun x=>!p x)).length=k):=by unfold Hid;rw [outs_succ p l k hk,if_pos hpk];exact d2
  have S1:=lh (H.out.touch f1 (fun _ _ h=>h))
  have T1:Hid (Touch (· = g) w w1):=f1.mono (fun _ _ h=>h.elim)
  clear f1 d1 d2 hfirst hpk HI2 F1 H
  simp only
  go_wp2_with fail
  go_loopw [5,6] (fun s5 s6 wr=>∃ (i j:Nat) (M:List Cn.Pd),j<=l.length/\i<j/\s5=.int .i64 i/\s6=.int .i64 j/\Hid (((l.take j).filter (fun x=>!p x)).length=i)/\Hid (OutAt p l M j)/\Hid (Sl pduE wr (some ⟨g,o,none⟩) c M)/\Hid (Touch (· = g) w wr)) (fun _ s6 _=>l.length-(intOf s6).toNat)
  case atStart=>exact ⟨k,k+1,l,hk,by omega,rfl,by go_num,HL0,HD0,S1,T1⟩
  case round =>
   clear HD0 HL0 S1 T1
   obtain ⟨i,j,M,hj,hij,rfl,rfl,HL,HD,HS,HT⟩:=hrel
   by_cases hlt:j<l.length
   ·have hj1:(j:Int)<(l.length:Int):=by omega
    have hj0:(0:Int)<=(j:Int):=by omega
    have hi1:(i:Int)<(l.length:Int):=by omega
    have hi0:(0:Int)<=(i:Int):=by omega
    have HML:Hid (M.length=l.length):=HD.out.len
    obtain ⟨_,_,e1,c0,c1,c2,c3,c4,c5,c6,c7⟩:=HS.out.rd.pdu8 j (by have:=HML.out;omega)
    cases e1
    have HMJ:Hid (M[j]'(by have:=HML.out;omega)=l[j]):=by
     have:=HD.out.get hlt
     rw [List.getElem?_eq_getElem (by have:=HML.out;omega)] at this
     exact Option.some.inj this
    rw [HMJ.out] at c0 c1 c2 c3 c4 c5 c6 c7
    have HK:=lh (fun h=>HD.out.keep hlt h)
    have HSk:=lh (fun h=>HD.out.skip hlt h)
    have HLs:=lh (outs_succ p l j hlt)
    have HC:Hid (∀ W,Touch (· = g) w W->Calls Tryz.prog 96 #[pduV l[j],.pointer (some ⟨b,0,none⟩)] W fun e w'=>e=.returned (.bool (p l[j]))/\Fresh W w'):=fun W hW=>by rw [<- HPP.out];exact HP.out W l[j] hW
    unfold pduV at HC
    obtain ⟨y,hy⟩:=qx (l[j])
    simp only [hy] at c0 c1 c2 c3 c4 c5 c6 c7 HC HK HSk HLs
    clear hy HMJ
    generalize hz:p y=z at *
    have HZ:=lh hz
    clear hz
    go_wp2_with fail
    have HB8:Hid (Blk (wr.alloc (.cells #[.int .i64 y.kind,.int .i64 y.sq,.int .u32 y.n,.int .u32 y.ps,.int .u32 y.mr,.slice y.lA y.ln y.lc,.bool y.self,.string y.data] 49)) wr.heap.size 49 [.int .i64 y.kind,.int .i64 y.sq,.int .u32 y.n,.int .u32 y.ps,.int .u32 y.mr,.slice y.lA y.ln y.lc,.bool y.self,.string y.data]):=Blk.new _ _ _
    have HG:Hid (g<wr.heap.size):=HS.out.lt _ rfl
    refine (HC.out _ (HT.out.alloc _)).mono ?_
    rintro e w2 ⟨rfl,f2⟩
    have S2:=lh ((HS.out.alloc _).touch f2 (fun _ _ h=>h))
    have T2:=lh ((HT.out.alloc _).trans f2 (fun _ _ h=>h.elim))
    have HB2:=lh (f2.blk HB8.out (fun e=>e))
    clear f2 HC HS HT HB8 c0 c1 c2 c3 c4 c5 c6 c7
    cases z with
    |true =>
     go_wp2
     go_roundw
     case rel=>exact ⟨i,j+1,M,hlt,by omega,rfl,by go_num,by unfold Hid;rw [HLs.out];simp only [if_true];exact HL.out,HSk.out (by first | rfl | trivial),S2,T2⟩
     case measure=>simp [intOf];omega
    |false =>
     obtain ⟨r,hr⟩:=xq wr.heap.size
     rw [<- hr] at HB2 HG ⊢
     clear hr
     have d0:=HB2.out.cell 0
     have d1:=HB2.out.cell 1
     have d2:=HB2.out.cell 2
     have d3:=HB2.out.cell 3
     have d4:=HB2.out.cell 4
     have d5:=HB2.out.cell 5
     have d6:=HB2.out.cell 6
     have d7:=HB2.out.cell 7
     simp only [List.getElem?_cons_zero,List.getElem?_cons_succ] at d0 d1 d2 d3 d4 d5 d6 d7
     have S3:Hid (Sl pduE (w2.setCells g (o+i*8) (pduE.enc y)) (some ⟨g,o,none⟩) c (M.set i y)):=S2.out.setE i (by have:=HML.out;omega) y
     have T3:Hid (Touch (· = g) w (w2.setCells g (o+i*8) (pduE.enc y))):=Touch.setCells (S:=(· = g)) rfl _ _ T2.out
     obtain ⟨_,_,e1,i0,i1,i2,i3,i4,i5,i6,i7⟩:=S2.out.rd.pdu8 i (by have:=HML.out;omega)
     cases e1
     generalize M[i]'(by have:=HML.out;omega)=mi at *
     have k0:=S2.out.frozen g o rfl (o+i*8)
     have k1:=S2.out.frozen g o rfl (o+i*8+1)
     have k2:=S2.out.frozen g o rfl (o+i*8+2)
     have k3:=S2.out.frozen g o rfl (o+i*8+3)
     have k4:=S2.out.frozen g o rfl (o+i*8+4)
     have k5:=S2.out.frozen g o rfl (o+i*8+5)
     have k6:=S2.out.frozen g o rfl (o+i*8+6)
     have k7:=S2.out.frozen g o rfl (o+i*8+7)
     have HK2:=lh (HK.out rfl)
     rw [HL.out] at HK2
     clear HK HSk S2 T2 HB2
     go_wp2
     go_roundw
     case rel=>exact ⟨i+1,j+1,M.set i y,hlt,by omega,by go_num,by go_num,by unfold Hid;rw [HLs.out];simp only [Bool.false_eq_true,if_false];rw [List.length_append,HL.out];rfl,HK2,S3,T3⟩
     case measure=>simp [intOf];omega
   ·obtain rfl:j=l.length:=by omega
    have hi1:(i:Int)<=(l.length:Int):=by omega
    have hi0:(0:Int)<=(i:Int):=by omega
    have hn0:((l.length:Nat):Int)<=(c:Int):=by omega
    clear hlt hj
    have hS:=HS.out
    have hML:M.length=l.length:=HD.out.len
    have hci:(c=i)=False:=by simp;omega
    obtain ⟨vs,hvs⟩:=qx ((Builtin.zeroCells pduE.zero.cells (l.length-i)).toList)
    obtain ⟨v1,v2⟩:=zeroCells_ok pduE.zero (l.length-i) (by rw [pduE.zsize];exact pduE.pos)
    rw [hvs,pduE.zsize] at v1
    rw [hvs] at v2
    have hth:=hS.there_from i (l.length-i) (by omega)
    rw [<- v1] at hth
    have hclr:∀ ty,(Builtin.clear_ #[100] ty #[.slice (some ⟨g,o+i*8,none⟩) (l.length-i) (c-i)]).run Tryz.prog wr=.ok (.tuple #[]) (wr.setCells g (o+i*8) vs):=fun ty =>
     run_clearE wr 100 49 ty pduE.zero (l.length-i) vs hvs Tryz.underlying100 (fun W=>by kernel_rfl)
      (fun v hv=>by have:=v2 v hv;rw [<- Array.mem_toList_iff,<- pduE.zenc] at this;exact pduE.one _ v this) g (o+i*8) (c-i) (by omega) (fun j hj=>(hth j hj).1) (fun j hj=>(hth j hj).2)
    have HE:Hid (Sl pduE (wr.setCells g (o+i*8) vs) (some ⟨g,o,none⟩) c (l.filter fun x=>!p x)):=by
     have h1:=HD.out.take
     rw [HL.out,List.take_length] at h1
     unfold Hid
     rw [<- h1]
     refine hS.tailE i (by omega) vs ?_
     rw [v1,<- Nat.add_mul]
     exact Nat.mul_le_mul_right _ (by omega)
    have HT2:Hid (Touch (· = g) w (wr.setCells g (o+i*8) vs)):=Touch.setCells (S:=(· = g)) rfl _ _ HT.out
    have HLf:Hid ((l.filter fun x=>!p x).length=i):=by have:=HL.out;rw [List.take_length] at this;exact this
    clear hS hML HS HD HL HT HP hvs v1 v2 hth
    go_upto_region 11 with (fail)
    go_wp2
    go_ret
    exact ⟨by rw [HLf.out];rfl,HE.out,HT2.out⟩
theorem pdelf_none (b:Nat) (kd:Int) (w:World) (hb:∀ W,Fresh w W->W.cell? ⟨b,0,none⟩=some (.int .i64 kd)) :
  Calls Tryz.prog 95 #[.slice none 0 0,.func (.func 96) #[] #[.pointer (some ⟨b,0,none⟩)]] w fun e w'=>e=.returned (.slice none 0 0)/\Fresh w w':=by
 have HI:=lh (pidxk_any b kd none 0 [] w (Sl.nil pduE w).rd (by decide) hb)
 clear hb
 go_enter Tryz.func95,Tryz.ntmps95
 go_wp2_with fail
 refine HI.out.mono ?_
 rintro e w1 ⟨f1,hcase⟩
 have F1:=lh f1
 rcases hcase with ⟨rfl,hall⟩ | ⟨k,hk,_⟩
 ·clear f1 hall HI
  simp only
  go_wp2
  go_ret
  exact ⟨rfl,F1.out⟩
 ·exact absurd hk (by simp)
theorem pdel_any (b:Nat) (kd:Int) (A:Option Addr) (c:Nat) (l:List Cn.Pd) (w:World) (h:Sl pduE w A c l) (hl:l.length<=1000000) (hb:∀ W,Touch (fun k=>A.map Addr.block=some k) w W->W.cell? ⟨b,0,none⟩=some (.int .i64 kd)) :
  Calls Tryz.prog 95 #[.slice A l.length c,.func (.func 96) #[] #[.pointer (some ⟨b,0,none⟩)]] w fun e w'=>e=.returned (.slice A (l.filter fun x=>!(x.kind==kd)).length c)/\Sl pduE w' A c (l.filter fun x=>!(x.kind==kd))/\Touch (fun k=>A.map Addr.block=some k) w w':=by
 cases A with
 |none =>
  obtain rfl:c=0:=h.2.2.1 rfl
  obtain rfl:l=[]:=List.eq_nil_of_length_eq_zero (by have:=h.1;omega)
  refine (pdelf_none b kd w fun W hf=>hb W (hf.mono (fun _ _ h=>h.elim))).mono ?_
  rintro e w' ⟨rfl,f⟩
  exact ⟨rfl,Sl.nil _ _,f.mono (fun _ _ h=>h.elim)⟩
 |some ad =>
  obtain ⟨hs,_⟩:=h.2.2.2 ad rfl
  obtain ⟨g,o,sp⟩:=ad
  obtain rfl:sp=none:=hs
  refine (pdelf_any b kd g o c l w h hl fun W hf=>hb W (hf.mono (fun k _ e=>by rw [e];rfl))).mono ?_
  rintro e w' ⟨rfl,h1,h2⟩
  exact ⟨rfl,h1,h2.mono (fun k _ e=>by rw [e];rfl)⟩
end Go.Proofs.YtlbopdfobgjjaaaGreatDoor

/-
  ring.Ring[string]: what each call does · ring.Ring[string]: what its exported calls do · polliwogref01: Of, To · slices.Reverse at numbers of the call's own.
-/
import Derived.Test.YtlbopdfobgjjaaaGreatDoorEvD
import Derived.Test.YtlbopdfobgjjaaaGreatDoorSpanP
import Derived.RegionTactic
import Derived.ChangeAlike
import Derived.Deep.QuietTactic
import Derived.BigQuiet
import Derived.Deep.DeepCutAuto
import Derived.Deep.CutBlock
import Derived.Deep.RegionLaw
import Derived.BigRegion
import Derived.Deep.RegionHeld3
import Derived.Lib.SliceRun
import Derived.Test.YtlbopdfobgjjaaaGreatDoorRows
import Derived.Test.YtlbopdfobgjjaaaGreatDoorWhP
import Derived.LoopTactic
set_option maxHeartbeats 4000000
namespace Go.Proofs.YtlbopdfobgjjaaaGreatDoor
open Go.RowKit
set_option maxRecDepth 4000
def RingStr (w:World) (g:Nat) (b:Option Nat) (most:Nat) (q:List ByteArray):Prop:=
 ∃ (A:Option Addr) (c a:Nat) (buf:List ByteArray),Blk w g 198 [.slice A buf.length c,.int .i64 a,.int .i64 q.length,.int .i64 most]/\Sl strE w A c buf/\A.map Addr.block=b /\
  buf.length<=most/\most<=4096/\Gone buf a q
section
variable {w w':World} {g:Nat} {b:Option Nat} {most:Nat} {q:List ByteArray}
theorem RingStr.touch {S:Nat->Prop} (h:RingStr w g b most q) (ht:Touch S w w') (hg:¬ S g) (hb:∀ k,b=some k->¬ S k):RingStr w' g b most q:=by
 obtain ⟨A,c,a,buf,h1,h2,h3,h4⟩:=h
 refine ⟨A,c,a,buf,ht.blk h1 hg,h2.touch ht (fun ad ha=>hb _ ?_),h3,h4⟩
 rw [<- h3,ha];rfl
theorem RingStr.lt (h:RingStr w g b most q):g<w.heap.size:=by obtain ⟨A,c,a,buf,h1,_⟩:=h;exact h1.lt
theorem RingStr.ltb (h:RingStr w g b most q):∀ k,b=some k->k<w.heap.size:=by
 obtain ⟨A,c,a,buf,h1,h2,rfl,_⟩:=h
 intro k hk
 cases A with
 |none=>cases hk
 |some ad=>have:=h2.lt ad rfl;simp at hk;omega
theorem RingStr.len_le (h:RingStr w g b most q):q.length<=most/\most<=4096:=by
 obtain ⟨A,c,a,buf,h1,h2,h3,h4,h5,h6⟩:=h
 exact ⟨Nat.le_trans h6.len h4,h5⟩
end
theorem ringStr_new (n:Int) (w:World) :
  Calls Tryz.prog 64 #[.int .i64 n] w fun e w'=>e=.returned (.pointer (some ⟨w.heap.size,0,none⟩))/\RingStr w' w.heap.size none (max 0 (min n 4096)).toNat []/\Fresh w w':=by
 have hmm:∀ m:Int,0<=m->m<=4096->RingStr (w.alloc (.cells #[.slice none 0 0,.int .i64 0,.int .i64 0,.int .i64 m] 198)) w.heap.size none m.toNat []:=fun m h0 h1=>by
  refine ⟨none,0,0,[],?_,Sl.nil _ _,rfl,by simp,by omega,Gone.nil⟩
  have:=Blk.new w 198 [.slice none 0 0,.int .i64 0,.int .i64 0,.int .i64 m]
  rw [Int.toNat_of_nonneg h0]
  exact this
 have HM:=lh hmm
 clear hmm
 have hf:∀ o,Hid (Fresh w (w.alloc o)):=fun o=>(Touch.refl _ _).alloc _
 have HF:=lh hf
 clear hf
 obtain ⟨m,hm⟩:=qx ((if 4096<n then (4096:Int) else n))
 obtain ⟨m',hm'⟩:∃ m',(if 0<m then m else 0)=m':=⟨_,rfl⟩
 have hx:Hid (max 0 (min n 4096)=m'/\0<=m'/\m'<=4096):=by
  rw [<- hm',<- hm];refine ⟨?_,?_,?_⟩ <;> (split <;> (try split) <;> omega)
 go_enter Tryz.func64,Tryz.ntmps64
 go_wp2
 go_ret
 exact ⟨rfl,by rw [hx.out.1];exact HM.out m' hx.out.2.1 hx.out.2.2,HF.out _⟩
theorem Strplace_mod (a n L:Nat):((a:Int)+(n:Int))%(L:Int)=(((a+n)%L:Nat):Int):=by
 rw [Int.natCast_emod];rfl
theorem ringStr_place (g:Nat) (A:Option Addr) (c a n L:Nat) (w:World) (c0:w.cell? ⟨g,0,none⟩=some (.slice A L c)) (c1:w.cell? ⟨g,1,none⟩=some (.int .i64 a)) (ha:a<=4096) (hn:n<=4096) (hL:0<L) (hL2:L<=4096) (p:Nat) (Hp:Hid ((a+n)%L=p)) :
  Calls Tryz.prog 91 #[.pointer (some ⟨g,0,none⟩),.int .i64 n] w fun e w'=>e=.returned (.int .i64 p)/\∃ m,w'=w.drewN m:=by
 rw [<- Hp.out]
 have hL0:((L:Int)==0)=false:=by simp;omega
 have hp:=Strplace_mod a n L
 go_enter Tryz.func91,Tryz.ntmps91
 go_wp2
 go_quiet (fail)
 go_wp2
 go_ret
 exact ⟨rfl,_,rfl⟩
theorem ringStr_all (g:Nat) (A:Option Addr) (c a most:Nat) (buf q:List ByteArray) (w:World)
  (hb:Blk w g 198 [.slice A buf.length c,.int .i64 a,.int .i64 q.length,.int .i64 most]) (hs:Sl strE w A c buf) (hm:buf.length<=most/\most<=4096) (hg:Gone buf a q) :
  Calls Tryz.prog 159 #[.pointer (some ⟨g,0,none⟩)] w fun e w'=>∃ A' c',e=.returned (.slice A' q.length c')/\Sl strE w' A' c' q/\Fresh w w'/\(∀ ad,A'=some ad->w.heap.size<=ad.block)/\(A'=none->q=[]):=by
 have c0:w.cell? ⟨g,0,none⟩=some (.slice A buf.length c):=hb.cell 0
 have c1:w.cell? ⟨g,1,none⟩=some (.int .i64 a):=hb.cell 1
 have c2:w.cell? ⟨g,2,none⟩=some (.int .i64 q.length):=hb.cell 2
 have hql:=hg.len
 have ha:a<=4096:=by rcases hg.pos with h | ⟨_,h⟩ <;> omega
 obtain ⟨hm1,hm2⟩:=hm
 have HB:=lh hb
 have HS:=lh hs
 have HG:=lh hg
 clear hb hs hg
 go_enter Tryz.func159,Tryz.ntmps159
 go_wp2_with fail
 clear c0 c1 c2
 go_loopw [3,9] (fun v i wr=>∃ (k:Nat) (A':Option Addr) (c':Nat) (L:List ByteArray),k<=q.length/\i=.int .i64 k/\v=.slice A' L.length c'/\Hid (L=q.take k)/\Sl strE wr A' c' L/\Fresh w wr/\(∀ ad,A'=some ad->w.heap.size<=ad.block)) (fun _ i _=>q.length-(intOf i).toNat)
 case atStart=>exact ⟨0,none,0,[],by omega,rfl,rfl,by simp [Hid],Sl.nil _ _,Touch.refl _ _,fun _ h=>by cases h⟩
 case round =>
  obtain ⟨k,A',c',L,hk,rfl,rfl,hL,hs',ht,hA'⟩:=hrel
  by_cases hlt:k<q.length
  ·have hbk:Blk wr g 198 [.slice A buf.length c,.int .i64 a,.int .i64 q.length,.int .i64 most]:=ht.blk HB.out (fun h=>h)
   obtain ⟨p,hp⟩:∃ p,Hid ((a+k)%buf.length=p):=⟨_,rfl⟩
   have hpl:p<buf.length:=by rw [<- hp.out];exact Nat.mod_lt _ (by omega)
   obtain ⟨gA,oA,rfl,hgA,hcell⟩:=(HS.out.touch ht (fun _ _ h=>h)).str_at p hpl
   have hget:buf.getD p ByteArray.empty=q.getD k ByteArray.empty:=by
    rw [<- hp.out,List.getD_eq_getElem?_getD,HG.out.get k hlt,<- List.getD_eq_getElem?_getD]
   rw [hget] at hcell
   have c0:wr.cell? ⟨g,0,none⟩=some (.slice (some ⟨gA,oA,none⟩) buf.length c):=hbk.cell 0
   have c1:wr.cell? ⟨g,1,none⟩=some (.int .i64 a):=hbk.cell 1
   have hll:L.length<=k:=by rw [hL.out];simp;omega
   have hLs:Hid (q.take (k+1)=L++[q.getD k ByteArray.empty]):=by
    show _=_
    rw [List.take_succ_eq_append_getElem hlt,hL.out]
    simp [List.getD,List.getElem?_eq_getElem hlt]
   generalize q.getD k ByteArray.empty=x at *
   clear hget hbk
   have HT:=lh ht
   clear ht
   go_upto_region 5 with (fail)
   go_region_law (first
    |(refine stp_str rfl rfl (l:=L) (l2:=[x]) rfl rfl (by exact hs'.alloc _) (by exact Sl.rd (Sl.lit strE wr _ rfl _ _ rfl _ rfl (by decide))) (by simp;omega) ?_;intro A2 c2 L2 w2 hL2 hs2 ht2 hA2)
    |(go_simp;go_at_call 91;refine (ringStr_place g _ c a k _ _ (by exact c0) (by exact c1) (by omega) (by omega) (by omega) (by omega) p hp).mono ?_;rintro e w' ⟨rfl,m,rfl⟩))
   all_goals
    have hfr:Hid (Fresh w w2):=by
     refine (((HT.out.drewN _).alloc _).trans ht2 ?_)
     intro j hj e
     cases A' with
     |none=>cases e
     |some ad=>have:=hA' ad rfl;simp at e;omega
    have hAn:∀ ad,A2=some ad->w.heap.size<=ad.block:=by
     intro ad ha
     have hsz:=HT.out.size
     subst ha
     rcases hA2 with e | e
     ·cases A' with
      |none=>cases e
      |some ad0=>have:=hA' ad0 rfl;simp at e;omega
     ·simp at e;omega
    clear ht2 hA2 hcell c0 c1
    go_wp2
    go_roundw
    case rel=>exact ⟨k+1,A2,c2,L2,by omega,by go_num,rfl,hL2.out.trans hLs.out.symm,hs2,hfr.out,hAn⟩
    case measure=>simp [intOf];omega
  ·have hkk:k=q.length:=by omega
   subst hkk
   have hlq:Hid (L=q):=by have:=hL.out;rw [List.take_length] at this;exact this
   clear hL
   go_wp2
   go_ret
   exact ⟨A',c',by rw [<- hlq.out];rfl,by rw [<- hlq.out];exact hs',ht,hA',fun ha=>by have h1:=hs'.1;have h2:=hs'.2.2.1 ha;rw [<- hlq.out];exact List.eq_nil_of_length_eq_zero (by omega)⟩
theorem ringStr_grow (g:Nat) (A:Option Addr) (c a most:Nat) (buf q:List ByteArray) (w:World)
  (hb:Blk w g 198 [.slice A buf.length c,.int .i64 a,.int .i64 q.length,.int .i64 most]) (hs:Sl strE w A c buf) (hm:buf.length<=most/\most<=4096) (hg:Gone buf a q) (hfull:q.length=buf.length) (hlt:q.length<most) :
  Calls Tryz.prog 148 #[.pointer (some ⟨g,0,none⟩)] w fun e w'=>e=.returned (.tuple #[])/\∃ gl c' buf',w.heap.size<=gl /\
   Blk w' g 198 [.slice (some ⟨gl,0,none⟩) buf'.length c',.int .i64 0,.int .i64 q.length,.int .i64 most]/\Sl strE w' (some ⟨gl,0,none⟩) c' buf'/\buf'.length<=most/\q.length<buf'.length/\Gone buf' 0 q/\Touch (· = g) w w':=by
 have c0:w.cell? ⟨g,0,none⟩=some (.slice A buf.length c):=hb.cell 0
 have c3:w.cell? ⟨g,3,none⟩=some (.int .i64 most):=hb.cell 3
 obtain ⟨hm1,hm2⟩:=hm
 obtain ⟨x1,hx1⟩:∃ x:Int,(if 4<2*(buf.length:Int) then 2*(buf.length:Int) else 4)=x:=⟨_,rfl⟩
 have hx1':0<=x1/\x1<=8192/\(buf.length:Int)<x1:=by rw [<- hx1];split <;> omega
 obtain ⟨n,hn⟩:∃ n:Nat,(if x1<(most:Int) then x1 else (most:Int))=(n:Int):=⟨(if x1<(most:Int) then x1 else (most:Int)).toNat,by split <;> omega⟩
 have hn':n<=most/\q.length<n:=by
  have:(n:Int)<=most/\(q.length:Int)<n:=by rw [<- hn];split <;> omega
  omega
 obtain ⟨hn1,hn2⟩:=hn'
 have HB:=lh hb
 have HS:=lh hs
 have HG:=lh hg
 have HF:=lh hfull
 clear hb hs hg hfull
 go_enter Tryz.func148,Tryz.ntmps148
 go_wp2
 go_quiet (fail)
 clear hx1 hx1' c0 c3
 go_wp2_with (at_make;refine mk_str rfl rfl n (by first | rfl | rw [<- hn]) (by first | rfl | rw [<- hn]) (by omega) ?_;intro L w1 hL hLn hs1 ht1)
 clear hn
 have b1:Blk w1 g 198 [.slice A buf.length c,.int .i64 a,.int .i64 q.length,.int .i64 most]:=ht1.blk (HB.out.drewN _) (fun h=>h)
 have s1:Sl strE w1 A c buf:=(show Sl strE (w.drewN _) A c buf from HS.out).touch ht1 (fun _ _ h=>h)
 refine (ringStr_all g A c a most buf q w1 b1 s1 ⟨hm1,hm2⟩ HG.out).mono ?_
 rintro e w2 ⟨A2,c2,rfl,s2,t2,hA2,hnil⟩
 have hs2:Sl strE w2 (some ⟨w.heap.size,0,none⟩) n L:=hs1.touch t2 (fun _ _ h=>h)
 go_upto_region 3 with (refine cp_str rfl rfl (x:=.tmp 18) (y:=.tmp 20) rfl rfl hLn rfl hs2 s2.rd ?_;intro L3 w3 hL3 hL3n hs3 ht3)
 have hgs:g<w.heap.size:=HB.out.lt
 have b3:Blk w3 g 198 [.slice A buf.length c,.int .i64 a,.int .i64 q.length,.int .i64 most]:=ht3.blk (t2.blk b1 (fun h=>h)) (fun e=>by simp at e;omega)
 have d0:w3.cell? ⟨g,0,none⟩=some (.slice A buf.length c):=b3.cell 0
 have d1:w3.cell? ⟨g,1,none⟩=some (.int .i64 a):=b3.cell 1
 have f0:=b3.frozen 0
 have f1:=b3.frozen 1
 have HFin:Hid (Blk ((w3.setCell ⟨g,0,none⟩ (.slice (some ⟨w.heap.size,0,none⟩) n n)).setCell ⟨g,1,none⟩ (.int .i64 0)) g 198 [.slice (some ⟨w.heap.size,0,none⟩) n n,.int .i64 0,.int .i64 q.length,.int .i64 most]):=
  (b3.set 0 _).set 1 _
 have HSl:Hid (Sl strE ((w3.setCell ⟨g,0,none⟩ (.slice (some ⟨w.heap.size,0,none⟩) n n)).setCell ⟨g,1,none⟩ (.int .i64 0)) (some ⟨w.heap.size,0,none⟩) n L3):=
  (hs3.setCell (p:=⟨g,0,none⟩) (fun ad ha=>by injection ha with ha;subst ha;simp;omega) _).setCell (p:=⟨g,1,none⟩) (fun ad ha=>by injection ha with ha;subst ha;simp;omega) _
 have HTo:Hid (Touch (· = g) w ((w3.setCell ⟨g,0,none⟩ (.slice (some ⟨w.heap.size,0,none⟩) n n)).setCell ⟨g,1,none⟩ (.int .i64 0))):=by
  have h0:Touch (· = g) w w3:=((((Touch.refl (· = g) w).drewN _).trans ht1 (fun _ _ h=>h.elim)).trans t2 (fun _ _ h=>h.elim)).trans ht3 (fun k hk e=>by simp at e;omega)
  exact (h0.st rfl).st rfl
 have HG3:Hid (Gone L3 0 q):=by
  have e:L3=q++L.drop q.length:=by rw [hL3.out,List.take_of_length_le (by rw [hLn.out];omega)]
  rw [e]
  exact Gone.whole q _ (by rw [List.length_drop,hLn.out];omega)
 clear b1 s1 s2 t2 hs2 hs1 ht1 hs3 ht3 b3 hL3 hL hLn
 go_wp2
 go_end0
 exact ⟨rfl,w.heap.size,n,L3,Nat.le_refl _,by rw [hL3n.out];exact HFin.out,HSl.out,by rw [hL3n.out];exact hn1,by rw [hL3n.out];exact hn2,HG3.out,HTo.out⟩
section
variable {w w':World} {g:Nat} {b:Option Nat} {most:Nat} {q:List ByteArray}
theorem RingStr.same (h:RingStr w g b most q) (he:w'.heap=w.heap):RingStr w' g b most q:=by
 obtain ⟨A,c,a,buf,h1,h2,h3,h4⟩:=h
 exact ⟨A,c,a,buf,by unfold Blk at h1 ⊢;rw [he];exact h1,h2.keep (fun _ _=>by rw [he]),h3,h4⟩
end
theorem ringStr_len (g:Nat) (b:Option Nat) (most:Nat) (q:List ByteArray) (w:World) (h:RingStr w g b most q) :
  Calls Tryz.prog 47 #[.pointer (some ⟨g,0,none⟩)] w fun e w'=>e=.returned (.int .i64 q.length)/\w'=w:=by
 obtain ⟨A,c,a,buf,hb,_⟩:=h
 have c2:w.cell? ⟨g,2,none⟩=some (.int .i64 q.length):=hb.cell 2
 go_enter Tryz.func47,Tryz.ntmps47
 go_wp2
 go_ret
 exact ⟨rfl,rfl⟩
theorem ringStr_room (g:Nat) (b:Option Nat) (most:Nat) (q:List ByteArray) (w:World) (h:RingStr w g b most q) :
  Calls Tryz.prog 38 #[.pointer (some ⟨g,0,none⟩)] w fun e w'=>e=.returned (.int .i64 ((most:Int)-(q.length:Int)))/\∃ m,w'=w.drewN m:=by
 have hl:=h.len_le
 obtain ⟨A,c,a,buf,hb,_⟩:=h
 have c2:w.cell? ⟨g,2,none⟩=some (.int .i64 q.length):=hb.cell 2
 have c3:w.cell? ⟨g,3,none⟩=some (.int .i64 most):=hb.cell 3
 go_enter Tryz.func38,Tryz.ntmps38
 go_wp2
 go_quiet (fail)
 go_wp2
 go_ret
 exact ⟨rfl,_,rfl⟩
theorem ringStr_put (g:Nat) (b:Option Nat) (most:Nat) (q:List ByteArray) (v:ByteArray) (w:World) (h:RingStr w g b most q) :
  Calls Tryz.prog 89 #[.pointer (some ⟨g,0,none⟩),.string v] w fun e w'=>e=.returned (.int .i64 (if q.length<most then 0 else 7))/\∃ b',RingStr w' g b' most (if q.length<most then q++[v] else q)/\Touch (Foot g b) w w' /\
   ∀ k,b'=some k->b=some k\/w.heap.size<=k:=by
 by_cases hlt:q.length<most
 ·rw [if_pos hlt,if_pos hlt]
  have hr0:((most:Int)-(q.length:Int)==0)=false:=by simp;omega
  go_enter Tryz.func89,Tryz.ntmps89
  go_wp2_with fail
  refine (ringStr_room g b most q w h).mono ?_
  rintro e w1 ⟨rfl,m,rfl⟩
  go_wp2
  obtain ⟨A,c,a,buf,hb,hs,hA,hm1,hm2,hg⟩:=h
  have c0:w.cell? ⟨g,0,none⟩=some (.slice A buf.length c):=hb.cell 0
  have c2:w.cell? ⟨g,2,none⟩=some (.int .i64 q.length):=hb.cell 2
  have hql:=hg.len
  have hcap:=hs.1
  have hcapm:=hs.2.1
  go_quiet (fail)
  clear c0 c2
  go_upto_if 17 with (fail)
  go_cut [] (fun wx=>∃ (A2:Option Addr) (c2 a2:Nat) (buf2:List ByteArray),Blk wx g 198 [.slice A2 buf2.length c2,.int .i64 a2,.int .i64 q.length,.int .i64 most]/\Sl strE wx A2 c2 buf2/\buf2.length<=most/\q.length<buf2.length/\Gone buf2 a2 q/\Touch (Foot g b) w wx/\∀ ad,A2=some ad->b=some ad.block\/w.heap.size<=ad.block)
  case first =>
   by_cases hfull:q.length=buf.length
   ·have hfi:((q.length:Int)==(buf.length:Int))=true:=by simp [hfull]
    go_wp2_with fail
    refine (ringStr_grow g A c a most buf q _ (hb.drewN _) hs ⟨hm1,hm2⟩ hg hfull hlt).mono ?_
    rintro e w2 ⟨rfl,gl,c',buf',hgl,b2,s2,hb1,hb2,g2,t2⟩
    go_wp2
    go_meet
    case rel=>exact ⟨_,_,0,buf',b2,s2,hb1,hb2,g2,((Touch.refl _ w).drewN _).trans t2 (fun k _ e=>.inl e),fun ad ha=>.inr (by injection ha with ha;subst ha;exact hgl)⟩
   ·have hfi:((q.length:Int)==(buf.length:Int))=false:=by simp;omega
    go_wp2
    go_meet
    case rel=>exact ⟨A,c,a,buf,hb,hs,hm1,by omega,hg,((Touch.refl _ w).drewN _).drewN _,fun ad ha=>.inl (by rw [<- hA,ha];rfl)⟩
  case rest =>
   clear hb hs hA hm1 hg hql hcap hcapm
   obtain ⟨A2,c2,a2,buf2,hb,hs,hm1,hlt2,hg,ht,hA⟩:=hcut
   obtain ⟨p,hp⟩:∃ p,Hid ((a2+q.length)%buf2.length=p):=⟨_,rfl⟩
   have hpl:p<buf2.length:=by rw [<- hp.out];exact Nat.mod_lt _ (by omega)
   obtain ⟨gA,oA,rfl,hgA,hcell⟩:=hs.str_at p hpl
   have hfz:=hs.frozen gA oA rfl (oA+p)
   have hne:gA ≠ g:=hs.blk_ne hb (by decide) ⟨gA,oA,none⟩ rfl
   have ha:a2<=4096:=by rcases hg.pos with h | ⟨_,h⟩ <;> omega
   have c0:wc.cell? ⟨g,0,none⟩=some (.slice (some ⟨gA,oA,none⟩) buf2.length c2):=hb.cell 0
   have c1:wc.cell? ⟨g,1,none⟩=some (.int .i64 a2):=hb.cell 1
   have c2':wc.cell? ⟨g,2,none⟩=some (.int .i64 q.length):=hb.cell 2
   have f2:=hb.frozen 2
   have hcap:=hs.1
   have hcapm:=hs.2.1
   have HR:Hid (RingStr ((wc.setCell ⟨gA,oA+p,none⟩ (.string v)).setCell ⟨g,2,none⟩ (.int .i64 ((q.length:Int)+1))) g (some gA) most (q++[v])):=by
    refine ⟨some ⟨gA,oA,none⟩,c2,a2,buf2.set p v,?_,?_,rfl,by simpa using hm1,hm2,?_⟩
    ·rw [List.length_set]
     exact ((hb.far (Ne.symm hne) _).set 2 _).eq_cells (by simp)
    ·exact (hs.set1 rfl rfl (i:=p) (x:=v) (u:=.string v) rfl).setCell (fun ad ha=>by injection ha with ha;subst ha;exact hne) _
    ·rw [<- hp.out];exact hg.put hlt2 v
   have HT:Hid (Touch (Foot g b) w ((wc.setCell ⟨gA,oA+p,none⟩ (.string v)).setCell ⟨g,2,none⟩ (.int .i64 ((q.length:Int)+1)))):=
    (ht.setCell (fun hlt=>by rcases hA _ rfl with e | e;exact .inr e;simp at e hlt;omega) _).st (.inl rfl)
   have HA:=lh hA
   clear hb hs hA hg ht
   go_upto_region 5 with (fail)
   go_region_law (go_simp;go_at_call 91;refine (ringStr_place g _ c2 a2 q.length _ _ (by exact c0) (by exact c1) (by omega) (by omega) (by omega) (by omega) p hp).mono ?_;rintro e w' ⟨rfl,m2,rfl⟩)
   all_goals
    go_wp2
    go_ret
    exact ⟨rfl,some gA,HR.out.same rfl,⟨HT.out.os,HT.out.tape,HT.out.output,HT.out.size,HT.out.block⟩,fun k hk=>by injection hk with hk;subst hk;exact HA.out _ rfl⟩
 ·rw [if_neg hlt,if_neg hlt]
  have hl:=h.len_le
  have hr0:((most:Int)-(q.length:Int)==0)=true:=by simp;omega
  go_enter Tryz.func89,Tryz.ntmps89
  go_wp2_with fail
  refine (ringStr_room g b most q w h).mono ?_
  rintro e w1 ⟨rfl,m,rfl⟩
  go_wp2
  go_ret
  exact ⟨rfl,b,h.same rfl,(Touch.refl _ w).drewN _,fun k hk=>.inl hk⟩
theorem ringStr_first (g:Nat) (b:Option Nat) (most:Nat) (q:List ByteArray) (w:World) (h:RingStr w g b most q) :
  Calls Tryz.prog 90 #[.pointer (some ⟨g,0,none⟩)] w fun e w'=>e=.returned (.tuple #[.string (q.getD 0 ByteArray.empty),.int .i64 (if q.length=0 then 9 else 0)])/\∃ m,w'=w.drewN m:=by
 obtain ⟨A,c,a,buf,hb,hs,rfl,hm1,hm2,hg⟩:=h
 have c0:w.cell? ⟨g,0,none⟩=some (.slice A buf.length c):=hb.cell 0
 have c1:w.cell? ⟨g,1,none⟩=some (.int .i64 a):=hb.cell 1
 have c2:w.cell? ⟨g,2,none⟩=some (.int .i64 q.length):=hb.cell 2
 by_cases hq:q.length=0
 ·have:q=[]:=List.eq_nil_of_length_eq_zero hq
  subst this
  go_enter Tryz.func90,Tryz.ntmps90
  go_wp2
  go_ret2
  exact ⟨rfl,0,rfl⟩
 ·rw [if_neg hq]
  have hq0:((q.length:Int)==0)=false:=by simpa using hq
  have hql:=hg.len
  obtain ⟨hal,hget⟩:=hg.first (by omega)
  obtain ⟨gA,oA,rfl,hgA,hcell⟩:=hs.str_at a hal
  rw [List.getD_eq_getElem?_getD,hget,<- List.getD_eq_getElem?_getD] at hcell
  generalize q.getD 0 ByteArray.empty=x at *
  go_enter Tryz.func90,Tryz.ntmps90
  go_wp2
  go_quiet (fail)
  go_wp2
  go_ret2
  exact ⟨rfl,_,rfl⟩
theorem ringStr_take (g:Nat) (b:Option Nat) (most:Nat) (q:List ByteArray) (w:World) (h:RingStr w g b most q) :
  Calls Tryz.prog 42 #[.pointer (some ⟨g,0,none⟩)] w fun e w'=>e=.returned (.tuple #[.string (q.getD 0 ByteArray.empty),.int .i64 (if q.length=0 then 9 else 0)])/\RingStr w' g b most q.tail/\Touch (Foot g b) w w':=by
 have hfirst:=ringStr_first g b most q w h
 by_cases hq:q.length=0
 ·have:q=[]:=List.eq_nil_of_length_eq_zero hq
  subst this
  have HH:=lh h
  clear h
  go_enter Tryz.func42,Tryz.ntmps42
  go_wp2_with fail
  refine hfirst.mono ?_
  rintro e w1 ⟨rfl,m,rfl⟩
  go_wp2
  go_ret2
  exact ⟨rfl,HH.out.same rfl,(Touch.refl _ w).drewN _⟩
 ·rw [if_neg hq] at hfirst ⊢
  obtain ⟨A,c,a,buf,hb,hs,rfl,hm1,hm2,hg⟩:=h
  have hql:=hg.len
  obtain ⟨hal,hget⟩:=hg.first (by omega)
  obtain ⟨gA,oA,rfl,hgA,hcell⟩:=hs.str_at a hal
  have hfz:=hs.frozen gA oA rfl (oA+a)
  have hne:gA ≠ g:=hs.blk_ne hb (by decide) ⟨gA,oA,none⟩ rfl
  have c0:w.cell? ⟨g,0,none⟩=some (.slice (some ⟨gA,oA,none⟩) buf.length c):=hb.cell 0
  have c1:w.cell? ⟨g,1,none⟩=some (.int .i64 a):=hb.cell 1
  have c2:w.cell? ⟨g,2,none⟩=some (.int .i64 q.length):=hb.cell 2
  have f1:=hb.frozen 1
  have f2:=hb.frozen 2
  have hcap:=hs.1
  have hcapm:=hs.2.1
  obtain ⟨p,hp⟩:∃ p,Hid ((a+1)%buf.length=p):=⟨_,rfl⟩
  obtain ⟨k,hk⟩:∃ k:Nat,q.length=k+1:=⟨q.length-1,by omega⟩
  have HR:Hid (RingStr (((w.setCell ⟨gA,oA+a,none⟩ (.string ByteArray.empty)).setCell ⟨g,1,none⟩ (.int .i64 p)).setCell ⟨g,2,none⟩ (.int .i64 ((q.length:Int)-1))) g (some gA) most q.tail):=by
   refine ⟨some ⟨gA,oA,none⟩,c,p,buf.set a ByteArray.empty,?_,?_,rfl,by simpa using hm1,hm2,?_⟩
   ·rw [List.length_set]
    exact (((hb.far (Ne.symm hne) _).set 1 _).set 2 _).eq_cells (by simp [hk])
   ·exact ((hs.set1 rfl rfl (i:=a) (x:=ByteArray.empty) (u:=.string ByteArray.empty) rfl).setCell (fun ad ha=>by injection ha with ha;subst ha;exact hne) _).setCell (fun ad ha=>by injection ha with ha;subst ha;exact hne) _
   ·rw [<- hp.out];exact hg.take (by omega) _
  have HT:Hid (Touch (Foot g (some gA)) w (((w.setCell ⟨gA,oA+a,none⟩ (.string ByteArray.empty)).setCell ⟨g,1,none⟩ (.int .i64 p)).setCell ⟨g,2,none⟩ (.int .i64 ((q.length:Int)-1)))):=
   (((Touch.refl _ w).setCell (fun _=>.inr rfl) _).st (.inl rfl)).st (.inl rfl)
  generalize q.getD 0 ByteArray.empty=x at *
  generalize hj:(q.length:Int)=j at *
  have hb1:Blk (w.setCell ⟨gA,oA+a,none⟩ (.string ByteArray.empty)) g 198 [.slice (some ⟨gA,oA,none⟩) buf.length c,.int .i64 a,.int .i64 j,.int .i64 most]:=hb.far (Ne.symm hne) _
  have d0:(w.setCell ⟨gA,oA+a,none⟩ (.string ByteArray.empty)).cell? ⟨g,0,none⟩=some (.slice (some ⟨gA,oA,none⟩) buf.length c):=hb1.cell 0
  have d1:(w.setCell ⟨gA,oA+a,none⟩ (.string ByteArray.empty)).cell? ⟨g,1,none⟩=some (.int .i64 a):=hb1.cell 1
  clear hb hs hg hb1 hget
  go_enter Tryz.func42,Tryz.ntmps42
  go_wp2_with fail
  refine hfirst.mono ?_
  rintro e w1 ⟨rfl,m,rfl⟩
  clear hfirst
  go_wp2
  go_region
  all_goals
   go_wp2_with fail
   refine (ringStr_place g _ c a 1 buf.length _ (by exact d0) (by exact d1) (by omega) (by omega) (by omega) (by omega) p hp).mono ?_
   rintro e w2 ⟨rfl,m2,rfl⟩
   go_wp2
   go_ret2
   exact ⟨rfl,HR.out.same rfl,⟨HT.out.os,HT.out.tape,HT.out.output,HT.out.size,HT.out.block⟩⟩
theorem r01of_any (x:Int) (w:World):Calls Tryz.prog 56 #[.int .i64 x] w fun e w'=>e=.returned (.int .i64 (x%16777216))/\w'=w:=by
 obtain ⟨r,hr⟩:∃ r:Int,x.tmod 16777216=r:=⟨_,rfl⟩
 have h1:=Int.tmod_lt_of_pos x (show (0:Int)<16777216 by decide)
 have h2:=Int.tmod_lt_of_pos (-x) (show (0:Int)<16777216 by decide)
 rw [Int.neg_tmod] at h2
 have h3:=Int.mul_tdiv_add_tmod x 16777216
 rw [hr] at h1 h2 h3
 by_cases hn:r<0
 ·have HR:Hid (x%16777216=r+16777216):=by unfold Hid;omega
  clear h3
  go_enter Tryz.func56,Tryz.ntmps56
  go_wp2
  go_ret
  exact ⟨by rw [HR.out];rfl,rfl⟩
 ·have HR:Hid (x%16777216=r):=by unfold Hid;omega
  clear h3
  go_enter Tryz.func56,Tryz.ntmps56
  go_wp2
  go_ret
  exact ⟨by rw [HR.out];rfl,rfl⟩
namespace Wh
def revTo (l:List Int) (k:Nat):List Int:=(List.range l.length).map fun i=>if i<k\/l.length<=i+k then l.getD (l.length-1-i) 0 else l.getD i 0
theorem revTo_len (l:List Int) (k:Nat):(revTo l k).length=l.length:=by simp [revTo]
theorem revTo_get (l:List Int) (k i:Nat) (h:i<l.length):(revTo l k)[i]?=some (if i<k\/l.length<=i+k then l.getD (l.length-1-i) 0 else l.getD i 0):=by
 simp [revTo,h]
theorem revTo_zero (l:List Int):revTo l 0=l:=by
 apply List.ext_getElem?
 intro i
 by_cases h:i<l.length
 ·rw [revTo_get l 0 i h,if_neg (by omega),List.getElem?_eq_getElem h]
  simp [List.getD,List.getElem?_eq_getElem h]
 ·rw [List.getElem?_eq_none (by rw [revTo_len];omega),List.getElem?_eq_none (by omega)]
theorem revTo_end (l:List Int) (k:Nat) (h:l.length<=2*k+1):revTo l k=l.reverse:=by
 apply List.ext_getElem?
 intro i
 by_cases hi:i<l.length
 ·rw [revTo_get l k i hi,List.getElem?_reverse hi]
  have hj:l.length-1-i<l.length:=by omega
  rw [List.getElem?_eq_getElem hj]
  by_cases hc:i<k\/l.length<=i+k
  ·rw [if_pos hc]
   simp [List.getD,List.getElem?_eq_getElem hj]
  ·rw [if_neg hc]
   have e:l.length-1-i=i:=by omega
   simp only [e]
   simp [List.getD,List.getElem?_eq_getElem hi]
 ·rw [List.getElem?_eq_none (by rw [revTo_len];omega),List.getElem?_eq_none (by simp;omega)]
theorem revTo_set (l:List Int) (k:Nat) (h:2*k+1<l.length):((revTo l k).set k (l.getD (l.length-1-k) 0)).set (l.length-1-k) (l.getD k 0)=revTo l (k+1):=by
 apply List.ext_getElem?
 intro i
 by_cases hi:i<l.length
 ·rw [revTo_get l (k+1) i hi,List.getElem?_set,List.getElem?_set]
  simp only [List.length_set,revTo_len]
  by_cases h1:l.length-1-k=i
  ·rw [if_pos h1,if_pos (by omega),if_pos (by omega)]
   rw [show l.length-1-i=k by omega]
  ·rw [if_neg h1]
   by_cases h2:k=i
   ·rw [if_pos h2,if_pos (by omega),if_pos (by omega),h2]
   ·rw [if_neg h2,revTo_get l k i hi]
    by_cases h3:i<k\/l.length<=i+k
    ·rw [if_pos h3,if_pos (by omega)]
    ·rw [if_neg h3,if_neg (by omega)]
 ·rw [List.getElem?_eq_none (by simp [revTo_len];omega),List.getElem?_eq_none (by rw [revTo_len];omega)]
theorem revTo_k (l:List Int) (k:Nat) (h:2*k+1<l.length):(revTo l k).getD k 0=l.getD k 0:=by
 unfold List.getD
 rw [revTo_get l k k (by omega),if_neg (by omega)]
 rfl
theorem revTo_n (l:List Int) (k:Nat) (h:2*k+1<l.length):(revTo l k).getD (l.length-1-k) 0=l.getD (l.length-1-k) 0:=by
 unfold List.getD
 rw [revTo_get l k (l.length-1-k) (by omega),if_neg (by omega)]
 rfl
end Wh
set_option maxRecDepth 10000 in
theorem rev6_any (A:Option Addr) (c:Nat) (l:List Int) (w:World) (h:Sl numE w A c l) (hl:l.length<=1000) :
  Calls Tryz.prog 153 #[.slice A l.length c] w fun e w'=>e=.returned (.tuple #[])/\Sl numE w' A c l.reverse/\Touch (fun k=>A.map Addr.block=some k) w w':=by
 have hlc:=h.1
 have HS0:Hid (Sl numE w A c (Wh.revTo l 0)):=by
  rw [Wh.revTo_zero]
  exact h
 clear h
 go_enter Tryz.func153,Tryz.ntmps153
 go_wp2
 go_loopw [2,3] (fun i j wr=>∃ k:Nat,2*k<=l.length+1/\i=.int .i64 k/\j=.int .i64 ((l.length:Int)-1-k)/\Hid (Sl numE wr A c (Wh.revTo l k))/\Hid (Touch (fun k=>A.map Addr.block=some k) w wr)) (fun i _ _=>l.length+1-(intOf i).toNat)
 case atStart=>exact ⟨0,by omega,rfl,by simp,HS0,Touch.refl _ _⟩
 case round =>
  obtain ⟨k,hk,rfl,rfl,HS,HT⟩:=hrel
  by_cases hlt:2*k+1<l.length
  ·obtain ⟨m,hm⟩:∃ m:Nat,(l.length:Int)-1-k=m:=⟨l.length-1-k,by omega⟩
   have hml:m=l.length-1-k:=by omega
   obtain ⟨g,o,hA,hg,c1⟩:=HS.out.num_at k (by rw [Wh.revTo_len];omega)
   obtain ⟨g',o',hA',_,c2⟩:=HS.out.num_at m (by rw [Wh.revTo_len];omega)
   rw [hA] at hA'
   cases hA'
   subst hA
   rw [Wh.revTo_k l k hlt] at c1
   rw [hml,Wh.revTo_n l k hlt,<- hml] at c2
   have f1:=HS.out.frozen g o rfl (o+k)
   have f2:=HS.out.frozen g o rfl (o+m)
   have HX:Hid (Sl numE ((wr.setCell ⟨g,o+k,none⟩ (.int .u32 (l.getD m 0))).setCell ⟨g,o+m,none⟩ (.int .u32 (l.getD k 0))) (some ⟨g,o,none⟩) c (Wh.revTo l (k+1))):=by
    rw [<- Wh.revTo_set l k hlt,<- hml]
    exact (HS.out.set1 rfl rfl (i:=k) (x:=l.getD m 0) rfl).set1 rfl rfl (i:=m) (x:=l.getD k 0) rfl
   have HT2:Hid (Touch (fun k=>Option.map Addr.block (some ⟨g,o,none⟩)=some k) w ((wr.setCell ⟨g,o+k,none⟩ (.int .u32 (l.getD m 0))).setCell ⟨g,o+m,none⟩ (.int .u32 (l.getD k 0)))):=(HT.out.st rfl).st rfl
   rw [hm]
   have hkm:(k:Int)<(m:Int):=by omega
   have hkm2:o+k ≠ o+m:=by omega
   have hml2:(m:Int)<(l.length:Int):=by omega
   have hkl2:(k:Int)<(l.length:Int):=by omega
   generalize l.getD m 0=x at *
   generalize l.getD k 0=y at *
   have HM:=lh hm
   clear HS HT HS0 hm hml
   go_upto_region 3 with (fail)
   go_region
   all_goals
    go_wp2
    go_roundw
    case rel=>exact ⟨k+1,by omega,by go_num,by congr 1;have:=HM.out;omega,HX,HT2.out.drew⟩
    case measure=>simp [intOf];omega
  ·have HE:Hid (Wh.revTo l k=l.reverse):=Wh.revTo_end l k (by omega)
   rw [HE.out] at HS
   clear HS0
   have hge:decide ((k:Int)<(l.length:Int)-1-k)=false:=decide_eq_false (by omega)
   go_wp2
   go_end0
   exact ⟨rfl,HS.out,HT.out⟩
end Go.Proofs.YtlbopdfobgjjaaaGreatDoor

/-
  gaps.List: a set's pairs · gaps.Set: the set that pairs make, or none.
-/
import Derived.Test.YtlbopdfobgjjaaaGreatDoorEvD
import Derived.Test.YtlbopdfobgjjaaaGreatDoorSpanL
import Derived.Deep.DeepCutAuto
import Derived.Deep.CutBlock
set_option maxHeartbeats 4000000
namespace Go.Proofs.YtlbopdfobgjjaaaGreatDoor
open Go.RowKit
namespace Gp
def gl (b:Int) (s:List (Int × Int)):List Int:=(Sp.flat s).map fun x=>(b+x)%16777216
theorem gl_append (b:Int) (s t:List (Int × Int)):gl b (s++t)=gl b s++gl b t:=by
 unfold gl
 rw [Sp.flat_append,List.map_append]
theorem gl_one (b:Int) (x:Int × Int):gl b [x]=[(b+x.1)%16777216,(b+x.2)%16777216]:=by
 unfold gl
 rw [Sp.flat_one]
 rfl
theorem gl_succ (b:Int) (s:List (Int × Int)) (k:Nat) (hk:k<s.length):gl b (s.take (k+1))=gl b (s.take k)++[(b+(s.getD k (0,0)).1)%16777216,(b+(s.getD k (0,0)).2)%16777216]:=by
 rw [Sp.take_succ_getD s k hk,gl_append,gl_one]
def Half (S T:List (Int × Int)):Prop:=Sp.Good T/\∀ n,Sp.mem T n ↔ Sp.mem S n/\0<=n/\n<8388609
end Gp
def ListPost (b:Int) (S:List (Int × Int)) (w:World) (e:Ending) (w':World):Prop:=
 ∃ B d T,e=.returned (.slice B (Gp.gl b T).length d)/\Mine numE w w' B d (Gp.gl b T)/\Gp.Half S T
set_option maxRecDepth 4000 in
theorem listg_any (b:Int) (A:Option Addr) (c:Nat) (S:List (Int × Int)) (w:World) (h:Rd spanE w A c S) (hg:Sp.Good S) (hl:S.length<=1000000) :
  Calls Tryz.prog 131 #[.int .u32 b,.slice A S.length c] w (ListPost b S w):=by
 have H:=lh h
 clear h
 go_enter Tryz.func131,Tryz.ntmps131
 go_wp2_with fail
 have R1:Hid (Rd spanE (w.alloc (.cells #[.int .i64 0,.int .i64 8388609] 284)) (some ⟨w.heap.size,0,none⟩) 1 [(0,8388609)]):=Sl.rd (Sl.lit spanE w _ rfl #[.int .i64 0,.int .i64 8388609] [(0,8388609)] rfl 1 rfl (by decide))
 have F1:Hid (Fresh w (w.alloc (.cells #[.int .i64 0,.int .i64 8388609] 284))):=(Touch.refl _ w).alloc _
 generalize w.alloc (.cells #[.int .i64 0,.int .i64 8388609] 284)=w1 at *
 refine (of_any _ 1 [(0,8388609)] w1 R1.out (by simp)).mono ?_
 rintro e w2 ⟨B,d,Q,rfl,MQ,hof,hQl⟩
 obtain rfl:Q=[(0,8388609)]:=Sp.Canon.uniq hof.1 ⟨by simp,by simp⟩ (fun n=>by
  rw [hof.mem]
  simp only [List.mem_cons,List.not_mem_nil,or_false,exists_eq_left,show Sp.near (0,8388609)=(0,8388609) by decide,Sp.In,Sp.mem_cons,Sp.mem_nil])
 have F2:=lh (F1.out.trans MQ.fresh (fun _ _ h=>h))
 have HG1:=lh hof.good
 have R2:=lh MQ.sl.rd
 clear MQ hof F1 R1 hQl
 simp only [List.length_cons,List.length_nil,Nat.zero_add]
 go_wp2_with fail
 refine (both_any A c S B d [(0,8388609)] w2 (H.out.touch F2.out (fun _ _ _ h=>h)) R2.out hg HG1.out hl (by simp)).mono ?_
 rintro e w3 ⟨C,f,T,rfl,MT,hgT,hT⟩
 have HH:Hid (Gp.Half S T):=⟨hgT,fun n=>by
  rw [hT,Sp.mem_cons]
  simp [Sp.mem_nil]⟩
 have F3:=lh (F2.out.trans MT.fresh (fun _ _ h=>h))
 have RT:Hid (Rd spanE w3 C f T):=MT.sl.rd
 have hTl:T.length<=2199023255553:=by
  have:=Sp.Canon.len_le hgT.1 (-1099511627776) 1099511627777 (by omega) (fun n hn=>hgT.mem_bd hn)
  omega
 have hTm:=RT.out.2.1
 have hTc:=RT.out.1
 unfold maxLen at hTm
 clear MT hT hgT R2 F2 HG1 H
 simp only
 go_wp2_with fail
 go_loopw [5,14] (fun s5 i wr=>∃ (k:Nat) (D:Option Addr) (e:Nat) (M:List Int),k<=T.length/\i=.int .i64 k/\s5=.slice D M.length e/\Hid (M=Gp.gl b (T.take k))/\Hid (Mine numE w3 wr D e M)/\Hid (M.length=2*k)) (fun _ i _=>T.length-(intOf i).toNat)
 case atStart=>exact ⟨0,none,0,[],by omega,rfl,rfl,rfl,Mine.nil _ _,rfl⟩
 case round =>
  obtain ⟨k,D,e,M,hkL,rfl,rfl,HMe,HM,hMl⟩:=hrel
  by_cases hk:k<T.length
  ·have hk1:(k:Int)<(T.length:Int):=by omega
   have hdk1:decide ((k:Int)<(T.length:Int))=true:=decide_eq_true hk1
   have hk0:(0:Int)<=(k:Int):=by omega
   obtain ⟨g,o,rfl,_,c0,c1⟩:=(HM.out.keepsR RT.out).span_at k hk
   have HS:=lh (Gp.gl_succ b T k hk)
   rw [<- HMe.out] at HS
   generalize T.getD k (0,0)=y at *
   obtain ⟨p,q⟩:=y
   simp only at c0 c1 HS
   go_upto_region 5 with (fail)
   have B5:=lh (Blk.new wr 284 [.int .i64 p,.int .i64 q])
   have M5:=lh (HM.out.alloc (.cells #[.int .i64 p,.int .i64 q] 284))
   generalize wr.alloc (.cells #[.int .i64 p,.int .i64 q] 284)=w5 at *
   have e0:w5.cell? ⟨wr.heap.size,0,none⟩=some (.int .i64 p):=B5.out.cell 0
   have e1:w5.cell? ⟨wr.heap.size,1,none⟩=some (.int .i64 q):=B5.out.cell 1
   have M6:=lh (M5.out.drewN 1)
   have hMb:M.length+2<=17592186044416:=by have:=hMl.out;omega
   clear c0 c1 HM HMe
   go_region_law (first
    |(refine stp_num rfl rfl (l:=M) (l2:=[(b+p)%16777216,(b+q)%16777216]) rfl rfl (by exact Sl.alloc (w:=w5.drew) M5.out.sl _) (by exact Sl.rd (Sl.lit numE _ _ rfl _ _ rfl _ rfl (by decide))) (by simp;omega) ?_;intro D7 d7 M7 w7 hM7 hs7 ht7 hD7)
    |(go_simp;go_at_call 62;refine (sadd_any _ _ _).mono ?_;rintro e' w' ⟨rfl,rfl⟩))
   all_goals
    have M7':=lh ((Mine.alloc (w:=w5.drew) ⟨M5.out.sl,M5.out.fresh.drew,M5.out.base⟩ _).app hs7 ht7 hD7)
    have HM7:Hid (M7=Gp.gl b (T.take (k+1))):=by unfold Hid;rw [HS.out,hM7.out]
    have hl7:Hid (M7.length=2*(k+1)):=by unfold Hid;rw [hM7.out,List.length_append,hMl.out];simp;omega
    clear hs7 ht7 hD7 hM7 M5 M6 B5 e0 e1 HS
    go_wp2
    go_roundw
    case rel=>exact ⟨k+1,D7,d7,M7,by omega,by go_num,rfl,HM7,M7',hl7⟩
    case measure=>simp [intOf];omega
  ·have hkk:k=T.length:=by omega
   have HR:Hid (M=Gp.gl b T):=by unfold Hid;rw [HMe.out,hkk,List.take_length]
   have hk':¬ ((k:Int)<(T.length:Int)):=by omega
   have MF:=lh (HM.out.back F3.out)
   clear hk HMe hkk HM
   go_wp2
   go_ret
   exact ⟨D,e,T,by rw [<- HR.out];rfl,HR.out ▸ MF.out,HH.out⟩
namespace Gp
def ats (b:Int) (l:List Int):List Int:=l.map fun x=>(x-b)%16777216
def up (E:Int):Int->List Int->Bool
 |_,[]=>true
 |last,a::r=>decide (last<a) && decide (a<=E) && up E a r
def prs:List Int->List (Int × Int)
 |a::b::r=>(a,b)::prs r
 |_=>[]
def lst (L:List Int):Int:=L.getLast?.getD (-1)
theorem lst_snoc (L:List Int) (a:Int):lst (L++[a])=a:=by simp [lst]
theorem lst_cons2 (x y:Int) (r:List Int) (h:r ≠ []):lst (x::y::r)=lst r:=by
 cases r with
 |nil=>exact absurd rfl h
 |cons z r=>simp [lst,List.getLast?_cons_cons]
theorem prs_snoc:∀ (L:List Int) (a:Int),prs (L++[a])=if L.length%2=1 then prs L++[(lst L,a)] else prs L
 |[],a=>by simp [prs]
 |[y],a=>by simp [prs,lst]
 |x::y::r,a=>by
  have ih:=prs_snoc r a
  show (x,y)::prs (r++[a])=_
  rw [ih]
  by_cases h:r.length%2=1
  ·have hr:r ≠ []:=by rintro rfl;simp at h
   have h2:(x::y::r).length%2=1:=by simp only [List.length_cons];omega
   rw [if_pos h,if_pos h2,lst_cons2 x y r hr]
   rfl
  ·have h2:¬ (x::y::r).length%2=1:=by simp only [List.length_cons];omega
   rw [if_neg h,if_neg h2]
   rfl
theorem up_append (E:Int) (L R:List Int) (last:Int):up E last (L++R)=(up E last L && up E (L.getLast?.getD last) R):=by
 induction L generalizing last with
 |nil=>simp [up]
 |cons a L ih =>
  show (decide (last<a) && decide (a<=E) && up E a (L++R))=(decide (last<a) && decide (a<=E) && up E a L && _)
  rw [ih]
  have:(a::L).getLast?.getD last=L.getLast?.getD a:=by
   cases L with
   |nil=>rfl
   |cons b L =>
    rw [List.getLast?_cons_cons]
    cases h:(b::L).getLast? with
    |none=>simp at h
    |some z=>rfl
  rw [this]
  simp [Bool.and_assoc]
theorem up_snoc (E:Int) (L:List Int) (a:Int):up E (-1) (L++[a])=(up E (-1) L && decide (lst L<a) && decide (a<=E)):=by
 rw [up_append]
 unfold lst
 simp only [up,Bool.and_true,Bool.and_assoc]
theorem up_small (E:Int) (hE:E<=8388608):∀ (L:List Int) (last:Int),-1<=last->up E last L=true->Sp.Small (prs L)/\∀ x ∈ prs L,last<x.1/\x.1<x.2/\x.2<=E
 |[],_,_,_=>⟨by simp [prs,Sp.Small],by simp [prs]⟩
 |[_],_,_,_=>⟨by simp [prs,Sp.Small],by simp [prs]⟩
 |a::b::r,last,h0,h=>by
  simp only [up,Bool.and_eq_true,decide_eq_true_eq] at h
  obtain ⟨⟨h1,h2⟩,⟨h3,h4⟩,h5⟩:=h
  obtain ⟨i1,i2⟩:=up_small E hE r b (by omega) h5
  refine ⟨fun x hx=>?_,fun x hx=>?_⟩
  ·rcases List.mem_cons.1 hx with rfl | hx
   ·simp only;omega
   ·exact i1 x hx
  ·rcases List.mem_cons.1 hx with rfl | hx
   ·simp only;omega
   ·have:=i2 x hx;omega
theorem prs_len:∀ (L:List Int),(prs L).length<=L.length
 |[]=>by simp [prs]
 |[_]=>by simp [prs]
 |_::_::r=>by have:=prs_len r;simp only [prs,List.length_cons];omega
def okSet (b t:Int) (l:List Int):Bool:=decide (l.length%2=0) && decide ((t-b)%16777216<=8388608) && up ((t-b)%16777216) (-1) (ats b l)
theorem ats_succ (b:Int) (l:List Int) (k:Nat) (hk:k<l.length):ats b (l.take (k+1))=ats b (l.take k)++[(l.getD k 0-b)%16777216]:=by
 unfold ats
 rw [List.take_succ_eq_append_getElem hk,List.map_append]
 simp [List.getD,List.getElem?_eq_getElem hk]
theorem ats_len (b:Int) (l:List Int) (k:Nat) (hk:k<=l.length):(ats b (l.take k)).length=k:=by
 unfold ats
 rw [List.length_map,List.length_take]
 omega
theorem ats_take (b:Int) (l:List Int) (k:Nat):∃ R,ats b l=ats b (l.take k)++R:=⟨ats b (l.drop k),by
 unfold ats
 rw [<- List.map_append,List.take_append_drop]⟩
end Gp
def SetPost (b t:Int) (l:List Int) (w:World) (e:Ending) (w':World):Prop:=
 (Gp.okSet b t l=true->∃ C g S,e=.returned (.tuple #[.slice C S.length g,.bool true])/\Mine spanE w w' C g S/\Sp.IsOf (Gp.prs (Gp.ats b l)) S) /\
 (Gp.okSet b t l=false->e=.returned (.tuple #[.slice none 0 0,.bool false])/\Fresh w w')
set_option maxRecDepth 4000 in
theorem gset_any (b t:Int) (A:Option Addr) (c:Nat) (l:List Int) (w:World) (h:Rd numE w A c l) (hl:l.length<=1000000) :
  Calls Tryz.prog 238 #[.int .u32 b,.int .u32 t,.slice A l.length c] w (SetPost b t l w):=by
 have H:=lh h
 clear h
 obtain ⟨E,hE⟩:=xq ((t-b)%16777216)
 have hEb:0<=E/\E<16777216:=by omega
 have HOK:Hid (Gp.okSet b t l=(decide (l.length%2=0) && decide (E<=8388608) && Gp.up E (-1) (Gp.ats b l))):=by unfold Hid Gp.okSet;rw [hE]
 have HE:=lh hE
 clear hE
 go_enter Tryz.func238,Tryz.ntmps238
 go_wp2_with fail
 refine (to_any b t w).mono ?_
 rintro e w1 ⟨rfl,rfl⟩
 rw [<- HE.out]
 clear HE
 simp only
 by_cases hodd:l.length%2=0
 ·have hm0:(l.length:Int).tmod 2=0:=by rw [Int.tmod_eq_emod_of_nonneg (by omega)];omega
  by_cases hE8:E<=8388608
  ·have hd8:decide (8388608<E)=false:=decide_eq_false (by omega)
   go_wp2_with fail
   go_loopw [9,10,27] (fun s9 s10 i wr=>∃ (k:Nat) (C:Option Addr) (g:Nat) (M:List (Int × Int)) (z:Int),k<=l.length/\i=.int .i64 k/\s9=.int .i64 z/\s10=.slice C M.length g/\Hid (z=Gp.lst (Gp.ats b (l.take k)))/\Hid (M=Gp.prs (Gp.ats b (l.take k)))/\Hid (Gp.up E (-1) (Gp.ats b (l.take k))=true)/\Hid (Mine spanE w1 wr C g M)) (fun _ _ i _=>l.length-(intOf i).toNat)
   case atStart=>exact ⟨0,none,0,[],-1,by omega,rfl,rfl,rfl,rfl,rfl,rfl,Mine.nil _ _⟩
   case round =>
    obtain ⟨k,C,g,M,z,hkl,rfl,rfl,rfl,HZ,HMe,HUp,HM⟩:=hrel
    by_cases hk:k<l.length
    ·have hk1:(k:Int)<(l.length:Int):=by omega
     have hdk1:decide ((k:Int)<(l.length:Int))=true:=decide_eq_true hk1
     have hk0:(0:Int)<=(k:Int):=by omega
     obtain ⟨ga,oa,rfl,_,c0⟩:=(HM.out.keepsR H.out).num_at k hk
     have HS:=lh (Gp.ats_succ b l k hk)
     have HL:=lh (Gp.ats_len b l k hkl)
     have HML:Hid (M.length<=k):=by unfold Hid;rw [HMe.out];have:=Gp.prs_len (Gp.ats b (l.take k));rw [HL.out] at this;exact this
     have hMb:M.length+1<=8796093022208:=by have:=HML.out;omega
     generalize l.getD k 0=x at *
     go_wp2_with fail
     refine (to_any b x wr).mono ?_
     rintro e w2 ⟨rfl,rfl⟩
     have hab:0<=(x-b)%16777216/\(x-b)%16777216<16777216:=by omega
     generalize (x-b)%16777216=a at *
     have HU2:Hid (Gp.up E (-1) (Gp.ats b (l.take (k+1)))=(decide (z<a) && decide (a<=E))):=by
      unfold Hid
      rw [HS.out,Gp.up_snoc,HUp.out,<- HZ.out,Bool.true_and]
     simp only
     by_cases hza:z<a
     ·have hd1:decide (a<=z)=false:=decide_eq_false (by omega)
      by_cases haE:a<=E
      ·have hd2:decide (E<a)=false:=decide_eq_false (by omega)
       have HU3:Hid (Gp.up E (-1) (Gp.ats b (l.take (k+1)))=true):=by unfold Hid;rw [HU2.out,decide_eq_true hza,decide_eq_true haE];rfl
       have HZ3:Hid (a=Gp.lst (Gp.ats b (l.take (k+1)))):=by unfold Hid;rw [HS.out,Gp.lst_snoc]
       by_cases hpar:k%2=1
       ·have hm1:(k:Int).tmod 2=1:=by rw [Int.tmod_eq_emod_of_nonneg (by omega)];omega
        have HM3:Hid (M++[(z,a)]=Gp.prs (Gp.ats b (l.take (k+1)))):=by unfold Hid;rw [HS.out,Gp.prs_snoc,HL.out,if_pos hpar,<- HMe.out,<- HZ.out]
        have R3:Hid (∀ W:World,Rd spanE (W.alloc (.cells #[.int .i64 z,.int .i64 a] 284)) (some ⟨W.heap.size,0,none⟩) 1 [(z,a)]):=fun W=>Sl.rd (Sl.lit spanE W _ rfl #[.int .i64 z,.int .i64 a] [(z,a)] rfl 1 rfl (by decide))
        clear HS HL HMe HZ HUp HU2 HML hpar
        go_wp2_with (at_builtin;refine app_span Tryz.underlying240 rfl rfl (l:=M) (l2:=[(z,a)]) rfl rfl (HM.out.sl.alloc _) (R3.out _) (by simp;omega) ?_;intro C4 d4 M4 w4 hM4 hs4 ht4 hB4)
        have M5:=lh ((HM.out.alloc _).app hs4 ht4 hB4)
        rw [<- hM4.out] at HM3
        clear hs4 ht4 hB4 hM4 HM c0 R3
        go_roundw
        case rel=>exact ⟨k+1,C4,d4,M4,a,by omega,by go_num,rfl,rfl,HZ3,HM3,HU3,M5⟩
        case measure=>simp [intOf];omega
       ·have hm1:(k:Int).tmod 2=0:=by rw [Int.tmod_eq_emod_of_nonneg (by omega)];omega
        have HM3:Hid (M=Gp.prs (Gp.ats b (l.take (k+1)))):=by unfold Hid;rw [HS.out,Gp.prs_snoc,HL.out,if_neg hpar,<- HMe.out]
        clear HS HL HMe HZ HUp HU2 HML hpar c0
        go_wp2
        go_roundw
        case rel=>exact ⟨k+1,C,g,M,a,by omega,by go_num,rfl,rfl,HZ3,HM3,HU3,HM⟩
        case measure=>simp [intOf];omega
      ·have hd2:decide (E<a)=true:=decide_eq_true (by omega)
       have HF:Hid (Gp.okSet b t l=false):=by
        obtain ⟨R,hR⟩:=Gp.ats_take b l (k+1)
        unfold Hid
        rw [HOK.out,hR,Gp.up_append,HU2.out,decide_eq_false haE]
        simp
       have HFr:=lh HM.out.fresh
       clear HS HL HMe HZ HUp HU2 HML c0 HM
       go_wp2
       go_ret2
       exact ⟨fun h=>absurd (HF.out.symm.trans h) (by decide),fun _=>⟨rfl,HFr.out⟩⟩
     ·have hd1:decide (a<=z)=true:=decide_eq_true (by omega)
      have HF:Hid (Gp.okSet b t l=false):=by
       obtain ⟨R,hR⟩:=Gp.ats_take b l (k+1)
       unfold Hid
       rw [HOK.out,hR,Gp.up_append,HU2.out,decide_eq_false hza]
       simp
      have HFr:=lh HM.out.fresh
      clear HS HL HMe HZ HUp HU2 HML c0 HM
      go_wp2
      go_ret2
      exact ⟨fun h=>absurd (HF.out.symm.trans h) (by decide),fun _=>⟨rfl,HFr.out⟩⟩
    ·have hkk:k=l.length:=by omega
     have hk':¬ ((k:Int)<(l.length:Int)):=by omega
     have HME:Hid (M=Gp.prs (Gp.ats b l)):=by unfold Hid;rw [HMe.out,hkk,List.take_length]
     have HT:Hid (Gp.okSet b t l=true):=by
      unfold Hid
      have hu:=HUp.out
      rw [hkk,List.take_length] at hu
      rw [HOK.out,hu,decide_eq_true hodd,decide_eq_true hE8]
      rfl
     have hMb:M.length<=1099511627776:=by
      rw [HME.out]
      have:=Gp.prs_len (Gp.ats b l)
      unfold Gp.ats at this
      rw [List.length_map] at this
      exact Nat.le_trans this (by omega)
     clear hk HMe HZ HUp hkk
     go_wp2_with fail
     refine (of_any C g M wr HM.out.sl.rd hMb).mono ?_
     rintro e w9 ⟨B9,d9,S9,rfl,M9,hof,_⟩
     have MR:=lh (M9.back HM.out.fresh)
     have HO:Hid (Sp.IsOf (Gp.prs (Gp.ats b l)) S9):=by unfold Hid;rw [<- HME.out];exact hof
     clear M9 hof
     simp only
     go_wp2
     go_ret2
     exact ⟨fun _=>⟨B9,d9,S9,rfl,MR.out,HO.out⟩,fun h=>absurd (HT.out.symm.trans h) (by decide)⟩
  ·have hd8:decide (8388608<E)=true:=decide_eq_true (by omega)
   have HF:Hid (Gp.okSet b t l=false):=by unfold Hid;rw [HOK.out,decide_eq_false hE8];simp
   clear hE8
   go_wp2
   go_ret2
   exact ⟨fun h=>absurd (HF.out.symm.trans h) (by decide),fun _=>⟨rfl,Touch.refl _ _⟩⟩
 ·have hm0:(l.length:Int).tmod 2=1:=by rw [Int.tmod_eq_emod_of_nonneg (by omega)];omega
  have HF:Hid (Gp.okSet b t l=false):=by unfold Hid;rw [HOK.out,decide_eq_false hodd];simp
  clear hodd
  go_wp2
  go_ret2
  exact ⟨fun h=>absurd (HF.out.symm.trans h) (by decide),fun _=>⟨rfl,Touch.refl _ _⟩⟩
end Go.Proofs.YtlbopdfobgjjaaaGreatDoor

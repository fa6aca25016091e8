/-
  slices.SortFunc at spans, by the first number: the slice is sorted in place, its spans are the same; a nil slice stays · span.Of: of spans the set of their numbers, written in one way · Sets of spans, plain: good sets, how many numbers they have, what the set operations make. No program is named · span: Drop: a set without one span · span: Both: what is in two sets · A list of spans, laid flat. No walk · span: List of a set.
-/
import Derived.Shelf.SlSortCmp.WholeK
import Derived.Test.YtlbopdfobgjjaaaGreatDoorLay
import Derived.Test.YtlbopdfobgjjaaaGreatDoorRow2
import Derived.Test.YtlbopdfobgjjaaaGreatDoorSpanE
import Derived.Test.YtlbopdfobgjjaaaGreatDoorFB
import Derived.Test.YtlbopdfobgjjaaaGreatDoorSpanP
import Derived.Deep.DeepCutAuto
import Derived.Deep.QuietTactic
import Derived.BigQuiet
import Derived.StillTailTactics
import Derived.Deep.CutBlock
set_option maxHeartbeats 4000000
namespace Go.Proofs.YtlbopdfobgjjaaaGreatDoor
open Go.RowKit Go.Sort Go.Shelf Go.Lib
theorem cmp_any (x y:Int × Int) (W:World):Calls Tryz.prog 201 #[.agg #[.int .i64 x.1,.int .i64 x.2],.agg #[.int .i64 y.1,.int .i64 y.2]] W fun e w'=>e=.returned (.int .i64 (Lib.compareInt x.1 y.1))/\∃ q os',w'=grow (W.drewN q) os':=by
 have hcon:=fun W'=>AnyG.cmp_Compare_int Tryz.cmpInt x.1 y.1 W'
 change ∀ W',Calls Tryz.prog 202 _ _ _ at hcon
 generalize Lib.compareInt x.1 y.1=r at hcon ⊢
 go_enter Tryz.func201,Tryz.ntmps201
 go_wp2_with (go_at_call 202;refine (hcon _).mono ?_;rintro e w' ⟨rfl,rfl⟩)
 go_ret
 exact ⟨rfl,0,_,by rw [alloc_eq_grow,alloc_eq_grow,grow_grow];rfl⟩
theorem ltLo (x y:Int × Int):ltOf (fun x y:Int × Int=>Lib.compareInt x.1 y.1) x y=decide (x.1<y.1):=by
 unfold ltOf Lib.compareInt
 by_cases h1:x.1<y.1
 ·simp [h1]
 ·by_cases h2:y.1<x.1 <;> simp [h1,h2]
theorem swoLo:SWO (ltOf fun x y:Int × Int=>Lib.compareInt x.1 y.1) where
 irrefl x:=by rw [ltLo];simp
 trans x y z h1 h2:=by rw [ltLo] at *;simp at *;omega
 ntrans x y z h1 h2:=by rw [ltLo] at *;simp at *;omega
def SortPost (l:List (Int × Int)) (A:Option Addr) (c:Nat) (w:World) (e:Ending) (w':World):Prop:=
 e=.returned (.tuple #[])/\∃ l',List.Perm l' l/\l'.Pairwise (fun x y=>x.1<=y.1)/\Sl spanE w' A c l'/\Touch (fun k=>A.map Addr.block=some k) w w'
theorem sort_some (g o c:Nat) (l:List (Int × Int)) (w:World) (h:Sl spanE w (some ⟨g,o,none⟩) c l) (hl:l.length<4611686018427387904) :
  Calls Tryz.prog 200 #[.slice (some ⟨g,o,none⟩) l.length c,.func (.func 201) #[] #[]] w (SortPost l (some ⟨g,o,none⟩) c w):=by
 have eg:∀ args w,(callFunc 201 args).run Tryz.prog w=.ok (.enter 201 args) w:=enters_of Tryz.func201 (by kernel_rfl) rfl
 have hcon:=AnyQ.slices_SortFunc Tryz.sortSpan 2 Tryz.isAgg284 Tryz.sizeOf284 spanE.enc (fun _=>rfl) (fun x v hv=>by simp [spanE] at hv;rcases hv with rfl | rfl <;> rfl) (fun x y=>Lib.compareInt x.1 y.1) swoLo 201 #[] g o c l.toArray w eg (fun _ _ _ _ x y=>cmp_any x y _) h.holdsK (h.lt _ rfl) (by simpa using hl)
 refine hcon.mono ?_
 rintro e w' ⟨rfl,d',n,os,hp,hs,rfl⟩
 have hsz:d'.size=l.length:=by simpa using hp.1
 refine ⟨rfl,d'.toList,by simpa using permIn_list hp,?_,Sl.sorted h (l':=d'.toList) (by simpa using hsz) n os,(sorted_touch n d' os).mono fun k _ e=>by simp [e]⟩
 rw [List.pairwise_iff_getElem]
 intro i j hi hj hij
 have:=hs i j (by omega) hij (by simpa [hsz] using hj)
 rw [ltLo] at this
 have hi':i<d'.size:=by simpa using hi
 have hj':j<d'.size:=by simpa using hj
 rw [getElem!_pos d' i hi',getElem!_pos d' j hj'] at this
 simp at this
 simpa using this
theorem sort_any (A:Option Addr) (c:Nat) (l:List (Int × Int)) (w:World) (h:Sl spanE w A c l) (hl:l.length<4611686018427387904) :
  Calls Tryz.prog 200 #[.slice A l.length c,.func (.func 201) #[] #[]] w (SortPost l A c w):=by
 cases A with
 |none =>
  obtain rfl:c=0:=h.2.2.1 rfl
  obtain rfl:l=[]:=List.eq_nil_of_length_eq_zero (by have:=h.1;omega)
  refine (sort_none w).mono ?_
  rintro e w' ⟨rfl,rfl⟩
  exact ⟨rfl,[],List.Perm.refl _,List.Pairwise.nil,h,Touch.refl _ _⟩
 |some ad =>
  obtain ⟨g,o,s⟩:=ad
  obtain rfl:s=none:=(h.2.2.2 _ rfl).1
  exact sort_some g o c l w h hl
open Go.RowKit
def Apart (B B2:Option Addr):Prop:=∀ ad ad',B=some ad->B2=some ad'->ad.block ≠ ad'.block
theorem Apart.app {B B2 B7:Option Addr} {n:Nat} (h:Apart B B2) (hB:∀ ad,B=some ad->ad.block<n) (h7:B7.map Addr.block=B2.map Addr.block\/B7.map Addr.block=some n):Apart B B7:=fun ad ad' e e'=>by
 subst e'
 rcases h7 with e7 | e7
 ·obtain ⟨a2,e1,e2⟩:=Option.map_eq_some_iff.1 e7.symm
  have:=h ad a2 e e1
  omega
 ·have:=hB ad e
  simp at e7
  omega
theorem Apart.not {B B2:Option Addr} (h:Apart B B2):∀ ad,B=some ad->¬ (B2.map Addr.block=some ad.block):=fun ad e e'=>by
 obtain ⟨a2,e1,e2⟩:=Option.map_eq_some_iff.1 e'
 exact h ad a2 e e1 e2.symm
namespace Sp
def keep (l:List (Int × Int)):List (Int × Int):=(l.map near).filter (fun x=>decide (x.1<x.2))
theorem keep_succ (l:List (Int × Int)) (k:Nat) (hk:k<l.length):keep (l.take (k+1))=keep (l.take k)++(if (near (l.getD k (0,0))).1<(near (l.getD k (0,0))).2 then [near (l.getD k (0,0))] else []):=by
 unfold keep
 rw [List.take_succ_eq_append_getElem hk,List.map_append,List.filter_append]
 congr 1
 rw [show l.getD k (0,0)=l[k] by simp [List.getD,List.getElem?_eq_getElem hk]]
 simp [List.filter_cons]
theorem keep_lt (l:List (Int × Int)):∀ x ∈ keep l,x.1<x.2:=fun x hx=>by
 unfold keep at hx
 simpa using (List.mem_filter.1 hx).2
theorem mem_keep (l:List (Int × Int)) (n:Int):mem (keep l) n ↔ mem (l.map near) n:=by
 unfold keep mem
 constructor
 ·rintro ⟨x,hx,h⟩
  exact ⟨x,(List.mem_filter.1 hx).1,h⟩
 ·rintro ⟨x,hx,h⟩
  exact ⟨x,List.mem_filter.2 ⟨hx,by simp;omega⟩,h⟩
def IsOf (l s:List (Int × Int)):Prop:=Canon s/\∀ n,mem s n ↔ mem (l.map near) n
theorem mem_perm {l l':List (Int × Int)} (h:l'.Perm l) (n:Int):mem l' n ↔ mem l n:=by
 unfold mem
 exact ⟨fun ⟨x,hx,e⟩=>⟨x,h.mem_iff.1 hx,e⟩,fun ⟨x,hx,e⟩=>⟨x,h.mem_iff.2 hx,e⟩⟩
theorem isOf_merge {l l':List (Int × Int)} (hp:l'.Perm (keep l)) (hs:l'.Pairwise (fun x y=>x.1<=y.1)):IsOf l (l'.foldl mergeStep []):=by
 obtain ⟨h1,h2⟩:=merge_ok l' [] Canon.nil (fun x hx=>keep_lt l x (hp.mem_iff.1 hx)) hs (by simp)
 exact ⟨h1,fun n=>by rw [h2,mem_perm hp,mem_keep];simp [mem_nil]⟩
theorem merge_succ (l:List (Int × Int)) (k:Nat) (hk:k<l.length):(l.take (k+1)).foldl mergeStep []=mergeStep ((l.take k).foldl mergeStep []) (l.getD k (0,0)):=by
 rw [List.take_succ_eq_append_getElem hk,List.foldl_append]
 simp [List.getD,List.getElem?_eq_getElem hk]
theorem mergeStep_nil (x:Int × Int):mergeStep [] x=[x]:=rfl
theorem mergeStep_snoc (o:List (Int × Int)) (y x:Int × Int):mergeStep (o++[y]) x=if x.1<=y.2 then o++[(y.1,max y.2 x.2)] else o++[y]++[x]:=by
 unfold mergeStep
 simp
end Sp
set_option maxRecDepth 4000 in
theorem of_any (A:Option Addr) (c:Nat) (l:List (Int × Int)) (w:World) (h:Rd spanE w A c l) (hl:l.length<=1099511627776) :
  Calls Tryz.prog 169 #[.slice A l.length c] w fun e w'=>∃ B d S,e=.returned (.slice B S.length d)/\Mine spanE w w' B d S/\Sp.IsOf l S/\S.length<=l.length:=by
 have hlc:=h.1
 have hcm:=h.2.1
 unfold maxLen at hcm
 have H:=lh h
 clear h
 go_enter Tryz.func169,Tryz.ntmps169
 go_wp2_with fail
 go_loopw [3,12] (fun s3 i wr=>∃ (k:Nat) (B:Option Addr) (d:Nat) (M:List (Int × Int)),k<=l.length/\i=.int .i64 k/\s3=.slice B M.length d/\Hid (M=Sp.keep (l.take k))/\Hid (Mine spanE w wr B d M)/\M.length<=k) (fun _ i _=>l.length-(intOf i).toNat)
 case atStart=>exact ⟨0,none,0,[],by omega,rfl,rfl,rfl,Mine.nil _ _,by simp⟩
 case round =>
  obtain ⟨k,B,d,M,hkL,rfl,rfl,HMe,HM,hMl⟩:=hrel
  by_cases hk:k<l.length
  ·have hk1:(k:Int)<(l.length:Int):=by omega
   have hk0:(0:Int)<=(k:Int):=by omega
   obtain ⟨g,o,rfl,_,c0,c1⟩:=(HM.out.keepsR H.out).span_at k hk
   have HS:=lh (Sp.keep_succ l k hk)
   generalize l.getD k (0,0)=a at *
   rw [<- HMe.out] at HS
   obtain ⟨x,y⟩:=a
   simp only at c0 c1
   go_wp2_with fail
   refine (near_any15 (x,y) _).mono ?_
   rintro e w2 ⟨rfl,f2⟩
   have B2:Hid (Blk w2 wr.heap.size 284 [.int .i64 x,.int .i64 y]):=f2.blk (Blk.new wr 284 [.int .i64 x,.int .i64 y]) (fun h=>h)
   have T2:Hid (Fresh wr w2):=((Touch.refl _ wr).alloc _).trans f2 (fun _ _ h=>h)
   have b0:w2.cell? ⟨wr.heap.size,0,none⟩=some (.int .i64 x):=B2.out.cell 0
   have b1:w2.cell? ⟨wr.heap.size,1,none⟩=some (.int .i64 y):=B2.out.cell 1
   have bf0:=B2.out.frozen 0
   have bf1:=B2.out.frozen 1
   clear f2 c0 c1
   obtain ⟨p,hp⟩:=xq (Sp.near (x,y))
   rw [<- hp] at HS ⊢
   clear hp
   obtain ⟨a,b⟩:=p
   simp only at HS ⊢
   go_wp2_with fail
   refine (empty_any15 (a,b) _).mono ?_
   rintro e w3 ⟨rfl,f3⟩
   have B3:Hid (Blk w3 wr.heap.size 284 [.int .i64 a,.int .i64 b]):=f3.blk ((B2.out.set 0 (.int .i64 a)).set 1 (.int .i64 b)) (fun h=>h)
   have T3:Hid (Fresh wr w3):=((T2.out.setCell (fun e=>absurd e (Nat.lt_irrefl _)) _).setCell (fun e=>absurd e (Nat.lt_irrefl _)) _).trans f3 (fun _ _ h=>h)
   have M3:=lh (HM.out.old T3.out)
   clear b0 b1 bf0 bf1 f3 B2 T2 HM
   have b0:w3.cell? ⟨wr.heap.size,0,none⟩=some (.int .i64 a):=B3.out.cell 0
   have b1:w3.cell? ⟨wr.heap.size,1,none⟩=some (.int .i64 b):=B3.out.cell 1
   simp only
   have hM2:M.length+1<=8796093022208:=by omega
   by_cases hab:a<b
   ·have hba:¬ b<=a:=by omega
    rw [if_pos hab] at HS
    have R3:Hid (Rd spanE (w3.alloc (.cells #[.int .i64 a,.int .i64 b] 284)) (some ⟨w3.heap.size,0,none⟩) 1 [(a,b)]):=
     Sl.rd (Sl.lit spanE w3 _ rfl #[.int .i64 a,.int .i64 b] [(a,b)] rfl 1 rfl (by decide))
    go_wp2_with (at_builtin;refine app_span Tryz.underlying240 rfl rfl (l:=M) (l2:=[(a,b)]) rfl rfl (M3.out.sl.alloc _) R3.out (by simp;omega) ?_;intro B4 d4 M4 w4 hM4 hs4 ht4 hB4)
    have M5:=lh ((M3.out.alloc _).app hs4 ht4 hB4)
    have HM4:Hid (M4=Sp.keep (l.take (k+1))):=by unfold Hid;rw [HS.out,hM4.out]
    have hl4:M4.length<=k+1:=by rw [hM4.out];simp;omega
    clear hs4 ht4 hB4 hM4 R3 b0 b1 B3 T3 M3 HS
    go_roundw
    case rel=>exact ⟨k+1,B4,d4,M4,by omega,by go_num,rfl,HM4,M5,hl4⟩
    case measure=>simp [intOf];omega
   ·have hba:b<=a:=by omega
    rw [if_neg hab,List.append_nil] at HS
    have HM4:Hid (M=Sp.keep (l.take (k+1))):=HS.out.symm
    clear B3 T3 HS b0 b1
    go_wp2
    go_roundw
    case rel=>exact ⟨k+1,B,d,M,by omega,by go_num,rfl,HM4,M3,by omega⟩
    case measure=>simp [intOf];omega
  ·have hkk:k=l.length:=by omega
   have HK:Hid (M=Sp.keep l):=by unfold Hid;rw [HMe.out,hkk,List.take_length]
   have hk':¬ ((k:Int)<(l.length:Int)):=by omega
   have hMb:M.length<4611686018427387904:=by omega
   have hMl':M.length<=l.length:=by omega
   clear hk HMe hkk
   go_wp2_with fail
   refine (sort_any B d M wr HM.out.sl hMb).mono ?_
   rintro e w2 ⟨rfl,L,hp,hs,hsl,ht⟩
   have hL:=hp.length_eq
   have HO:Hid (Sp.IsOf l (L.foldl Sp.mergeStep [])):=Sp.isOf_merge (HK.out ▸ hp) hs
   have ML:Hid (Mine spanE w w2 B d L):=⟨hsl,HM.out.fresh.trans ht (fun k hk e=>by
    obtain ⟨ad,e1,e2⟩:=Option.map_eq_some_iff.1 e
    have:=HM.out.base ad e1
    omega),HM.out.base⟩
   have ML0:Hid (Mine spanE w w2 none 0 []):=⟨Sl.nil _ _,ML.out.fresh,fun _ e=>nomatch e⟩
   rw [<- hL]
   have hLl:L.length<=l.length:=by omega
   clear hp hs hsl ht HM HK hMb hMl hL hk' hMl'
   go_wp2_with fail
   go_loopw [6,30] (fun s6 i wx=>∃ (j:Nat) (B2:Option Addr) (d2:Nat) (O:List (Int × Int)),j<=L.length/\i=.int .i64 j/\s6=.slice B2 O.length d2/\Hid (O=(L.take j).foldl Sp.mergeStep [])/\Hid (Mine spanE w wx B2 d2 O)/\Hid (Mine spanE w wx B d L)/\Hid (Apart B B2)/\O.length<=j) (fun _ i _=>L.length-(intOf i).toNat)
   case atStart=>exact ⟨0,none,0,[],by omega,rfl,rfl,rfl,ML0,ML,(fun _ _ _ e=>nomatch e),by simp⟩
   case round =>
    clear ML ML0 H
    obtain ⟨j,B2,d2,O,hjL,rfl,rfl,HOe,M2,ML,HBB,hOl⟩:=hrel
    by_cases hj:j<L.length
    ·have hj1:(j:Int)<(L.length:Int):=by omega
     have hj0:(0:Int)<=(j:Int):=by omega
     obtain ⟨g,o,rfl,hg,c0,c1⟩:=ML.out.sl.span_at j hj
     have HS:=lh (Sp.merge_succ L j hj)
     generalize L.getD j (0,0)=a at *
     rw [<- HOe.out] at HS
     obtain ⟨x,y⟩:=a
     simp only at c0 c1
     go_upto_region 14 with (fail)
     have B5:=lh (Blk.new wr 284 [.int .i64 x,.int .i64 y])
     have M5:=lh (M2.out.alloc (.cells #[.int .i64 x,.int .i64 y] 284))
     have ML5:=lh (ML.out.alloc (.cells #[.int .i64 x,.int .i64 y] 284))
     generalize hw5:wr.alloc (.cells #[.int .i64 x,.int .i64 y] 284)=w5 at *
     have e0:w5.cell? ⟨wr.heap.size,0,none⟩=some (.int .i64 x):=B5.out.cell 0
     have e1:w5.cell? ⟨wr.heap.size,1,none⟩=some (.int .i64 y):=B5.out.cell 1
     have hne:Hid (Apart (some ⟨g,o,none⟩) B2):=HBB.out
     have hgw:g<w5.heap.size:=ML5.out.sl.lt _ rfl
     clear c0 c1 HBB M2 ML hw5 hg
     have hO2:O.length+1<=8796093022208:=by omega
     rcases List.eq_nil_or_concat O with rfl | ⟨O0,q,rfl⟩
     ·rw [Sp.mergeStep_nil] at HS
      obtain ⟨z,hz⟩:∃ z:Int,(([]:List (Int × Int)).length:Int)-1=z:=⟨_,rfl⟩
      have hz0:z<0:=by rw [<- hz];decide
      have hd:decide (0<=z)=false:=decide_eq_false (by omega)
      go_upto_region 15 with (fail)
      go_quiet (fail)
      have M6:=lh (M5.out.drewN nq)
      have ML6:=lh (ML5.out.drewN nq)
      have R6:=lh (Sl.rd (Sl.lit spanE (w5.drewN nq) _ rfl #[.int .i64 x,.int .i64 y] [(x,y)] rfl 1 rfl (by decide)))
      have e0':(w5.drewN nq).cell? ⟨wr.heap.size,0,none⟩=some (.int .i64 x):=e0
      have e1':(w5.drewN nq).cell? ⟨wr.heap.size,1,none⟩=some (.int .i64 y):=e1
      have hgw':g<(w5.drewN nq).heap.size:=hgw
      clear e0 e1 hgw M5 ML5 B5
      generalize w5.drewN nq=w6 at *
      go_wp2_with (at_builtin;refine app_span Tryz.underlying241 rfl rfl (l:=[]) (l2:=[(x,y)]) rfl rfl (M6.out.sl.alloc _) R6.out (by simp) ?_;intro B7 d7 O7 w7 hO7 hs7 ht7 hB7)
      have M7:=lh ((M6.out.alloc _).app hs7 ht7 hB7)
      have hgw7:g<(w6.alloc (.cells #[.int .i64 x,.int .i64 y] 284)).heap.size:=by simp;omega
      have ML7:Hid (Mine spanE w w7 (some ⟨g,o,none⟩) d L):=⟨(ML6.out.sl.alloc _).touch ht7 hne.out.not,M7.out.fresh,ML6.out.base⟩
      have HA7:Hid (Apart (some ⟨g,o,none⟩) B7):=hne.out.app (fun ad e=>by injection e with e;subst e;exact hgw7) hB7
      have HO7:Hid (O7=(L.take (j+1)).foldl Sp.mergeStep []):=by unfold Hid;rw [hO7.out,HS.out];rfl
      have hl7:O7.length<=j+1:=by rw [hO7.out];simp
      clear hs7 ht7 hB7 hO7 R6 e0' e1' M6 ML6 HS hne HOe hgw7 hgw'
      go_roundw
      case rel=>exact ⟨j+1,B7,d7,O7,by omega,by go_num,rfl,HO7,M7,ML7,HA7,hl7⟩
      case measure=>simp [intOf];omega
     ·rw [List.concat_eq_append] at *
      rw [Sp.mergeStep_snoc] at HS
      obtain ⟨g2,o2,rfl,hg2,f0,f1⟩:=M5.out.sl.span_at O0.length (by simp)
      have hq:(O0++[q]).getD O0.length (0,0)=q:=by simp
      rw [hq] at f0 f1
      obtain ⟨p,q⟩:=q
      simp only at f0 f1 HS
      have hgg:g ≠ g2:=hne.out _ _ rfl rfl
      have hOl2:(O0++[(p,q)]).length=O0.length+1:=by simp
      rw [hOl2]
      have hm0:(0:Int)<=(O0.length:Int):=by omega
      have hm1:(O0.length:Int)<((O0.length+1:Nat):Int):=by omega
      have hm2:(O0.length:Int)<(O0.length:Int)+1:=by omega
      have hOl3:O0.length+1<=j:=by rw [<- hOl2];exact hOl
      by_cases hxq:x<=q
      ·rw [if_pos hxq] at HS
       go_upto_region 15 with (fail)
       go_quiet (fail)
       have M6:=lh (M5.out.drewN nq)
       have ML6:=lh (ML5.out.drewN nq)
       have e1':(w5.drewN nq).cell? ⟨wr.heap.size,1,none⟩=some (.int .i64 y):=e1
       have f1':(w5.drewN nq).cell? ⟨g2,o2+O0.length*2+1,none⟩=some (.int .i64 q):=f1
       have fz:=M6.out.sl.frozen g2 o2 rfl (o2+O0.length*2+1)
       clear e0 e1 f0 f1 hgw M5 ML5 B5
       generalize w5.drewN nq=w6 at *
       have hi:O0.length<(O0++[(p,q)]).length:=by omega
       have S7:=lh (M6.out.sl.put (i:=O0.length) (f:=1) (a:=(p,max q y)) (u:=.int .i64 (max q y)) hi (by decide) (by simp [spanE]))
       have T7:Hid (Touch (fun k=>k=g2) w6 (w6.setCell ⟨g2,o2+O0.length*2+1,none⟩ (.int .i64 (max q y))).drew):=(Touch.set1 w6 g2 _ _).drew
       have hLe:Hid ((O0++[(p,q)]).set O0.length (p,max q y)=O0++[(p,max q y)]):=by unfold Hid;simp
       have hl7:(O0++[(p,max q y)]).length=O0.length+1:=by simp
       go_upto_region 16 with (fail)
       go_still_tail 12,(by kernel_rfl)
       change wpList _ _ _ _ _ w6.drew
       go_wp2_with fail
       have M7:Hid (Mine spanE w (w6.setCell ⟨g2,o2+O0.length*2+1,none⟩ (.int .i64 (max q y))).drew (some ⟨g2,o2,none⟩) d2 (O0++[(p,max q y)])):=⟨by have:=S7.out;rw [hLe.out] at this;exact this,M6.out.fresh.trans T7.out (fun k hk e=>by have:=M6.out.base _ rfl;simp only at this;omega),M6.out.base⟩
       have ML7:Hid (Mine spanE w (w6.setCell ⟨g2,o2+O0.length*2+1,none⟩ (.int .i64 (max q y))).drew (some ⟨g,o,none⟩) d L):=⟨ML6.out.sl.touch T7.out (fun ad e e'=>by injection e with e;subst e;exact hgg e'),M7.out.fresh,ML6.out.base⟩
       refine ⟨⟨j+1,_,d2,O0++[(p,max q y)],by omega,by go_num,by rw [hl7],HS.out.symm,M7,ML7,hne,by omega⟩,by simp [intOf];omega⟩
      ·rw [if_neg hxq] at HS
       have hqx:q<x:=by omega
       go_upto_region 15 with (fail)
       go_quiet (fail)
       have M6:=lh (M5.out.drewN nq)
       have ML6:=lh (ML5.out.drewN nq)
       have R6:=lh (Sl.rd (Sl.lit spanE (w5.drewN nq) _ rfl #[.int .i64 x,.int .i64 y] [(x,y)] rfl 1 rfl (by decide)))
       have e0':(w5.drewN nq).cell? ⟨wr.heap.size,0,none⟩=some (.int .i64 x):=e0
       have e1':(w5.drewN nq).cell? ⟨wr.heap.size,1,none⟩=some (.int .i64 y):=e1
       have hgw':g<(w5.drewN nq).heap.size:=hgw
       clear e0 e1 hgw M5 ML5 B5 f0 f1
       generalize w5.drewN nq=w6 at *
       go_wp2_with (at_builtin;refine app_span Tryz.underlying241 rfl rfl (l:=O0++[(p,q)]) (l2:=[(x,y)]) (by rw [hOl2];rfl) rfl (M6.out.sl.alloc _) R6.out (by simp;omega) ?_;intro B7 d7 O7 w7 hO7 hs7 ht7 hB7)
       have M7:=lh ((M6.out.alloc _).app hs7 ht7 hB7)
       have hgw7:g<(w6.alloc (.cells #[.int .i64 x,.int .i64 y] 284)).heap.size:=by simp;omega
       have ML7:Hid (Mine spanE w w7 (some ⟨g,o,none⟩) d L):=⟨(ML6.out.sl.alloc _).touch ht7 hne.out.not,M7.out.fresh,ML6.out.base⟩
       have HA7:Hid (Apart (some ⟨g,o,none⟩) B7):=hne.out.app (fun ad e=>by injection e with e;subst e;exact hgw7) hB7
       have HO7:Hid (O7=(L.take (j+1)).foldl Sp.mergeStep []):=by unfold Hid;rw [hO7.out,HS.out]
       have hl7:O7.length<=j+1:=by rw [hO7.out];simp;omega
       clear hs7 ht7 hB7 hO7 R6 e0' e1' M6 ML6 HS hne HOe hgw7 hgw'
       go_roundw
       case rel=>exact ⟨j+1,B7,d7,O7,by omega,by go_num,rfl,HO7,M7,ML7,HA7,hl7⟩
       case measure=>simp [intOf];omega
    ·have hjj:j=L.length:=by omega
     have HK:Hid (Sp.IsOf l O):=by unfold Hid;rw [HOe.out,hjj,List.take_length];exact HO.out
     have hj':¬ ((j:Int)<(L.length:Int)):=by omega
     have hOl':O.length<=l.length:=by omega
     clear hj HOe hjj HO ML HBB
     go_wp2
     go_ret
     exact ⟨B2,d2,O,rfl,M2.out,HK.out,hOl'⟩
end Go.Proofs.YtlbopdfobgjjaaaGreatDoor
namespace Go.Proofs.YtlbopdfobgjjaaaGreatDoor.Sp
def In (x:Int × Int) (n:Int):Prop:=x.1<=n/\n<x.2
def Good (s:List (Int × Int)):Prop:=Canon s/\∀ x ∈ s,-1099511627776<=x.1/\x.2<=1099511627777
theorem near_bd (x:Int × Int):-1099511627776<=(near x).1/\(near x).1<=1099511627776/\-1099511627776<=(near x).2/\(near x).2<=1099511627777:=by
 unfold near clampF clampT
 simp only
 omega
theorem near_id (x:Int × Int) (h1:-1099511627776<=x.1) (h2:x.1<=1099511627776) (h3:-1099511627776<=x.2) (h4:x.2<=1099511627777):near x=x:=by
 obtain ⟨a,b⟩:=x
 unfold near clampF clampT
 simp only at *
 congr 1 <;> omega
theorem mem_map_near (l:List (Int × Int)) (n:Int):mem (l.map near) n ↔ ∃ x ∈ l,In (near x) n:=by
 unfold mem In
 constructor
 ·rintro ⟨x,hx,h⟩
  obtain ⟨y,hy,rfl⟩:=List.mem_map.1 hx
  exact ⟨y,hy,h⟩
 ·rintro ⟨x,hx,h⟩
  exact ⟨near x,List.mem_map.2 ⟨x,hx,rfl⟩,h⟩
theorem IsOf.good {l s:List (Int × Int)} (h:IsOf l s):Good s:=⟨h.1,fun x hx=>by
 have hlt:=h.1.1 x hx
 have a:=(mem_map_near l x.1).1 ((h.2 x.1).1 ⟨x,hx,by omega,hlt⟩)
 have b:=(mem_map_near l (x.2-1)).1 ((h.2 (x.2-1)).1 ⟨x,hx,by omega,by omega⟩)
 obtain ⟨y,_,hy⟩:=a
 obtain ⟨z,_,hz⟩:=b
 have:=near_bd y
 have:=near_bd z
 unfold In at hy hz
 omega⟩
theorem IsOf.mem {l s:List (Int × Int)} (h:IsOf l s) (n:Int):mem s n ↔ ∃ x ∈ l,In (near x) n:=(h.2 n).trans (mem_map_near l n)
def Small (l:List (Int × Int)):Prop:=∀ x ∈ l,-1099511627776<=x.1/\x.1<=1099511627776/\-1099511627776<=x.2/\x.2<=1099511627777
theorem IsOf.mem_small {l s:List (Int × Int)} (h:IsOf l s) (hl:Small l) (n:Int):Sp.mem s n ↔ Sp.mem l n:=by
 rw [h.mem]
 unfold Sp.mem In
 constructor
 ·rintro ⟨x,hx,e⟩
  rw [near_id x (hl x hx).1 (hl x hx).2.1 (hl x hx).2.2.1 (hl x hx).2.2.2] at e
  exact ⟨x,hx,e⟩
 ·rintro ⟨x,hx,e⟩
  refine ⟨x,hx,?_⟩
  rwa [near_id x (hl x hx).1 (hl x hx).2.1 (hl x hx).2.2.1 (hl x hx).2.2.2]
theorem Good.small {s:List (Int × Int)} (h:Good s):Small s:=fun x hx=>by
 have:=h.1.1 x hx
 have:=h.2 x hx
 omega
theorem take_succ_getD (l:List (Int × Int)) (k:Nat) (hk:k<l.length):l.take (k+1)=l.take k++[l.getD k (0,0)]:=by
 rw [List.take_succ_eq_append_getElem hk]
 simp [List.getD,List.getElem?_eq_getElem hk]
theorem run_len (x:Int × Int):(run x).length=(x.2-x.1).toNat:=by simp [run]
theorem run_succ (a j:Int) (h:a<=j):run (a,j+1)=run (a,j)++[j]:=by
 unfold run
 simp only
 rw [show (j+1-a).toNat=(j-a).toNat+1 by omega,List.range_succ,List.map_append]
 congr 1
 simp
 omega
theorem run_nil (a:Int):run (a,a)=[]:=by simp [run]
theorem nums_append (s t:List (Int × Int)):nums (s++t)=nums s++nums t:=by simp [nums]
theorem nums_one (x:Int × Int):nums [x]=run x:=by simp [nums]
theorem nums_succ (l:List (Int × Int)) (k:Nat) (hk:k<l.length):nums (l.take (k+1))=nums (l.take k)++run (l.getD k (0,0)):=by
 rw [take_succ_getD l k hk,nums_append,nums_one]
theorem rising_len {l:List Int} (h:Rising l) (a b:Int) (hab:a<=b) (hb:∀ n ∈ l,a<=n/\n<b):(l.length:Int)<=b-a:=by
 induction l generalizing a with
 |nil=>simp;omega
 |cons x l ih =>
  obtain ⟨h1,h2⟩:=List.pairwise_cons.1 h
  have hx:=hb x (by simp)
  have:=ih h2 (x+1) (by omega) fun n hn=>by
   have:=h1 n hn
   have:=hb n (by simp [hn])
   omega
  simp only [List.length_cons]
  omega
theorem Good.mem_bd {s:List (Int × Int)} (h:Good s) {n:Int} (hn:mem s n):-1099511627776<=n/\n<1099511627777:=by
 obtain ⟨x,hx,e⟩:=hn
 have:=h.2 x hx
 omega
theorem nums_take_len (s:List (Int × Int)) (k:Nat):(nums (s.take k)).length<=(nums s).length:=by
 conv=>rhs;rw [<- List.take_append_drop k s,nums_append]
 simp
theorem Canon.len_nums {s:List (Int × Int)} (h:∀ x ∈ s,x.1<x.2):s.length<=(nums s).length:=by
 induction s with
 |nil=>simp
 |cons x s ih =>
  have hx:=h x (by simp)
  have:=ih fun y hy=>h y (by simp [hy])
  unfold nums at *
  rw [List.flatMap_cons,List.length_append,run_len]
  simp only [List.length_cons]
  omega
theorem Canon.len_le {s:List (Int × Int)} (h:Canon s) (a b:Int) (hab:a<=b) (hb:∀ n,mem s n->a<=n/\n<b):(s.length:Int)<=b-a:=by
 have h1:=Canon.len_nums h.1
 have h2:=rising_len (nums_rising s h) a b hab fun n hn=>hb n ((mem_nums s n).1 hn)
 omega
def pieces (y x:Int × Int):List (Int × Int):=[(y.1,min y.2 x.1),(max y.1 x.2,y.2)]
def left1 (x y:Int × Int):List (Int × Int):=(pieces y x).filter fun z=>decide (z.1<z.2)
def left (l:List (Int × Int)) (x:Int × Int):List (Int × Int):=l.flatMap (left1 x)
theorem left_succ (l:List (Int × Int)) (x:Int × Int) (k:Nat) (hk:k<l.length):left (l.take (k+1)) x=left (l.take k) x++left1 x (l.getD k (0,0)):=by
 rw [take_succ_getD l k hk]
 simp [left]
theorem mem_left {s:List (Int × Int)} {x:Int × Int} (_hx:x.1<x.2) (n:Int):mem (left s x) n ↔ mem s n/\¬ In x n:=by
 unfold mem left left1 pieces In
 constructor
 ·rintro ⟨z,hz,h⟩
  obtain ⟨y,hy,hz⟩:=List.mem_flatMap.1 hz
  have hz:=(List.mem_filter.1 hz).1
  simp at hz
  rcases hz with rfl | rfl
  ·simp only at h
   exact ⟨⟨y,hy,by omega⟩,by omega⟩
  ·simp only at h
   exact ⟨⟨y,hy,by omega⟩,by omega⟩
 ·rintro ⟨⟨y,hy,h⟩,hn⟩
  by_cases h1:n<x.1
  ·refine ⟨(y.1,min y.2 x.1),List.mem_flatMap.2 ⟨y,hy,List.mem_filter.2 ⟨by simp,?_⟩⟩,by simp only;omega⟩
   simp;omega
  ·refine ⟨(max y.1 x.2,y.2),List.mem_flatMap.2 ⟨y,hy,List.mem_filter.2 ⟨by simp,?_⟩⟩,by simp only;omega⟩
   simp;omega
theorem left_small {s:List (Int × Int)} (h:Good s) {x:Int × Int} (h1:-1099511627776<=x.1) (h2:x.2<=1099511627777) (hx:x.1<x.2):Small (left s x):=fun z hz=>by
 obtain ⟨y,hy,hz⟩:=List.mem_flatMap.1 hz
 obtain ⟨hz,hlt⟩:=List.mem_filter.1 hz
 have:=h.1.1 y hy
 have:=h.2 y hy
 simp [pieces] at hz
 simp only [decide_eq_true_eq] at hlt
 rcases hz with rfl | rfl <;> simp only at * <;> omega
def meet (x y:Int × Int):Int × Int:=(max x.1 y.1,min x.2 y.2)
def cross (s t:List (Int × Int)):List (Int × Int):=s.flatMap fun x=>t.map (meet x)
theorem cross_succ (s t:List (Int × Int)) (k:Nat) (hk:k<s.length):cross (s.take (k+1)) t=cross (s.take k) t++t.map (meet (s.getD k (0,0))):=by
 rw [take_succ_getD s k hk]
 simp [cross]
theorem meets_succ (x:Int × Int) (t:List (Int × Int)) (k:Nat) (hk:k<t.length):(t.take (k+1)).map (meet x)=(t.take k).map (meet x)++[meet x (t.getD k (0,0))]:=by
 rw [take_succ_getD t k hk]
 simp
theorem cross_len (s t:List (Int × Int)):(cross s t).length=s.length*t.length:=by
 induction s with
 |nil=>simp [cross]
 |cons x s ih =>
  unfold cross at *
  rw [List.flatMap_cons,List.length_append,ih,List.length_map]
  simp only [List.length_cons]
  rw [Nat.add_mul]
  omega
theorem mem_cross (s t:List (Int × Int)) (n:Int):mem (cross s t) n ↔ mem s n/\mem t n:=by
 unfold mem cross meet
 constructor
 ·rintro ⟨z,hz,h⟩
  obtain ⟨x,hx,hz⟩:=List.mem_flatMap.1 hz
  obtain ⟨y,hy,rfl⟩:=List.mem_map.1 hz
  simp only at h
  exact ⟨⟨x,hx,by omega⟩,⟨y,hy,by omega⟩⟩
 ·rintro ⟨⟨x,hx,h1⟩,⟨y,hy,h2⟩⟩
  exact ⟨_,List.mem_flatMap.2 ⟨x,hx,List.mem_map.2 ⟨y,hy,rfl⟩⟩,by simp only;omega⟩
theorem cross_small {s t:List (Int × Int)} (hs:Good s) (ht:Good t):Small (cross s t):=fun z hz=>by
 obtain ⟨x,hx,hz⟩:=List.mem_flatMap.1 hz
 obtain ⟨y,hy,rfl⟩:=List.mem_map.1 hz
 have:=hs.small x hx
 have:=ht.small y hy
 unfold meet
 simp only
 omega
end Go.Proofs.YtlbopdfobgjjaaaGreatDoor.Sp
namespace Go.Proofs.YtlbopdfobgjjaaaGreatDoor
open Go.RowKit
def DropPost (s:List (Int × Int)) (x:Int × Int) (w:World) (e:Ending) (w':World):Prop:=
 ∃ B d S,e=.returned (.slice B S.length d)/\Mine spanE w w' B d S/\Sp.Good S/\∀ n,Sp.mem S n ↔ Sp.mem s n/\¬ Sp.In (Sp.near x) n
set_option maxRecDepth 4000 in
theorem drop_any (A:Option Addr) (c:Nat) (s:List (Int × Int)) (x:Int × Int) (w:World) (h:Rd spanE w A c s) (hg:Sp.Good s) (hl:s.length<=1000000) :
  Calls Tryz.prog 170 #[.slice A s.length c,.agg #[.int .i64 x.1,.int .i64 x.2]] w (DropPost s x w):=by
 have hlc:=h.1
 have hcm:=h.2.1
 unfold maxLen at hcm
 have H:=lh h
 clear h
 have hnb:=Sp.near_bd x
 obtain ⟨p,hp⟩:=xq (Sp.near x)
 have HX:=lh hp
 clear hp
 rw [<- HX.out] at hnb
 obtain ⟨x1,x2⟩:=x
 obtain ⟨a,b⟩:=p
 simp only at hnb
 simp only
 go_enter Tryz.func170,Tryz.ntmps170
 go_wp2_with fail
 refine (near_any15 (x1,x2) _).mono ?_
 rw [<- HX.out]
 rintro e w2 ⟨rfl,f2⟩
 have B2:Hid (Blk w2 w.heap.size 284 [.int .i64 x1,.int .i64 x2]):=f2.blk (Blk.new w 284 [.int .i64 x1,.int .i64 x2]) (fun h=>h)
 have T2:Hid (Fresh w w2):=((Touch.refl _ w).alloc _).trans f2 (fun _ _ h=>h)
 have b0:w2.cell? ⟨w.heap.size,0,none⟩=some (.int .i64 x1):=B2.out.cell 0
 have b1:w2.cell? ⟨w.heap.size,1,none⟩=some (.int .i64 x2):=B2.out.cell 1
 have bf0:=B2.out.frozen 0
 have bf1:=B2.out.frozen 1
 clear f2
 simp only
 go_wp2_with fail
 refine (empty_any15 (a,b) _).mono ?_
 rintro e w3 ⟨rfl,f3⟩
 have B3:Hid (Blk w3 w.heap.size 284 [.int .i64 a,.int .i64 b]):=f3.blk ((B2.out.set 0 (.int .i64 a)).set 1 (.int .i64 b)) (fun h=>h)
 have T3:Hid (Fresh w w3):=((T2.out.setCell (fun e=>absurd e (Nat.lt_irrefl _)) _).setCell (fun e=>absurd e (Nat.lt_irrefl _)) _).trans f3 (fun _ _ h=>h)
 clear b0 b1 bf0 bf1 f3 B2 T2
 simp only
 by_cases hab:a<b
 ·have hba:¬ b<=a:=by omega
  have H3:Hid (Rd spanE w3 A c s):=H.out.touch T3.out (fun _ _ _ h=>h)
  clear H
  go_wp2_with fail
  go_loopw [5,18] (fun s5 i wr=>∃ (k:Nat) (B:Option Addr) (d:Nat) (M:List (Int × Int)),k<=s.length/\i=.int .i64 k/\s5=.slice B M.length d/\Hid (M=Sp.left (s.take k) (a,b))/\Hid (Mine spanE w3 wr B d M)/\M.length<=2*k) (fun _ i _=>s.length-(intOf i).toNat)
  case atStart=>exact ⟨0,none,0,[],by omega,rfl,rfl,rfl,Mine.nil _ _,by simp⟩
  case round =>
   obtain ⟨k,B,d,M,hkL,rfl,rfl,HMe,HM,hMl⟩:=hrel
   by_cases hk:k<s.length
   ·have hk1:(k:Int)<(s.length:Int):=by omega
    have hd1:decide ((k:Int)<(s.length:Int))=true:=decide_eq_true hk1
    have hk0:(0:Int)<=(k:Int):=by omega
    obtain ⟨g,o,rfl,_,c0,c1⟩:=(HM.out.keepsR H3.out).span_at k hk
    have HS:=lh (Sp.left_succ s (a,b) k hk)
    generalize s.getD k (0,0)=y at *
    rw [<- HMe.out] at HS
    obtain ⟨p,q⟩:=y
    simp only at c0 c1
    go_upto_region 8 with (fail)
    have M5:=lh (HM.out.alloc (.cells #[.int .i64 p,.int .i64 q] 284))
    have HB5:=lh ((HM.out.fresh.blk B3.out (fun h=>h)).alloc (.cells #[.int .i64 p,.int .i64 q] 284))
    have B5:=lh (Blk.new wr 284 [.int .i64 p,.int .i64 q])
    generalize wr.alloc (.cells #[.int .i64 p,.int .i64 q] 284)=w5 at *
    have b0:w5.cell? ⟨w.heap.size,0,none⟩=some (.int .i64 a):=HB5.out.cell 0
    have b1:w5.cell? ⟨w.heap.size,1,none⟩=some (.int .i64 b):=HB5.out.cell 1
    have e0:w5.cell? ⟨wr.heap.size,0,none⟩=some (.int .i64 p):=B5.out.cell 0
    have e1:w5.cell? ⟨wr.heap.size,1,none⟩=some (.int .i64 q):=B5.out.cell 1
    clear c0 c1 HM
    go_upto_block 2 with (fail)
    have M6:=lh (M5.out.alloc (.cells #[.int .i64 p,.int .i64 (min q a),.int .i64 (max p b),.int .i64 q] 284))
    have P6:Hid (Sl spanE (w5.alloc (.cells #[.int .i64 p,.int .i64 (min q a),.int .i64 (max p b),.int .i64 q] 284)) (some ⟨w5.heap.size,0,none⟩) 2 [(p,min q a),(max p b,q)]):=Sl.lit spanE w5 _ rfl #[.int .i64 p,.int .i64 (min q a),.int .i64 (max p b),.int .i64 q] _ rfl 2 rfl (by decide)
    have A6:Hid (Apart (some ⟨w5.heap.size,0,none⟩) B):=fun ad ad' e e'=>by
     injection e with e
     subst e
     have:=M5.out.sl.lt ad' e'
     simp only
     omega
    generalize w5.alloc (.cells #[.int .i64 p,.int .i64 (min q a),.int .i64 (max p b),.int .i64 q] 284)=w6 at *
    obtain ⟨n5,hn5⟩:=xq w5.heap.size
    rw [<- hn5] at A6 P6 ⊢
    clear b0 b1 e0 e1 B5 M5 HB5 hn5
    have hLP:Hid (Sp.left1 (a,b) (p,q)=([(p,min q a),(max p b,q)].take 2).filter fun z=>decide (z.1<z.2)):=rfl
    obtain ⟨L,hL⟩:=xq ([(p,min q a),(max p b,q)])
    have hLl:L.length=2:=by rw [hL];rfl
    rw [<- hL] at P6 hLP
    go_wp2_with fail
    go_loopw [5,40] (fun s5 i wx=>∃ (j:Nat) (B:Option Addr) (d:Nat) (N:List (Int × Int)),j<=2/\i=.int .i64 j/\s5=.slice B N.length d/\Hid (N=M++(L.take j).filter fun z=>decide (z.1<z.2))/\Hid (Mine spanE w3 wx B d N)/\Hid (Sl spanE wx (some ⟨n5,0,none⟩) 2 L)/\Hid (Apart (some ⟨n5,0,none⟩) B)/\N.length<=2*k+j) (fun _ i _=>2-(intOf i).toNat)
    case atStart=>exact ⟨0,B,d,M,by omega,rfl,rfl,by simp [Hid],M6,P6,A6,by omega⟩
    case round =>
     clear M6 P6 A6
     obtain ⟨j,B,d,N,hj2,rfl,rfl,HNe,M6,P6,A6,hNl⟩:=hrel
     by_cases hj:j<2
     ·have hj1:(j:Int)<2:=by omega
      have hj0:(0:Int)<=(j:Int):=by omega
      have hdj:decide ((j:Int)<2)=true:=decide_eq_true hj1
      obtain ⟨g7,o7,e7,_,c0,c1⟩:=P6.out.span_at j (by omega)
      cases e7
      simp only [Nat.zero_add] at c0 c1
      have HJ:Hid (L.take (j+1)=L.take j++[L.getD j (0,0)]):=Sp.take_succ_getD L j (by omega)
      generalize L.getD j (0,0)=z at *
      obtain ⟨u,v⟩:=z
      simp only at c0 c1
      go_wp2_with fail
      refine (empty_any15 (u,v) _).mono ?_
      rintro e w7 ⟨rfl,f7⟩
      have T7:Hid (Fresh wr w7):=((Touch.refl _ wr).alloc _).trans f7 (fun _ _ h=>h)
      have B7:Hid (Blk w7 wr.heap.size 284 [.int .i64 u,.int .i64 v]):=f7.blk (Blk.new wr 284 [.int .i64 u,.int .i64 v]) (fun h=>h)
      have M7:=lh (M6.out.old T7.out)
      have P7:=lh (P6.out.touch T7.out (fun _ _ h=>h))
      have hn7:n5<w7.heap.size:=P7.out.lt _ rfl
      have e0:w7.cell? ⟨wr.heap.size,0,none⟩=some (.int .i64 u):=B7.out.cell 0
      have e1:w7.cell? ⟨wr.heap.size,1,none⟩=some (.int .i64 v):=B7.out.cell 1
      clear f7 T7 B7 M6 P6 c0 c1
      simp only
      have hNl2:N.length+1<=8796093022208:=by omega
      by_cases huv:u<v
      ·have hvu:¬ v<=u:=by omega
       have R7:=lh (Sl.rd (Sl.lit spanE w7 _ rfl #[.int .i64 u,.int .i64 v] [(u,v)] rfl 1 rfl (by decide)))
       go_wp2_with (at_builtin;refine app_span Tryz.underlying240 rfl rfl (l:=N) (l2:=[(u,v)]) rfl rfl (M7.out.sl.alloc _) R7.out (by simp;omega) ?_;intro B8 d8 N8 w8 hN8 hs8 ht8 hB8)
       have M8:=lh ((M7.out.alloc _).app hs8 ht8 hB8)
       have P8:Hid (Sl spanE w8 (some ⟨n5,0,none⟩) 2 L):=(P7.out.alloc _).touch ht8 A6.out.not
       have A8:Hid (Apart (some ⟨n5,0,none⟩) B8):=A6.out.app (fun ad e=>by injection e with e;subst e;simp;omega) hB8
       have HN8:Hid (N8=M++(L.take (j+1)).filter fun z=>decide (z.1<z.2)):=by unfold Hid;rw [hN8.out,HNe.out,HJ.out,List.filter_append,List.append_assoc];simp [huv]
       have hl8:N8.length<=2*k+(j+1):=by rw [hN8.out];simp;omega
       clear hs8 ht8 hB8 hN8 R7 e0 e1 M7 P7 A6 HNe HJ hn7
       go_roundw
       case rel=>exact ⟨j+1,B8,d8,N8,by omega,by go_num,rfl,HN8,M8,P8,A8,hl8⟩
       case measure=>simp [intOf];omega
      ·have hvu:v<=u:=by omega
       have HN8:Hid (N=M++(L.take (j+1)).filter fun z=>decide (z.1<z.2)):=by unfold Hid;rw [HJ.out,List.filter_append,<- List.append_assoc,<- HNe.out];simp [huv]
       clear e0 e1 HNe HJ hn7
       go_wp2
       go_roundw
       case rel=>exact ⟨j+1,B,d,N,by omega,by go_num,rfl,HN8,M7,P7,A6,by omega⟩
       case measure=>simp [intOf];omega
     ·have hjj:j=2:=by omega
      subst hjj
      have HN8:Hid (N=Sp.left (s.take (k+1)) (a,b)):=by unfold Hid;rw [HS.out,hLP.out,HNe.out]
      have hkl:k+1<=s.length:=hk
      clear hj HNe HS hLP P6 A6
      go_wp2
      go_roundw
      case rel=>exact ⟨k+1,B,d,N,hkl,by go_num,rfl,HN8,M6,by omega⟩
      case measure=>simp [intOf];omega
   ·have hkk:k=s.length:=by omega
    have HR:Hid (M=Sp.left s (a,b)):=by unfold Hid;rw [HMe.out,hkk,List.take_length]
    have hk':¬ ((k:Int)<(s.length:Int)):=by omega
    have hMb:M.length<=1099511627776:=by omega
    clear hk HMe hkk
    go_wp2_with fail
    refine (of_any B d M wr HM.out.sl.rd hMb).mono ?_
    rintro e w9 ⟨B9,d9,S9,rfl,M9,hof,_⟩
    have MR:=lh (M9.back (T3.out.trans HM.out.fresh (fun _ _ h=>h)))
    have HG:=lh hof.good
    have HME:Hid (∀ n,Sp.mem S9 n ↔ Sp.mem s n/\¬ Sp.In (a,b) n):=fun n=>by
     rw [hof.mem_small (by rw [HR.out];exact Sp.left_small hg (by omega) (by omega) hab),HR.out,Sp.mem_left hab]
    clear M9 hof
    go_wp2
    go_ret
    exact ⟨B9,d9,S9,rfl,MR.out,HG.out,fun n=>by rw [HME.out,HX.out]⟩
 ·have hba:b<=a:=by omega
  have hMb:s.length<=1099511627776:=by omega
  go_wp2_with fail
  refine (of_any A c s w3 (H.out.touch T3.out (fun _ _ _ h=>h)) hMb).mono ?_
  rintro e w9 ⟨B9,d9,S9,rfl,M9,hof,_⟩
  have MR:=lh (M9.back T3.out)
  have HG:=lh hof.good
  have HME:Hid (∀ n,Sp.mem S9 n ↔ Sp.mem s n/\¬ Sp.In (a,b) n):=fun n=>by
   rw [hof.mem_small hg.small]
   exact ⟨fun h=>⟨h,fun e=>by unfold Sp.In at e;simp only at e;omega⟩,fun h=>h.1⟩
  clear M9 hof
  go_wp2
  go_ret
  exact ⟨B9,d9,S9,rfl,MR.out,HG.out,fun n=>by rw [HME.out,HX.out]⟩
theorem mem_one (x:Int × Int) (n:Int):Sp.mem [x] n ↔ Sp.In x n:=by
 unfold Sp.mem Sp.In
 simp
def BothPost (s t:List (Int × Int)) (w:World) (e:Ending) (w':World):Prop:=
 ∃ B d S,e=.returned (.slice B S.length d)/\Mine spanE w w' B d S/\Sp.Good S/\∀ n,Sp.mem S n ↔ Sp.mem s n/\Sp.mem t n
set_option maxRecDepth 4000 in
theorem both_any (A:Option Addr) (c:Nat) (s:List (Int × Int)) (B:Option Addr) (d:Nat) (t:List (Int × Int)) (w:World) (h:Rd spanE w A c s) (h2:Rd spanE w B d t) (hgs:Sp.Good s) (hgt:Sp.Good t) (hls:s.length<=1000000) (hlt:t.length<=1000000) :
  Calls Tryz.prog 168 #[.slice A s.length c,.slice B t.length d] w (BothPost s t w):=by
 have hlc:=h.1
 have hcm:=h.2.1
 have hlc2:=h2.1
 have hcm2:=h2.2.1
 unfold maxLen at hcm hcm2
 have H:=lh h
 have H2:=lh h2
 clear h h2
 go_enter Tryz.func168,Tryz.ntmps168
 go_wp2_with fail
 go_loopw [5,12] (fun s5 i wr=>∃ (k:Nat) (C:Option Addr) (f:Nat) (M:List (Int × Int)),k<=s.length/\i=.int .i64 k/\s5=.slice C M.length f/\Hid (M=Sp.cross (s.take k) t)/\Hid (Mine spanE w wr C f M)) (fun _ i _=>s.length-(intOf i).toNat)
 case atStart=>exact ⟨0,none,0,[],by omega,rfl,rfl,rfl,Mine.nil _ _⟩
 case round =>
  obtain ⟨k,C,f,M,hkL,rfl,rfl,HMe,HM⟩:=hrel
  by_cases hk:k<s.length
  ·have hk1:(k:Int)<(s.length:Int):=by omega
   have hd1:decide ((k:Int)<(s.length:Int))=true:=decide_eq_true hk1
   have hk0:(0:Int)<=(k:Int):=by omega
   obtain ⟨g,o,rfl,_,c0,c1⟩:=(HM.out.keepsR H.out).span_at k hk
   have HS:=lh (Sp.cross_succ s t k hk)
   rw [<- HMe.out] at HS
   have hMl:Hid (M.length=k*t.length):=by unfold Hid;rw [HMe.out,Sp.cross_len,List.length_take,Nat.min_eq_left hkL]
   have hMb:M.length<=1000000000000:=by
    rw [hMl.out]
    exact Nat.mul_le_mul (show k<=1000000 by omega) hlt
   generalize s.getD k (0,0)=y at *
   obtain ⟨p,q⟩:=y
   simp only at c0 c1
   go_upto_region 5 with (fail)
   have B5:=lh (Blk.new wr 284 [.int .i64 p,.int .i64 q])
   have M5:=lh (HM.out.alloc (.cells #[.int .i64 p,.int .i64 q] 284))
   have hne5:Hid (∀ ad,C=some ad->ad.block<wr.heap.size):=HM.out.sl.lt
   obtain ⟨n5,hn5⟩:=xq wr.heap.size
   rw [<- hn5] at B5 hne5 ⊢
   generalize wr.alloc (.cells #[.int .i64 p,.int .i64 q] 284)=w5 at *
   clear c0 c1 HM hn5
   go_wp2_with fail
   go_loopw [5,18] (fun s5 i wx=>∃ (j:Nat) (C:Option Addr) (f:Nat) (N:List (Int × Int)),j<=t.length/\i=.int .i64 j/\s5=.slice C N.length f/\Hid (N=M++(t.take j).map (Sp.meet (p,q)))/\Hid (Mine spanE w wx C f N)/\Hid (Blk wx n5 284 [.int .i64 p,.int .i64 q])/\Hid (Apart (some ⟨n5,0,none⟩) C)) (fun _ i _=>t.length-(intOf i).toNat)
   case atStart=>exact ⟨0,C,f,M,by omega,rfl,rfl,by simp [Hid],M5,B5,fun ad ad' e e'=>by injection e with e;subst e;have:=hne5.out ad' e';simp only;omega⟩
   case round =>
    clear M5 B5 hne5
    obtain ⟨j,C,f,N,hjL,rfl,rfl,HNe,M5,B5,A5⟩:=hrel
    by_cases hj:j<t.length
    ·have hj1:(j:Int)<(t.length:Int):=by omega
     have hdj:decide ((j:Int)<(t.length:Int))=true:=decide_eq_true hj1
     have hj0:(0:Int)<=(j:Int):=by omega
     obtain ⟨g2,o2,rfl,_,c0,c1⟩:=(M5.out.keepsR H2.out).span_at j hj
     have HS2:=lh (Sp.meets_succ (p,q) t j hj)
     have hNl:Hid (N.length=M.length+j):=by unfold Hid;rw [HNe.out];simp;omega
     have hNb:N.length+1<=8796093022208:=by have:=hNl.out;omega
     generalize t.getD j (0,0)=z at *
     obtain ⟨u,v⟩:=z
     simp only at c0 c1
     go_upto_region 8 with (fail)
     have B6:=lh (B5.out.alloc (.cells #[.int .i64 u,.int .i64 v] 284))
     have C6:=lh (Blk.new wr 284 [.int .i64 u,.int .i64 v])
     have M6:=lh (M5.out.alloc (.cells #[.int .i64 u,.int .i64 v] 284))
     generalize wr.alloc (.cells #[.int .i64 u,.int .i64 v] 284)=w6 at *
     have b0:w6.cell? ⟨n5,0,none⟩=some (.int .i64 p):=B6.out.cell 0
     have b1:w6.cell? ⟨n5,1,none⟩=some (.int .i64 q):=B6.out.cell 1
     have e0:w6.cell? ⟨wr.heap.size,0,none⟩=some (.int .i64 u):=C6.out.cell 0
     have e1:w6.cell? ⟨wr.heap.size,1,none⟩=some (.int .i64 v):=C6.out.cell 1
     have R6:=lh (Sl.rd (Sl.lit spanE w6 _ rfl #[.int .i64 (max p u),.int .i64 (min q v)] [(max p u,min q v)] rfl 1 rfl (by decide)))
     have hn6:n5<w6.heap.size:=B6.out.lt
     clear c0 c1 M5 B5 C6
     go_wp2_with (at_builtin;refine app_span Tryz.underlying240 rfl rfl (l:=N) (l2:=[(max p u,min q v)]) rfl rfl (M6.out.sl.alloc _) R6.out (by simp;omega) ?_;intro C8 f8 N8 w8 hN8 hs8 ht8 hB8)
     have M8:=lh ((M6.out.alloc _).app hs8 ht8 hB8)
     have B8:Hid (Blk w8 n5 284 [.int .i64 p,.int .i64 q]):=ht8.blk (B6.out.alloc _) (fun e=>A5.out.not ⟨n5,0,none⟩ rfl e)
     have A8:Hid (Apart (some ⟨n5,0,none⟩) C8):=A5.out.app (fun ad e=>by injection e with e;subst e;simp;omega) hB8
     have HN8:Hid (N8=M++(t.take (j+1)).map (Sp.meet (p,q))):=by unfold Hid;rw [hN8.out,HNe.out,HS2.out,List.append_assoc];rfl
     clear hs8 ht8 hB8 hN8 R6 b0 b1 e0 e1 M6 B6 A5 HNe HS2 hn6 hNl
     go_roundw
     case rel=>exact ⟨j+1,C8,f8,N8,by omega,by go_num,rfl,HN8,M8,B8,A8⟩
     case measure=>simp [intOf];omega
    ·have hjj:j=t.length:=by omega
     have HN8:Hid (N=Sp.cross (s.take (k+1)) t):=by unfold Hid;rw [HS.out,HNe.out,hjj,List.take_length]
     have hj':¬ ((j:Int)<(t.length:Int)):=by omega
     have hkl:k+1<=s.length:=hk
     clear hj HNe HS B5 A5 hjj
     go_wp2
     go_roundw
     case rel=>exact ⟨k+1,C,f,N,hkl,by go_num,rfl,HN8,M5⟩
     case measure=>simp [intOf];omega
  ·have hkk:k=s.length:=by omega
   have HR:Hid (M=Sp.cross s t):=by unfold Hid;rw [HMe.out,hkk,List.take_length]
   have hk':¬ ((k:Int)<(s.length:Int)):=by omega
   have hMb:M.length<=1099511627776:=by
    rw [HR.out,Sp.cross_len]
    exact Nat.le_trans (Nat.mul_le_mul hls hlt) (by decide)
   clear hk HMe hkk
   go_wp2_with fail
   refine (of_any C f M wr HM.out.sl.rd hMb).mono ?_
   rintro e w9 ⟨B9,d9,S9,rfl,M9,hof,_⟩
   have MR:=lh (M9.back HM.out.fresh)
   have HG:=lh hof.good
   have HME:Hid (∀ n,Sp.mem S9 n ↔ Sp.mem s n/\Sp.mem t n):=fun n=>by
    rw [hof.mem_small (by rw [HR.out];exact Sp.cross_small hgs hgt),HR.out,Sp.mem_cross]
   clear M9 hof
   go_wp2
   go_ret
   exact ⟨B9,d9,S9,rfl,MR.out,HG.out,HME.out⟩
namespace Sp
def flat (s:List (Int × Int)):List Int:=s.flatMap fun x=>[x.1,x.2]
theorem flat_append (s t:List (Int × Int)):flat (s++t)=flat s++flat t:=by simp [flat]
theorem flat_one (x:Int × Int):flat [x]=[x.1,x.2]:=by simp [flat]
end Sp
set_option maxRecDepth 4000 in
theorem list_any (A:Option Addr) (c:Nat) (l:List (Int × Int)) (w:World) (h:Rd spanE w A c l) (hg:Sp.Good l) (hl:(Sp.nums l).length<=65536) :
  Calls Tryz.prog 241 #[.slice A l.length c] w fun e w'=>∃ B d,e=.returned (.slice B (Sp.nums l).length d)/\Mine intE w w' B d (Sp.nums l):=by
 have hlc:=h.1
 have hcm:=h.2.1
 unfold maxLen at hcm
 have H:=lh h
 clear h
 go_enter Tryz.func241,Tryz.ntmps241
 go_wp2_with fail
 go_loopw [3,9] (fun s3 i wr=>∃ (k:Nat) (B:Option Addr) (d:Nat) (N:List Int),k<=l.length/\i=.int .i64 k/\s3=.slice B N.length d/\Hid (N=Sp.nums (l.take k))/\Hid (Mine intE w wr B d N)) (fun _ i _=>l.length-(intOf i).toNat)
 case atStart=>exact ⟨0,none,0,[],by omega,rfl,rfl,rfl,Mine.nil _ _⟩
 case round =>
  obtain ⟨k,B,d,N,hkL,rfl,rfl,HN,HM⟩:=hrel
  by_cases hk:k<l.length
  ·have hk1:(k:Int)<(l.length:Int):=by omega
   have hd1:decide ((k:Int)<(l.length:Int))=true:=decide_eq_true hk1
   have hk0:(0:Int)<=(k:Int):=by omega
   obtain ⟨g,o,rfl,_,c0,c1⟩:=(HM.out.keepsR H.out).span_at k hk
   have HS:=lh (Sp.nums_succ l k hk)
   have hlt:=hg.1.1 (l.getD k (0,0)) (by rw [List.getD_eq_getElem?_getD,List.getElem?_eq_getElem hk];exact List.getElem_mem hk)
   have hbd:=hg.2 (l.getD k (0,0)) (by rw [List.getD_eq_getElem?_getD,List.getElem?_eq_getElem hk];exact List.getElem_mem hk)
   have hle:=Sp.nums_take_len l (k+1)
   rw [HS.out,<- HN.out,List.length_append,Sp.run_len] at hle
   rw [<- HN.out] at HS
   generalize l.getD k (0,0)=a at *
   obtain ⟨x,y⟩:=a
   simp only at c0 c1 HS hlt hbd hle
   have HM0:Hid (Mine intE w (wr.alloc (.cells #[.int .i64 x,.int .i64 y] 284)) B d N):=HM.out.alloc _
   have HB0:Hid (Blk (wr.alloc (.cells #[.int .i64 x,.int .i64 y] 284)) wr.heap.size 284 [.int .i64 x,.int .i64 y]):=Blk.new wr _ _
   clear HM HN
   go_wp2_with fail
   go_loopw [3,6] (fun s3 n wx=>∃ (j:Int) (B:Option Addr) (d:Nat) (M:List Int),x<=j/\j<=y/\n=.int .i64 j/\s3=.slice B M.length d/\Hid (M=N++Sp.run (x,j))/\Hid (Mine intE w wx B d M)/\Hid (Blk wx wr.heap.size 284 [.int .i64 x,.int .i64 y])) (fun _ n _=>(y-intOf n).toNat)
   case atStart=>exact ⟨x,B,d,N,by omega,by omega,rfl,rfl,by unfold Hid;rw [Sp.run_nil,List.append_nil],HM0,HB0⟩
   case round =>
    clear HM0 HB0 c0 c1
    obtain ⟨j,B,d,M,hxj,hjy,rfl,rfl,HMe,HM,HB⟩:=hrel
    have hMl:Hid (M.length=N.length+(j-x).toNat):=by unfold Hid;rw [HMe.out,List.length_append,Sp.run_len]
    have b0:=HB.out.cell 0
    have b1:=HB.out.cell 1
    simp only [List.getElem?_cons_succ,List.getElem?_cons_zero] at b0 b1
    by_cases hj:j<y
    ·have hlen:(M.length:Int)<65536:=by have:=hMl.out;omega
     have hlen2:M.length+1<=17592186044416:=by omega
     have hdj:decide (j<y)=true:=decide_eq_true hj
     go_wp2_with (at_builtin;refine app_int rfl rfl (l:=M) (l2:=[j]) rfl rfl (HM.out.sl.alloc _) (Sl.rd (Sl.lit intE _ _ rfl _ _ rfl _ rfl (by decide))) (by simp;omega) ?_;intro B4 d4 M4 w4 hM4 hs4 ht4 hB4)
     have HM5:=lh ((HM.out.alloc (.cells #[.int .i64 j] 3)).app hs4 ht4 hB4)
     have HB5:Hid (Blk w4 _ 284 [.int .i64 x,.int .i64 y]):=ht4.blk (HB.out.alloc _) (fun e=>by
      obtain ⟨ad,e1,e2⟩:=Option.map_eq_some_iff.1 e
      exact HM.out.sl.blk_ne HB.out (by decide) ad e1 e2)
     have HMe5:Hid (M4=N++Sp.run (x,j+1)):=by unfold Hid;rw [hM4.out,HMe.out,Sp.run_succ x j hxj,List.append_assoc]
     clear hs4 ht4 hB4 hM4 HM HMe HB b0 b1
     go_roundw
     case rel=>exact ⟨j+1,B4,d4,M4,by omega,by omega,rfl,rfl,HMe5,HM5,HB5⟩
     case measure=>simp [intOf];omega
    ·have hjj:j=y:=by omega
     have hdj:decide (j<y)=false:=decide_eq_false hj
     have HN2:Hid (M=Sp.nums (l.take (k+1))):=by unfold Hid;rw [HS.out,HMe.out,hjj]
     have hkl:k+1<=l.length:=hk
     clear hj hjj HMe HS hjy hMl HB
     go_wp2
     go_roundw
     case rel=>exact ⟨k+1,B,d,M,hkl,by go_num,rfl,HN2,HM⟩
     case measure=>simp [intOf];omega
  ·have hkk:k=l.length:=by omega
   have HR:Hid (N=Sp.nums l):=by unfold Hid;rw [HN.out,hkk,List.take_length]
   have hk':¬ ((k:Int)<(l.length:Int)):=by omega
   clear hk HN hkk
   go_wp2
   go_ret
   exact ⟨B,d,by rw [<- HR.out];rfl,HR.out ▸ HM.out⟩
end Go.Proofs.YtlbopdfobgjjaaaGreatDoor

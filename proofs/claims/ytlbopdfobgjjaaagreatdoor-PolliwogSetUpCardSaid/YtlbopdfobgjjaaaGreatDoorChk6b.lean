/-
  pdu.Check at any unit · A unit as a value · pdu: fixed, words: how many words a unit has, and which · pdu.words: the words of a unit ahead of the last one · pdu.Check at any unit: the walk.
-/
import Derived.Test.YtlbopdfobgjjaaaGreatDoorWhP
import Derived.Test.YtlbopdfobgjjaaaGreatDoorEvD
import Derived.LoopTactic
import Derived.RegionTactic
import Derived.ChangeAlike
import Derived.Deep.DeepCutAuto
import Derived.Deep.CutBlock
import Derived.BigGuardPart
import Derived.Test.YtlbopdfobgjjaaaGreatDoorCrcF
import Derived.Test.YtlbopdfobgjjaaaGreatDoorMapD
set_option maxHeartbeats 4000000
namespace Go.Proofs.YtlbopdfobgjjaaaGreatDoor
open Go.RowKit
theorem low6_any (x:Int) (w:World):Calls Tryz.prog 137 #[.int .u32 x] w fun e w'=>e=.returned (.bool (Wh.low x))/\w=w':=by
 have HL:=lh (low_any x)
 go_enter Tryz.func137,Tryz.ntmps137
 go_wp2_with fail
 refine (HL.out _).mono ?_
 rintro e w2 ⟨rfl,rfl⟩
 have HE:Hid (Wh.low x=(x==x%16777216)):=rfl
 go_wp2
 go_ret
 exact ⟨by rw [HE.out];rfl,rfl⟩
theorem bad6_any (x:Int) (w:World):Calls Tryz.prog 139 #[.int .u32 x] w fun e w'=>e=.returned (.bool (!Wh.low x))/\w=w':=by
 have HL:=lh (low6_any x)
 generalize Wh.low x=b at *
 go_enter Tryz.func139,Tryz.ntmps139
 go_wp2_with fail
 refine (HL.out _).mono ?_
 rintro e w2 ⟨rfl,rfl⟩
 go_wp2
 go_ret
 exact ⟨rfl,rfl⟩
namespace Wh
def firstBad (l:List Int):Int:=if l.any (fun x=>!low x) then (l.findIdx (fun x=>!low x):Int) else -1
theorem firstBad_dec (l:List Int):decide (0<=firstBad l)=l.any fun x=>!low x:=by
 unfold firstBad
 split
 ·rename_i h
  rw [h]
  exact decide_eq_true (by omega)
 ·rename_i h
  simp only [Bool.not_eq_true] at h
  rw [h]
  rfl
theorem firstBad_at (l:List Int) (k:Nat) (hk:k<l.length) (h1:∀ j,j<k->low (l.getD j 0)=true) (h2:low (l.getD k 0)=false):firstBad l=k:=by
 unfold firstBad
 have hl:l[k]=l.getD k 0:=by simp [List.getD,List.getElem?_eq_getElem hk]
 rw [if_pos (List.any_eq_true.2 ⟨l[k],List.getElem_mem hk,by rw [hl,h2];rfl⟩)]
 congr 1
 rw [List.findIdx_eq hk]
 refine ⟨by rw [hl,h2];rfl,fun j hj=>?_⟩
 have hjl:j<l.length:=by omega
 have:l[j]=l.getD j 0:=by simp [List.getD,List.getElem?_eq_getElem hjl]
 rw [this,h1 j hj]
 rfl
theorem firstBad_none (l:List Int) (h1:∀ j,j<l.length->low (l.getD j 0)=true):firstBad l=-1:=by
 unfold firstBad
 rw [if_neg]
 intro h
 obtain ⟨x,hx,hb⟩:=List.any_eq_true.1 h
 obtain ⟨j,hj,rfl⟩:=List.mem_iff_getElem.1 hx
 have:=h1 j hj
 rw [show l.getD j 0=l[j] by simp [List.getD,List.getElem?_eq_getElem hj]] at this
 rw [this] at hb
 cases hb
end Wh
theorem index6_any (A:Option Addr) (c:Nat) (l:List Int) (w:World) (hr:Rd numE w A c l) :
  Calls Tryz.prog 171 #[.slice A l.length c,.func (.func 139) #[] #[]] w fun e w'=>e=.returned (.int .i64 (Wh.firstBad l))/\w=w':=by
 have hm:=hr.1
 have hm2:=hr.2.1
 unfold maxLen at hm2
 have HR:=lh hr
 clear hr
 go_enter Tryz.func171,Tryz.ntmps171
 go_wp2
 go_loop [8] (fun i=>∃ k:Nat,k<=l.length/\i=.int .i64 k/\Hid (∀ j,j<k->Wh.low (l.getD j 0)=true)) (fun i=>l.length-(intOf i).toNat)
 case atStart=>exact ⟨0,Nat.zero_le _,rfl,fun j hj=>absurd hj (Nat.not_lt_zero _)⟩
 case round =>
  obtain ⟨k,hk,rfl,hall⟩:=hrel
  by_cases hlt:k<l.length
  ·obtain ⟨g,o,rfl,hg,hc⟩:=HR.out.num_at k hlt
   have HB:=lh (bad6_any (l.getD k 0))
   have hcl:(l.getD k 0)=l[k]:=by simp [List.getD,List.getElem?_eq_getElem hlt]
   rw [hcl] at hc HB
   cases hb:Wh.low l[k] with
   |true =>
    rw [hb] at HB
    have hb2:Wh.low (l.getD k 0)=true:=by rw [hcl,hb]
    have HA:Hid (∀ j,j<k+1->Wh.low (l.getD j 0)=true):=fun j hj=>by
     by_cases h:j=k
     ·rw [h];exact hb2
     ·exact hall.out j (by omega)
    clear hb hb2 hcl
    go_wp2_with fail
    refine (HB.out _).mono ?_
    rintro e w2 ⟨rfl,rfl⟩
    go_wp2
    go_round
    case rel=>exact ⟨k+1,by omega,by go_num,HA⟩
    case measure=>simp [intOf];omega
   |false =>
    rw [hb] at HB
    have HF:Hid (Wh.firstBad l=k):=Wh.firstBad_at l k hlt hall.out (by rw [hcl,hb])
    clear hb hcl
    go_wp2_with fail
    refine (HB.out _).mono ?_
    rintro e w2 ⟨rfl,rfl⟩
    go_wp2
    go_ret
    exact ⟨by rw [HF.out];rfl,rfl⟩
  ·have HF:Hid (Wh.firstBad l=-1):=Wh.firstBad_none l (fun j hj=>hall.out j (by omega))
   go_wp2
   go_ret
   exact ⟨by rw [HF.out];rfl,rfl⟩
theorem contains6_any (A:Option Addr) (c:Nat) (l:List Int) (w:World) (hr:Rd numE w A c l) :
  Calls Tryz.prog 138 #[.slice A l.length c,.func (.func 139) #[] #[]] w fun e w'=>e=.returned (.bool (l.any fun x=>!Wh.low x))/\w=w':=by
 have HI:=lh (index6_any A c l w hr)
 have HD:=lh (Wh.firstBad_dec l)
 generalize (l.any fun x=>!Wh.low x)=b at *
 generalize Wh.firstBad l=r at *
 go_enter Tryz.func138,Tryz.ntmps138
 go_wp2_with fail
 refine HI.out.mono ?_
 rintro e w2 ⟨rfl,rfl⟩
 go_wp2
 go_ret
 exact ⟨by rw [<- HD.out];rfl,rfl⟩
def shV (s:Wh.Sh):Value:=.agg #[.int .i64 s.data,.bool s.sq,.bool s.n,.int .i64 s.list,.bool s.ps,.bool s.mr,.bool s.self,.bool s.is]
set_option maxRecDepth 10000 in
theorem shape6_any (k:Int) (w:World):Calls Tryz.prog 136 #[.int .i64 k] w fun e w'=>e=.returned (shV (Wh.shape k))/\Fresh w w':=by
 rcases (show k=1\/k=2\/k=3\/k=4\/k=5\/k=6\/k=7\/k=8\/k=9\/k=10\/k=11\/k=12\/k=13\/k=14\/k=15\/(k<1\/15<k) by omega) with h | h | h | h | h | h | h | h | h | h | h | h | h | h | h | h
 any_goals
  subst h
  go_enter Tryz.func136,Tryz.ntmps136
  go_wp2
  exact bodyPost_ret (v:=shV (Wh.shape _)) (by simp [results,Tryz.results136,go_sem,shV,Wh.shape]) rfl ⟨rfl,(Touch.refl _ _).alloc _⟩
 have e1:(k==1)=false:=beq_eq_false_iff_ne.2 (by omega)
 have e2:(k==2)=false:=beq_eq_false_iff_ne.2 (by omega)
 have e3:(k==3)=false:=beq_eq_false_iff_ne.2 (by omega)
 have e4:(k==4)=false:=beq_eq_false_iff_ne.2 (by omega)
 have e5:(k==5)=false:=beq_eq_false_iff_ne.2 (by omega)
 have e6:(k==6)=false:=beq_eq_false_iff_ne.2 (by omega)
 have e7:(k==7)=false:=beq_eq_false_iff_ne.2 (by omega)
 have e8:(k==8)=false:=beq_eq_false_iff_ne.2 (by omega)
 have e9:(k==9)=false:=beq_eq_false_iff_ne.2 (by omega)
 have e10:(k==10)=false:=beq_eq_false_iff_ne.2 (by omega)
 have e11:(k==11)=false:=beq_eq_false_iff_ne.2 (by omega)
 have e12:(k==12)=false:=beq_eq_false_iff_ne.2 (by omega)
 have e13:(k==13)=false:=beq_eq_false_iff_ne.2 (by omega)
 have e14:(k==14)=false:=beq_eq_false_iff_ne.2 (by omega)
 have e15:(k==15)=false:=beq_eq_false_iff_ne.2 (by omega)
 have HE:Hid (Wh.shape k=⟨0,false,false,0,false,false,false,false⟩):=by
  unfold Hid Wh.shape
  rw [if_neg (by omega),if_neg (by omega),if_neg (by omega),if_neg (by omega),if_neg (by omega),if_neg (by omega),if_neg (by omega),if_neg (by omega),if_neg (by omega),if_neg (by omega)]
 clear h
 go_enter Tryz.func136,Tryz.ntmps136
 go_wp2
 exact bodyPost_ret (v:=shV ⟨0,false,false,0,false,false,false,false⟩) (by simp [results,Tryz.results136,go_sem,shV]) rfl ⟨by rw [HE.out],(Touch.refl _ _).alloc _⟩
def pV (p:Wh.P) (A:Option Addr) (c:Nat):Value:=.agg #[.int .i64 p.kind,.int .i64 p.sq,.int .u32 p.n,.int .u32 p.ps,.int .u32 p.mr,.slice A p.l.length c,.bool p.self,.string p.data]
theorem ret_int6 {k:IntKind} {a b:Int} (h:a=b):Ending.returned (.int k a)=.returned (.int k b):=by rw [h]
namespace Wh
def one (b:Bool):Int:=if b then 1 else 0
def fixedS (s:Sh):Int:=1+(one s.sq+one s.ps+one s.mr)+max s.list 0
end Wh
set_option maxRecDepth 10000 in
theorem fixed6_any (s:Wh.Sh) (w:World) (h0:-1<=s.list) (h1:s.list<=2):Calls Tryz.prog 152 #[shV s] w fun e w'=>e=.returned (.int .i64 (Wh.fixedS s))/\Fresh w w':=by
 have HE:Hid (Wh.fixedS s=1+(Wh.one s.sq+Wh.one s.ps+Wh.one s.mr)+max s.list 0):=rfl
 generalize Wh.fixedS s=R at *
 obtain ⟨sd,ssq,sn,sl,sps,smr,sself,sis⟩:=s
 simp only at h0 h1 HE
 unfold shV
 have HB:Hid (Blk (w.alloc (.cells #[.int .i64 sd,.bool ssq,.bool sn,.int .i64 sl,.bool sps,.bool smr,.bool sself,.bool sis] 250)) w.heap.size 250 [.int .i64 sd,.bool ssq,.bool sn,.int .i64 sl,.bool sps,.bool smr,.bool sself,.bool sis]):=Blk.new _ _ _
 have HF:Hid (Fresh w (w.alloc (.cells #[.int .i64 sd,.bool ssq,.bool sn,.int .i64 sl,.bool sps,.bool smr,.bool sself,.bool sis] 250))):=(Touch.refl _ w).alloc _
 go_enter Tryz.func152,Tryz.ntmps152
 go_wp2
 generalize (w.alloc (.cells #[.int .i64 sd,.bool ssq,.bool sn,.int .i64 sl,.bool sps,.bool smr,.bool sself,.bool sis] 250))=w1 at *
 have s1:w1.cell? ⟨w.heap.size,1,none⟩=some (.bool ssq):=HB.out.cell 1
 have s3:w1.cell? ⟨w.heap.size,3,none⟩=some (.int .i64 sl):=HB.out.cell 3
 have s4:w1.cell? ⟨w.heap.size,4,none⟩=some (.bool sps):=HB.out.cell 4
 have s5:w1.cell? ⟨w.heap.size,5,none⟩=some (.bool smr):=HB.out.cell 5
 have HBT:Hid (∀ W,Calls Tryz.prog 144 #[.bool true] W fun e w'=>e=.returned (.int .u32 1)/\w'=W):=fun W=>(bit6_any true W).mono fun _ _ h=>⟨h.1,h.2.symm⟩
 have HBF:Hid (∀ W,Calls Tryz.prog 144 #[.bool false] W fun e w'=>e=.returned (.int .u32 0)/\w'=W):=fun W=>(bit6_any false W).mono fun _ _ h=>⟨h.1,h.2.symm⟩
 cases ssq <;> cases sps <;> cases smr
 all_goals
  go_quiet ((go_at_call 144;first | with_reducible exact Calls.quiet_of_same (HBT.out _) | with_reducible exact Calls.quiet_of_same (HBF.out _)))
  go_wp2
  all_goals
   go_ret
   exact ⟨ret_int6 (by rw [HE.out];simp only [Wh.one];simp;omega),HF.out.drewN _⟩
def u32E:El Int:={ e:=43,size:=1,bytes:=4,zero:=.int .u32 0,zel:=0,enc:=fun x=>[.int .u32 x],len:=fun _=>rfl,one:=by simp [Value.oneCell'],pos:=by decide,zsize:=rfl,zenc:=rfl }
theorem Tryz.infoU32:(Tryz.prog.info? 43).map (fun i=>(i.zero,i.size,i.bytes))=some (some (.int .u32 0),1,4):=by kernel_rfl
theorem Sl.u32_at {w:World} {A:Option Addr} {c:Nat} {l:List Int} (h:Sl u32E w A c l) (k:Nat) (hk:k<l.length):∃ g o,A=some ⟨g,o,none⟩/\g<w.heap.size/\w.cell? ⟨g,o+k,none⟩=some (.int .u32 (l.getD k 0)):=by
 obtain ⟨g,o,hA,hg,hc⟩:=h.at_ k hk
 refine ⟨g,o,hA,hg,?_⟩
 have:=hc 0 (.int .u32 (l.getD k 0)) (by simp [u32E,List.getD,List.getElem?_eq_getElem hk])
 simpa [u32E] using this
theorem app_u32 {ops:Array Oper} {rest:List Oper} {o:Oper} {a:Act} {Q:Exit->Act->World->Prop} {w:World} (hgd:o.guard=none) {s x:Operand}
  (ho:o.op=.call { callee:=.builtin .append,args:=#[s,x],argTypes:=#[262,262] })
  {A A2:Option Addr} {c c2:Nat} {l l2:List Int} (es:a.eval s=.slice A l.length c) (ex:a.eval x=.slice A2 l2.length c2)
  (h:Sl u32E w A c l) (h2:Rd u32E w A2 c2 l2) (hm:l.length+l2.length<=17592186044416)
  (hK:∀ A' c' L w',Hid (L=l++l2)->Sl u32E w' A' c' L->Touch (fun k=>A.map Addr.block=some k) w w'->(A'.map Addr.block=A.map Addr.block\/A'.map Addr.block=some w.heap.size) ->
   wpList Tryz.prog ops Q rest (a.put o.dst (.slice A' L.length c')) w'):wpList Tryz.prog ops Q (o::rest) a w:=by
 obtain ⟨i0,hi,hz0,hz1,hz2⟩:=info_parts Tryz.infoU32
 exact wpList_app u32E hgd ho i0 Tryz.underlying262 hi hz0 hz1 hz2 es ex h h2 (by simp only [maxLen];omega) (by show _*4<=_;omega) hK
theorem Mine.snoc32 {W w:World} {A:Option Addr} {c:Nat} {L:List Int} (h:Mine u32E W w A c L) (x:Int):Mine u32E W (w.alloc (.cells #[.int .u32 x] 43)) A c L/\Rd u32E (w.alloc (.cells #[.int .u32 x] 43)) (some ⟨w.heap.size,0,none⟩) 1 [x]:=
 ⟨h.alloc _,(Sl.lit u32E w _ rfl #[.int .u32 x] [x] rfl 1 rfl (by unfold maxLen;omega)).rd⟩
set_option maxRecDepth 10000 in
theorem words6_any (p:Wh.P) (A:Option Addr) (c:Nat) (w:World) (hr:Rd numE w A c p.l) (hq0:0<=p.sq) (hq1:p.sq<=255) (hl:p.l.length<=128) :
  Calls Tryz.prog 142 #[pV p A c] w fun e w'=>∃ A' c',e=.returned (.slice A' (Wh.wordsS (Wh.shape p.kind) p).length c')/\Mine u32E w w' A' c' (Wh.wordsS (Wh.shape p.kind) p):=by
 have hm:=hr.1
 have hm2:=hr.2.1
 unfold maxLen at hm2
 have HSA:Hid (∀ W,Calls Tryz.prog 136 #[.int .i64 p.kind] W fun e w'=>e=.returned (shV (Wh.shape p.kind))/\Fresh W w'):=fun W=>shape6_any p.kind W
 have HR:=lh hr
 clear hr
 generalize Wh.shape p.kind=s at *
 obtain ⟨kind,sq,n,ps,mr,l,self,data⟩:=p
 obtain ⟨sd,ssq,sn,sl,sps,smr,sself,sis⟩:=s
 unfold pV
 unfold shV at HSA
 simp only at hm hm2 hq0 hq1 hl HSA HR ⊢
 have HWS:Hid (Wh.wordsS ⟨sd,ssq,sn,sl,sps,smr,sself,sis⟩ ⟨kind,sq,n,ps,mr,l,self,data⟩=(if ssq then [sq] else [])++(l++((if sps then [ps] else [])++(if smr then [mr] else [])))):=rfl
 generalize Wh.wordsS ⟨sd,ssq,sn,sl,sps,smr,sself,sis⟩ ⟨kind,sq,n,ps,mr,l,self,data⟩=R at *
 have HF:Hid (Fresh w (w.alloc (.cells #[.int .i64 kind,.int .i64 sq,.int .u32 n,.int .u32 ps,.int .u32 mr,.slice A l.length c,.bool self,.string data] 49))):=(Touch.refl _ w).alloc _
 have HB:Hid (Blk (w.alloc (.cells #[.int .i64 kind,.int .i64 sq,.int .u32 n,.int .u32 ps,.int .u32 mr,.slice A l.length c,.bool self,.string data] 49)) w.heap.size 49 [.int .i64 kind,.int .i64 sq,.int .u32 n,.int .u32 ps,.int .u32 mr,.slice A l.length c,.bool self,.string data]):=Blk.new _ _ _
 go_enter Tryz.func142,Tryz.ntmps142
 go_wp2_with fail
 refine (HSA.out _).mono ?_
 rintro e w2 ⟨rfl,f2⟩
 have HF2:Hid (Fresh w (w2.alloc (.cells #[.int .i64 sd,.bool ssq,.bool sn,.int .i64 sl,.bool sps,.bool smr,.bool sself,.bool sis] 250))):=(HF.out.trans f2 (fun _ _ e=>e)).alloc _
 have HB2:Hid (Blk (w2.alloc (.cells #[.int .i64 sd,.bool ssq,.bool sn,.int .i64 sl,.bool sps,.bool smr,.bool sself,.bool sis] 250)) w.heap.size 49 [.int .i64 kind,.int .i64 sq,.int .u32 n,.int .u32 ps,.int .u32 mr,.slice A l.length c,.bool self,.string data]):=(f2.blk HB.out (fun e=>e)).alloc _
 have HS2:Hid (Blk (w2.alloc (.cells #[.int .i64 sd,.bool ssq,.bool sn,.int .i64 sl,.bool sps,.bool smr,.bool sself,.bool sis] 250)) w2.heap.size 250 [.int .i64 sd,.bool ssq,.bool sn,.int .i64 sl,.bool sps,.bool smr,.bool sself,.bool sis]):=Blk.new _ _ _
 clear f2 HF HB HSA
 go_upto_region 2 with (fail)
 generalize (w2.alloc (.cells #[.int .i64 sd,.bool ssq,.bool sn,.int .i64 sl,.bool sps,.bool smr,.bool sself,.bool sis] 250))=w3 at *
 generalize w2.heap.size=g2 at *
 have hgw:∃ g,g=w.heap.size:=⟨_,rfl⟩
 obtain ⟨g,hg⟩:=hgw
 rw [<- hg] at HB2 ⊢
 clear hg
 have HR3:Hid (Rd numE w3 A c l):=HR.out.touch HF2.out (fun _ _ _ e=>e)
 clear HR
 have s1:w3.cell? ⟨g2,1,none⟩=some (.bool ssq):=HS2.out.cell 1
 have d1:w3.cell? ⟨g,1,none⟩=some (.int .i64 sq):=HB2.out.cell 1
 go_upto_if 11 with (fail)
 go_cut [4] (fun v wx=>∃ A' c' L,v=.slice A' L.length c'/\Hid (L=if ssq then [sq] else [])/\Hid (Mine u32E w3 wx A' c' L))
 case first =>
  cases ssq
  ·go_wp2
   go_meet
   case rel=>exact ⟨none,0,[],rfl,rfl,Mine.nil _ _⟩
  ·have M:=lh (Mine.snoc32 (Mine.nil u32E w3) sq)
   go_wp2_with (at_builtin;refine app_u32 rfl rfl (l:=[]) (l2:=[sq]) (by rfl) (by rfl) M.out.1.sl M.out.2 (by simp) ?_;intro A' c' L w4 hL hs ht hA;have M4:=lh (M.out.1.app hs ht hA);clear hs ht hA)
   go_meet
   case rel=>exact ⟨A',c',L,rfl,hL,M4⟩
 case rest =>
  obtain ⟨A1,c1,L1,rfl,HL1,M1⟩:=hcut
  have HB4:Hid (Blk wc g 49 [.int .i64 kind,.int .i64 sq,.int .u32 n,.int .u32 ps,.int .u32 mr,.slice A l.length c,.bool self,.string data]):=M1.out.fresh.blk HB2.out (fun h=>h)
  have d5:wc.cell? ⟨g,5,none⟩=some (.slice A l.length c):=HB4.out.cell 5
  clear HB4 s1 d1
  have hL1l:L1.length<=1:=by rw [HL1.out];split <;> simp
  go_wp2
  go_loopw [4,21] (fun v i wr=>∃ (k:Nat) (A':Option Addr) (c':Nat) (L:List Int),k<=l.length/\i=.int .i64 k/\v=.slice A' L.length c'/\Hid (L=L1++l.take k)/\Hid (Mine u32E w3 wr A' c' L)) (fun _ i _=>l.length-(intOf i).toNat)
  case atStart=>exact ⟨0,A1,c1,L1,Nat.zero_le _,rfl,rfl,by show _=_;simp,M1⟩
  case round =>
   obtain ⟨k,A2,c2,L2,hk,rfl,rfl,HL2,M2⟩:=hrel
   by_cases hlt:k<l.length
   ·obtain ⟨gb,o,hA,hgb,hcl⟩:=(M2.out.keepsR HR3.out).num_at k hlt
    have HLN:Hid (L1++l.take (k+1)=L2++[l.getD k 0]):=by
     show _=_
     rw [HL2.out,List.append_assoc,List.take_succ_eq_append_getElem hlt]
     simp [List.getD,List.getElem?_eq_getElem hlt]
    have h2l:L2.length<=1000:=by
     rw [HL2.out,List.length_append,List.length_take]
     omega
    subst hA
    obtain ⟨x,hx⟩:=xq (l.getD k 0)
    rw [<- hx] at hcl HLN
    clear hx
    have M:=lh (M2.out.snoc32 x)
    go_wp2_with (at_builtin;refine app_u32 rfl rfl (l:=L2) (l2:=[x]) (by rfl) (by rfl) M.out.1.sl M.out.2 (by simp;omega) ?_;intro A' c' L w4 hL hs ht hA;have M4:=lh (M.out.1.app hs ht hA);clear hs ht hA)
    go_roundw
    case rel=>exact ⟨k+1,A',c',L,by omega,by go_num,rfl,by show _=_;rw [HLN.out];exact hL.out,M4⟩
    case measure=>simp [intOf];omega
   ·have HLE:Hid (L2=L1++l):=by
     show _=_
     rw [HL2.out,List.take_of_length_le (by omega)]
    clear HL2 M1
    have HB5:Hid (Blk wr g 49 [.int .i64 kind,.int .i64 sq,.int .u32 n,.int .u32 ps,.int .u32 mr,.slice A l.length c,.bool self,.string data]):=M2.out.fresh.blk HB2.out (fun h=>h)
    have HS5:Hid (Blk wr g2 250 [.int .i64 sd,.bool ssq,.bool sn,.int .i64 sl,.bool sps,.bool smr,.bool sself,.bool sis]):=M2.out.fresh.blk HS2.out (fun h=>h)
    have e3:wr.cell? ⟨g,3,none⟩=some (.int .u32 ps):=HB5.out.cell 3
    have t4:wr.cell? ⟨g2,4,none⟩=some (.bool sps):=HS5.out.cell 4
    go_upto_if 31 with (fail)
    have h2l:L2.length<=200:=by
     rw [HLE.out,List.length_append]
     omega
    go_cut [4] (fun v wx=>∃ A' c' L,v=.slice A' L.length c'/\Hid (L=L2++if sps then [ps] else [])/\Hid (Mine u32E w3 wx A' c' L))
    case first =>
     cases sps
     ·go_wp2
      go_meet
      case rel=>exact ⟨A2,c2,L2,rfl,by show _=_;simp,M2⟩
     ·have M:=lh (M2.out.snoc32 ps)
      go_wp2_with (at_builtin;refine app_u32 rfl rfl (l:=L2) (l2:=[ps]) (by rfl) (by rfl) M.out.1.sl M.out.2 (by simp;omega) ?_;intro A' c' L w4 hL hs ht hA;have M4:=lh (M.out.1.app hs ht hA);clear hs ht hA)
      go_meet
      case rel=>exact ⟨A',c',L,rfl,hL,M4⟩
    case rest =>
     obtain ⟨A3,c3,L3,rfl,HL3,M3⟩:=hcut
     have h3l:L3.length<=300:=by
      rw [HL3.out,List.length_append]
      split <;> simp <;> omega
     have HB6:Hid (Blk wc g 49 [.int .i64 kind,.int .i64 sq,.int .u32 n,.int .u32 ps,.int .u32 mr,.slice A l.length c,.bool self,.string data]):=M3.out.fresh.blk HB2.out (fun h=>h)
     have HS6:Hid (Blk wc g2 250 [.int .i64 sd,.bool ssq,.bool sn,.int .i64 sl,.bool sps,.bool smr,.bool sself,.bool sis]):=M3.out.fresh.blk HS2.out (fun h=>h)
     have e4:wc.cell? ⟨g,4,none⟩=some (.int .u32 mr):=HB6.out.cell 4
     have t5:wc.cell? ⟨g2,5,none⟩=some (.bool smr):=HS6.out.cell 5
     go_upto_if 38 with (fail)
     go_cut [4] (fun v wx=>∃ A' c' L,v=.slice A' L.length c'/\Hid (L=L3++if smr then [mr] else [])/\Hid (Mine u32E w3 wx A' c' L))
     case first =>
      cases smr
      ·go_wp2
       go_meet
       case rel=>exact ⟨A3,c3,L3,rfl,by show _=_;simp,M3⟩
      ·have M:=lh (M3.out.snoc32 mr)
       go_wp2_with (at_builtin;refine app_u32 rfl rfl (l:=L3) (l2:=[mr]) (by rfl) (by rfl) M.out.1.sl M.out.2 (by simp;omega) ?_;intro A' c' L w4 hL hs ht hA;have M4:=lh (M.out.1.app hs ht hA);clear hs ht hA)
       go_meet
       case rel=>exact ⟨A',c',L,rfl,hL,M4⟩
     case rest =>
      obtain ⟨A4,c4,L4,rfl,HL4,M4⟩:=hcut
      have HRL:Hid (R=L4):=by
       show _=_
       rw [HWS.out,HL4.out,HL3.out,HLE.out,HL1.out]
       simp only [List.append_assoc]
      have HM:Hid (Mine u32E w wc A4 c4 R):=by
       rw [HRL.out]
       exact M4.out.back HF2.out
      have HLN:Hid (R.length=L4.length):=by rw [HRL.out];rfl
      go_wp2
      go_ret
      exact ⟨A4,c4,by rw [HLN.out];rfl,HM.out⟩
namespace Wh
def bigB (s:Sh) (p:P):Bool:=(decide (s.data<(p.data.size:Int)) && decide (0<s.data)) || decide (128<p.l.length)
def badB (s:Sh) (p:P) (b1 b2 b3:Bool):Bool:=(!b1) || ((!b2) || ((!b3) || (decide (p.sq<0) || (decide (255<p.sq) || (!s.sq && p.sq != 0)))))
theorem ckS_b (s:Sh) (p:P):ckS s p=if s.is then (if bigB s p then 6 else if badB s p (listOk s p) (allOk p) (someOk s p) then 1 else 0) else 10:=by
 unfold ckS bigB badB
 cases s.is
 ·simp
 ·cases listOk s p <;> cases allOk p <;> cases someOk s p <;> simp
end Wh
set_option maxRecDepth 10000 in
theorem check6_any (p:Wh.P) (A:Option Addr) (c:Nat) (w:World) (hr:Rd numE w A c p.l) (hd:p.data.size<=9223372036854775807) :
  Calls Tryz.prog 86 #[pV p A c] w fun e w'=>e=.returned (.int .i64 (Wh.ck p))/\Fresh w w':=by
 have hm:=hr.1
 have hm2:=hr.2.1
 unfold maxLen at hm2
 have HSA:Hid (∀ W,Calls Tryz.prog 136 #[.int .i64 p.kind] W fun e w'=>e=.returned (shV (Wh.shape p.kind))/\Fresh W w'):=fun W=>shape6_any p.kind W
 have HCK:Hid (Wh.ck p=Wh.ckS (Wh.shape p.kind) p):=rfl
 have HR:=lh hr
 clear hr
 generalize Wh.ck p=R at *
 generalize Wh.shape p.kind=s at *
 rw [show Wh.ckS s p=_ from Wh.ckS_b s p] at HCK
 obtain ⟨kind,sq,n,ps,mr,l,self,data⟩:=p
 obtain ⟨sd,ssq,sn,sl,sps,smr,sself,sis⟩:=s
 unfold pV
 unfold shV at HSA
 simp only at hm hm2 hd HSA HR HCK ⊢
 have HF:Hid (Fresh w (w.alloc (.cells #[.int .i64 kind,.int .i64 sq,.int .u32 n,.int .u32 ps,.int .u32 mr,.slice A l.length c,.bool self,.string data] 49))):=(Touch.refl _ w).alloc _
 have HB:Hid (Blk (w.alloc (.cells #[.int .i64 kind,.int .i64 sq,.int .u32 n,.int .u32 ps,.int .u32 mr,.slice A l.length c,.bool self,.string data] 49)) w.heap.size 49 [.int .i64 kind,.int .i64 sq,.int .u32 n,.int .u32 ps,.int .u32 mr,.slice A l.length c,.bool self,.string data]):=Blk.new _ _ _
 go_enter Tryz.func86,Tryz.ntmps86
 go_wp2_with fail
 refine (HSA.out _).mono ?_
 rintro e w2 ⟨rfl,f2⟩
 have HF2:Hid (Fresh w (w2.alloc (.cells #[.int .i64 sd,.bool ssq,.bool sn,.int .i64 sl,.bool sps,.bool smr,.bool sself,.bool sis] 250))):=(HF.out.trans f2 (fun _ _ e=>e)).alloc _
 have HB2:Hid (Blk (w2.alloc (.cells #[.int .i64 sd,.bool ssq,.bool sn,.int .i64 sl,.bool sps,.bool smr,.bool sself,.bool sis] 250)) w.heap.size 49 [.int .i64 kind,.int .i64 sq,.int .u32 n,.int .u32 ps,.int .u32 mr,.slice A l.length c,.bool self,.string data]):=(f2.blk HB.out (fun e=>e)).alloc _
 have HS2:Hid (Blk (w2.alloc (.cells #[.int .i64 sd,.bool ssq,.bool sn,.int .i64 sl,.bool sps,.bool smr,.bool sself,.bool sis] 250)) w2.heap.size 250 [.int .i64 sd,.bool ssq,.bool sn,.int .i64 sl,.bool sps,.bool smr,.bool sself,.bool sis]):=Blk.new _ _ _
 clear f2 HF HB
 go_upto_region 2 with (fail)
 generalize (w2.alloc (.cells #[.int .i64 sd,.bool ssq,.bool sn,.int .i64 sl,.bool sps,.bool smr,.bool sself,.bool sis] 250))=w3 at *
 generalize w2.heap.size=g2 at *
 have hgw:∃ g,g=w.heap.size:=⟨_,rfl⟩
 obtain ⟨g,hg⟩:=hgw
 rw [<- hg] at HB2 ⊢
 have d1:w3.cell? ⟨g,1,none⟩=some (.int .i64 sq):=HB2.out.cell 1
 have d2:w3.cell? ⟨g,2,none⟩=some (.int .u32 n):=HB2.out.cell 2
 have d3:w3.cell? ⟨g,3,none⟩=some (.int .u32 ps):=HB2.out.cell 3
 have d4:w3.cell? ⟨g,4,none⟩=some (.int .u32 mr):=HB2.out.cell 4
 have d5:w3.cell? ⟨g,5,none⟩=some (.slice A l.length c):=HB2.out.cell 5
 have d6:w3.cell? ⟨g,6,none⟩=some (.bool self):=HB2.out.cell 6
 have d7:w3.cell? ⟨g,7,none⟩=some (.string data):=HB2.out.cell 7
 have s0:w3.cell? ⟨g2,0,none⟩=some (.int .i64 sd):=HS2.out.cell 0
 have s1:w3.cell? ⟨g2,1,none⟩=some (.bool ssq):=HS2.out.cell 1
 have s2:w3.cell? ⟨g2,2,none⟩=some (.bool sn):=HS2.out.cell 2
 have s3:w3.cell? ⟨g2,3,none⟩=some (.int .i64 sl):=HS2.out.cell 3
 have s4:w3.cell? ⟨g2,4,none⟩=some (.bool sps):=HS2.out.cell 4
 have s5:w3.cell? ⟨g2,5,none⟩=some (.bool smr):=HS2.out.cell 5
 have s6:w3.cell? ⟨g2,6,none⟩=some (.bool sself):=HS2.out.cell 6
 have s7:w3.cell? ⟨g2,7,none⟩=some (.bool sis):=HS2.out.cell 7
 have HR3:Hid (Rd numE w3 A c l):=HR.out.touch HF2.out (fun _ _ _ e=>e)
 clear HB2 HS2 HR hg
 cases sis
 ·go_wp2
  go_ret
  exact ⟨by rw [HCK.out];rfl,HF2.out⟩
 go_upto_region 4 with (fail)
 go_cut [29] (fun v wx=>∃ q:Bool,v=.bool q/\Hid (q=Wh.bigB ⟨sd,ssq,sn,sl,sps,smr,sself,true⟩ ⟨kind,sq,n,ps,mr,l,self,data⟩)/\wx=w3)
 case first=>as_aux_lemma =>
  go_wp2
  all_goals
   go_meet
   case rel=>exact ⟨_,rfl,by
    unfold Hid Wh.bigB
    simp only
    by_cases a:sd<(data.size:Int) <;> by_cases b:0<sd <;> by_cases e:128<l.length <;> simp [a,b,e] <;> omega,rfl⟩
 case rest =>
  obtain ⟨q1,rfl,HQ1,rfl⟩:=hcut
  cases q1
  case true =>
   go_wp2
   go_ret
   exact ⟨by rw [HCK.out,<- HQ1.out];rfl,HF2.out⟩
  case false =>
   go_upto_region 6 with (fail)
   go_cut [4] (fun v wx=>∃ q:Bool,v=.bool q/\Hid (q=Wh.listOk ⟨sd,ssq,sn,sl,sps,smr,sself,true⟩ ⟨kind,sq,n,ps,mr,l,self,data⟩)/\wx=wc)
   case first=>as_aux_lemma =>
    by_cases a:(l.length:Int)=sl
    ·have a1:((l.length:Int)==sl)=true:=by simpa using a
     go_wp2
     go_meet
     case rel=>exact ⟨_,rfl,by unfold Hid Wh.listOk;simp [a],rfl⟩
    ·have a1:((l.length:Int)==sl)=false:=by simpa using a
     by_cases b:sl<0
     ·go_wp2
      go_meet
      case rel=>exact ⟨_,rfl,by unfold Hid Wh.listOk;simp [a,b],rfl⟩
     ·go_wp2
      go_meet
      case rel=>exact ⟨_,rfl,by unfold Hid Wh.listOk;simp [a];omega,rfl⟩
   case rest =>
    obtain ⟨q2,rfl,HQ2,rfl⟩:=hcut
    have HL:=lh low6_any
    have HCN:Hid (Calls Tryz.prog 138 #[.slice A l.length c,.func (.func 139) #[] #[]] wc fun e w'=>e=.returned (.bool (l.any fun x=>!Wh.low x))/\wc=w'):=contains6_any A c l _ HR3.out
    have HAL:Hid (Wh.allOk ⟨kind,sq,n,ps,mr,l,self,data⟩=(Wh.low n && (Wh.low ps && (Wh.low mr && !(l.any fun x=>!Wh.low x))))):=rfl
    go_upto_region 7 with (fail)
    go_cut [5] (fun v wx=>∃ q:Bool,v=.bool q/\Hid (q=Wh.allOk ⟨kind,sq,n,ps,mr,l,self,data⟩)/\wx=wc)
    case first=>as_aux_lemma =>
     generalize (l.any fun x=>!Wh.low x)=ba at *
     cases hn:Wh.low n <;> cases hps:Wh.low ps <;> cases hmr:Wh.low mr
     all_goals
      have HN:=lh hn
      have HPS:=lh hps
      have HMR:=lh hmr
      rw [hn,hps,hmr] at HAL
      clear hn hps hmr
      go_wp2_with (first
       |(go_at_call 137;(with_reducible refine (HL.out n _).mono ?_);rintro e w' ⟨rfl,rfl⟩;rw [HN.out])
       |(go_at_call 137;(with_reducible refine (HL.out ps _).mono ?_);rintro e w' ⟨rfl,rfl⟩;rw [HPS.out])
       |(go_at_call 137;(with_reducible refine (HL.out mr _).mono ?_);rintro e w' ⟨rfl,rfl⟩;rw [HMR.out])
       |(go_at_call 138;refine HCN.out.mono ?_;rintro e w' ⟨rfl,rfl⟩))
      go_meet
      case rel=>exact ⟨_,rfl,by rw [HAL.out];rfl,rfl⟩
    case rest =>
     obtain ⟨q3,rfl,HQ3,rfl⟩:=hcut
     have HSO:Hid (Wh.someOk ⟨sd,ssq,sn,sl,sps,smr,sself,true⟩ ⟨kind,sq,n,ps,mr,l,self,data⟩=((decide (0<sd) || data.toList.isEmpty) && ((sn || n==0) && ((sps || ps==0) && ((smr || mr==0) && (sself || !self)))))):=rfl
     obtain ⟨bn,hbn⟩:=qx ((n==0))
     obtain ⟨bp,hbp⟩:=qx ((ps==0))
     obtain ⟨bm,hbm⟩:=qx ((mr==0))
     obtain ⟨be,hbe⟩:=qx data.toList.isEmpty
     obtain ⟨bs,hbs⟩:=qx (decide (0<sd))
     rw [hbn,hbp,hbm,hbe,hbs] at HSO
     go_upto_region 8 with (fail)
     go_cut [6] (fun v wx=>∃ q:Bool,v=.bool q/\Hid (q=Wh.someOk ⟨sd,ssq,sn,sl,sps,smr,sself,true⟩ ⟨kind,sq,n,ps,mr,l,self,data⟩)/\wx=wc)
     case first =>
      cases sn <;> cases sps
      all_goals as_aux_lemma =>
       go_wp2
       all_goals
        go_meet
        case rel=>exact ⟨_,rfl,by show _=_;rw [HSO.out];simp [*],rfl⟩
     case rest =>
      obtain ⟨q4,rfl,HQ4,rfl⟩:=hcut
      have HRR:Hid (R=if Wh.badB ⟨sd,ssq,sn,sl,sps,smr,sself,true⟩ ⟨kind,sq,n,ps,mr,l,self,data⟩ q2 q3 q4 then 1 else 0):=by
       rw [HCK.out,<- HQ1.out,<- HQ2.out,<- HQ3.out,<- HQ4.out]
       rfl
      clear HCK HQ1 HQ2 HQ3 HQ4 HSO HAL hbn hbp hbm hbe hbs
      as_aux_lemma =>
       cases q2
       ·go_wp2
        go_ret
        exact ⟨by rw [HRR.out];rfl,HF2.out⟩
       cases q3
       ·go_wp2
        go_ret
        exact ⟨by rw [HRR.out];rfl,HF2.out⟩
       cases q4
       ·go_wp2
        go_ret
        exact ⟨by rw [HRR.out];rfl,HF2.out⟩
       by_cases a:sq<0
       ·go_wp2
        go_ret
        exact ⟨by rw [HRR.out];simp [Wh.badB,a] <;> rfl,HF2.out⟩
       by_cases b:255<sq
       ·go_wp2
        go_ret
        exact ⟨by rw [HRR.out];simp [Wh.badB,b] <;> rfl,HF2.out⟩
       cases ssq
       ·by_cases e:sq=0
        ·subst e
         go_wp2
         go_ret
         exact ⟨by rw [HRR.out];simp [Wh.badB] <;> rfl,HF2.out⟩
        ·have e1:(sq != 0)=true:=by simpa using e
         go_wp2
         go_ret
         exact ⟨by rw [HRR.out];simp [Wh.badB,e] <;> rfl,HF2.out⟩
       ·have HBB:Hid (Wh.badB ⟨sd,true,sn,sl,sps,smr,sself,true⟩ ⟨kind,sq,n,ps,mr,l,self,data⟩ true true true=false):=by
         unfold Hid Wh.badB
         simp <;> omega
        rw [HBB.out] at HRR
        go_wp2
        go_ret
        exact ⟨by rw [HRR.out];rfl,HF2.out⟩
end Go.Proofs.YtlbopdfobgjjaaaGreatDoor

/-
  The element types of this seat's slices · timer.Bank: what each call does to a bank that lies at the head of a block · timer.Bank: Tick · pace.Pace: what each call does to a pace that lies at the head of a block: a bank, then its five ticks · pace.Pace: Busy, Polled, Answered, Safe · seq: Low, Of, To, Add: numbers of 24 bits, by remainders · Slices of seq.Num · event.Request.Check: what it says of any request. No conditions.
-/
import Derived.Test.YtlbopdfobgjjaaaGreatDoorRows
import Derived.Test.YtlbopdfobgjjaaaGreatDoorWhP
import Derived.RegionTactic
import Derived.ChangeAlike
import Derived.BigRegion
import Derived.StillTailTactics
import Derived.Deep.QuietTactic
import Derived.BigQuiet
import Derived.Deep.RegionLaw
import Derived.Lib.Strings
set_option maxHeartbeats 4000000
namespace Go.Proofs.YtlbopdfobgjjaaaGreatDoor
open Go.RowKit
def intE:El Int:={ e:=3,size:=1,bytes:=8,zero:=.int .i64 0,zel:=0,enc:=fun x=>[.int .i64 x],len:=fun _=>rfl,one:=by simp [Value.oneCell'],pos:=by decide,zsize:=rfl,zenc:=rfl }
theorem Tryz.infoInt:(Tryz.prog.info? 3).map (fun i=>(i.zero,i.size,i.bytes))=some (some (.int .i64 0),1,8):=by kernel_rfl
theorem intE_all (l:List Int):intE.all l=l.map (Value.int .i64):=by
 unfold El.all intE
 induction l with
 |nil=>rfl
 |cons a l ih=>simp only [List.flatMap_cons,List.map_cons,ih];rfl
theorem Sl.int_at {w:World} {A:Option Addr} {c:Nat} {l:List Int} (h:Sl intE w A c l) (k:Nat) (hk:k<l.length):∃ g o,A=some ⟨g,o,none⟩/\g<w.heap.size/\w.cell? ⟨g,o+k,none⟩=some (.int .i64 (l.getD k 0)):=by
 obtain ⟨g,o,hA,hg,hc⟩:=h.at_ k hk
 refine ⟨g,o,hA,hg,?_⟩
 have:=hc 0 (.int .i64 (l.getD k 0)) (by simp [intE,List.getD,List.getElem?_eq_getElem hk])
 simpa [intE] using this
theorem Rd.int_at {w:World} {A:Option Addr} {c:Nat} {l:List Int} (h:Rd intE w A c l) (k:Nat) (hk:k<l.length):∃ g o,A=some ⟨g,o,none⟩/\g<w.heap.size/\w.cell? ⟨g,o+k,none⟩=some (.int .i64 (l.getD k 0)):=by
 obtain ⟨g,o,hA,hg,hc⟩:=h.at_ k hk
 refine ⟨g,o,hA,hg,?_⟩
 have:=hc 0 (.int .i64 (l.getD k 0)) (by simp [intE,List.getD,List.getElem?_eq_getElem hk])
 simpa [intE] using this
theorem app_int {ops:Array Oper} {rest:List Oper} {o:Oper} {a:Act} {Q:Exit->Act->World->Prop} {w:World} (hgd:o.guard=none) {s x:Operand}
  (ho:o.op=.call { callee:=.builtin .append,args:=#[s,x],argTypes:=#[22,22] })
  {A A2:Option Addr} {c c2:Nat} {l l2:List Int} (es:a.eval s=.slice A l.length c) (ex:a.eval x=.slice A2 l2.length c2)
  (h:Sl intE w A c l) (h2:Rd intE w A2 c2 l2) (hm:l.length+l2.length<=17592186044416)
  (hK:∀ A' c' L w',Hid (L=l++l2)->Sl intE w' A' c' L->Touch (fun k=>A.map Addr.block=some k) w w'->(A'.map Addr.block=A.map Addr.block\/A'.map Addr.block=some w.heap.size) ->
   wpList Tryz.prog ops Q rest (a.put o.dst (.slice A' L.length c')) w'):wpList Tryz.prog ops Q (o::rest) a w:=by
 obtain ⟨i0,hi,hz0,hz1,hz2⟩:=info_parts Tryz.infoInt
 exact wpList_app intE hgd ho i0 Tryz.underlying22 hi hz0 hz1 hz2 es ex h h2 (by simp only [maxLen];omega) (by show _*8<=_;omega) hK
def strE:El ByteArray:={ e:=9,size:=1,bytes:=16,zero:=.string ByteArray.empty,zel:=ByteArray.empty,enc:=fun x=>[.string x],len:=fun _=>rfl,one:=by simp [Value.oneCell'],pos:=by decide,zsize:=rfl,zenc:=rfl }
theorem Tryz.infoStr:(Tryz.prog.info? 9).map (fun i=>(i.zero,i.size,i.bytes))=some (some (.string ByteArray.empty),1,16):=by kernel_rfl
theorem Sl.str_at {w:World} {A:Option Addr} {c:Nat} {l:List ByteArray} (h:Sl strE w A c l) (k:Nat) (hk:k<l.length):∃ g o,A=some ⟨g,o,none⟩/\g<w.heap.size/\w.cell? ⟨g,o+k,none⟩=some (.string (l.getD k ByteArray.empty)):=by
 obtain ⟨g,o,hA,hg,hc⟩:=h.at_ k hk
 refine ⟨g,o,hA,hg,?_⟩
 have:=hc 0 (.string (l.getD k ByteArray.empty)) (by simp [strE,List.getD,List.getElem?_eq_getElem hk])
 simpa [strE] using this
theorem app_str {ops:Array Oper} {rest:List Oper} {o:Oper} {a:Act} {Q:Exit->Act->World->Prop} {w:World} (hgd:o.guard=none) {s x:Operand}
  (ho:o.op=.call { callee:=.builtin .append,args:=#[s,x],argTypes:=#[102,102] })
  {A A2:Option Addr} {c c2:Nat} {l l2:List ByteArray} (es:a.eval s=.slice A l.length c) (ex:a.eval x=.slice A2 l2.length c2)
  (h:Sl strE w A c l) (h2:Rd strE w A2 c2 l2) (hm:l.length+l2.length<=8796093022208)
  (hK:∀ A' c' L w',Hid (L=l++l2)->Sl strE w' A' c' L->Touch (fun k=>A.map Addr.block=some k) w w'->(A'.map Addr.block=A.map Addr.block\/A'.map Addr.block=some w.heap.size) ->
   wpList Tryz.prog ops Q rest (a.put o.dst (.slice A' L.length c')) w'):wpList Tryz.prog ops Q (o::rest) a w:=by
 obtain ⟨i0,hi,hz0,hz1,hz2⟩:=info_parts Tryz.infoStr
 exact wpList_app strE hgd ho i0 Tryz.underlying102 hi hz0 hz1 hz2 es ex h h2 (by simp only [maxLen];omega) (by show _*16<=_;omega) hK
theorem stp_str {ops:Array Oper} {o:Oper} {a:Act} {K:Act->World->Prop} {Q:Exit->Act->World->Prop} {F:Prop} {w:World} (hgd:o.guard=none) {s x:Operand}
  (ho:o.op=.call { callee:=.builtin .append,args:=#[s,x],argTypes:=#[102,102] })
  {A A2:Option Addr} {c c2:Nat} {l l2:List ByteArray} (es:a.eval s=.slice A l.length c) (ex:a.eval x=.slice A2 l2.length c2)
  (h:Sl strE w A c l) (h2:Rd strE w A2 c2 l2) (hm:l.length+l2.length<=8796093022208)
  (hK:∀ A' c' L w',Hid (L=l++l2)->Sl strE w' A' c' L->Touch (fun k=>A.map Addr.block=some k) w w'->(A'.map Addr.block=A.map Addr.block\/A'.map Addr.block=some w.heap.size) ->
   K (a.put o.dst (.slice A' L.length c')) w'):if Region.wanted o (yielded ops a.tmps)=true then Oper.wp Tryz.prog o a w K Q else F:=by
 obtain ⟨i0,hi,hz0,hz1,hz2⟩:=info_parts Tryz.infoStr
 exact step_app strE hgd ho i0 Tryz.underlying102 hi hz0 hz1 hz2 es ex h h2 (by simp only [maxLen];omega) (by show _*16<=_;omega) hK
theorem mk_str {ops:Array Oper} {rest:List Oper} {o:Oper} {a:Act} {Q:Exit->Act->World->Prop} {w:World} (hgd:o.guard=none) {x y:Operand} (ho:o.op=Op.makeSlice 102 x y)
  (n:Nat) {kx ky:IntKind} (ex:a.eval x=.int kx n) (ey:a.eval y=.int ky n) (hm:n<=8796093022208)
  (hK:∀ L w',Hid (L=List.replicate n strE.zel)->Hid (L.length=n)->Sl strE w' (some ⟨w.heap.size,0,none⟩) n L->Fresh w w' ->
   wpList Tryz.prog ops Q rest (a.put o.dst (.slice (some ⟨w.heap.size,0,none⟩) n n)) w'):wpList Tryz.prog ops Q (o::rest) a w:=by
 obtain ⟨i0,hi,hz0,hz1,hz2⟩:=info_parts Tryz.infoStr
 exact wpList_mk strE hgd ho i0 Tryz.underlying102 hi hz0 hz1 hz2 n ex ey (by simp only [maxLen];omega) (by show 16*n<=_;omega) hK
theorem cp_str {ops:Array Oper} {rest:List Oper} {o:Oper} {a:Act} {Q:Exit->Act->World->Prop} {w:World} (hgd:o.guard=none) {x y:Operand}
  (ho:o.op=.call { callee:=.builtin .copy,args:=#[x,y],argTypes:=#[102,102] })
  {A A2:Option Addr} {c c2 n n2:Nat} {l l2:List ByteArray} (ex:a.eval x=.slice A n c) (ey:a.eval y=.slice A2 n2 c2) (hn:Hid (l.length=n)) (hn2:Hid (l2.length=n2)) (h:Sl strE w A c l) (h2:Rd strE w A2 c2 l2)
  (hK:∀ L w',Hid (L=l2.take l.length++l.drop l2.length)->Hid (L.length=n)->Sl strE w' A c L->Touch (fun k=>A.map Addr.block=some k) w w' ->
   wpList Tryz.prog ops Q rest (a.put o.dst (.int .i64 (Nat.min n2 n))) w'):wpList Tryz.prog ops Q (o::rest) a w:=by
 obtain ⟨i0,hi,_,hz1,_⟩:=info_parts Tryz.infoStr
 exact wpList_cpn strE hgd ho i0 Tryz.underlying102 hi hz1 ex ey hn hn2 h h2 hK
set_option maxRecDepth 20000
def Bk (w:World) (g:Nat) (t:TypeId) (l c:List Int):Prop:=l.length=5/\(∀ x ∈ l,0<=x/\x<=1048576)/\Blk w g t ((l++c).map (Value.int .i64))
theorem Bk.cell {w:World} {g:Nat} {t:TypeId} {l c:List Int} (h:Bk w g t l c) {i:Nat} (hi:i<5):w.cell? ⟨g,i,none⟩=some (.int .i64 (l.getD i 0)):=by
 rw [h.2.2.cell]
 have:=h.1
 rw [List.map_append,List.getElem?_append_left (by simp;omega)]
 simp [List.getD,List.getElem?_eq_getElem (show i<l.length by omega)]
theorem Bk.frozen {w:World} {g:Nat} {t:TypeId} {l c:List Int} (h:Bk w g t l c) (i:Nat):w.frozen? ⟨g,i,none⟩=false:=h.2.2.frozen i
theorem Bk.set {w:World} {g:Nat} {t:TypeId} {l c:List Int} (h:Bk w g t l c) {i:Nat} (hi:i<5) {x:Int} (h0:0<=x) (h1:x<=1048576) :
  Bk (w.setCell ⟨g,i,none⟩ (.int .i64 x)) g t (l.set i x) c:=by
 refine ⟨by simpa using h.1,?_,?_⟩
 ·intro y hy
  rcases List.mem_or_eq_of_mem_set hy with hy | rfl
  ·exact h.2.1 y hy
  ·exact ⟨h0,h1⟩
 ·have:=h.2.2.set i (.int .i64 x)
  rw [<- List.map_set,List.set_append_left _ _ (by have:=h.1;omega)] at this
  exact this
theorem Bk.bd {w:World} {g:Nat} {t:TypeId} {l c:List Int} (h:Bk w g t l c) (i:Nat):0<=l.getD i 0/\l.getD i 0<=1048576:=by
 by_cases hi:i<l.length
 ·have:=h.2.1 l[i] (List.getElem_mem hi)
  simpa [List.getD,List.getElem?_eq_getElem hi] using this
 ·simp [List.getD,List.getElem?_eq_none (show l.length<=i by omega)]
theorem Bk.lt {w:World} {g:Nat} {t:TypeId} {l c:List Int} (h:Bk w g t l c):g<w.heap.size:=h.2.2.lt
theorem is_any (t:Int) (w:World) :
  Calls Tryz.prog 49 #[.int .i64 t] w fun e w'=>e=.returned (.bool (decide (0<=t/\t<5)))/\w=w':=by
 by_cases h0:0<=t
 ·by_cases h5:t<5
  ·go_enter Tryz.func49,Tryz.ntmps49
   go_wp2
   go_ret
   exact ⟨by simp [h0,h5],rfl⟩
  ·go_enter Tryz.func49,Tryz.ntmps49
   go_wp2
   go_ret
   exact ⟨by simp [h5],rfl⟩
 ·go_enter Tryz.func49,Tryz.ntmps49
  go_wp2
  go_ret
  exact ⟨by simp;omega,rfl⟩
namespace Tm
def start (l:List Int) (t n:Int):List Int:=if 0<=t/\t<5 then l.set t.toNat (max 1 (min n 1048576)) else l
def stop (l:List Int) (t:Int):List Int:=if 0<=t/\t<5 then l.set t.toNat 0 else l
def left (l:List Int) (t:Int):Int:=if 0<=t/\t<5 then l.getD t.toNat 0 else 0
def dec (x:Int):Int:=if x=0 then 0 else x-1
def tickTo (l:List Int) (k:Nat):List Int:=(l.take k).map dec++l.drop k
def tick (l:List Int):List Int:=l.map dec
def overTo (l:List Int) (k:Nat):List Int:=((List.range k).filter fun i=>l.getD i 0==1).map fun i:Nat=>(i:Int)
def over (l:List Int):List Int:=overTo l 5
theorem tickTo_succ (l:List Int) (k:Nat) (hk:k<l.length):tickTo l (k+1)=(tickTo l k).set k (dec (l.getD k 0)):=by
 unfold tickTo
 have hm:(List.map dec (List.take k l)).length=k:=by simp;omega
 rw [List.take_succ_eq_append_getElem hk,List.map_append,List.set_append_right _ _ (by omega),hm,Nat.sub_self,List.append_assoc]
 have hd:(List.drop k l).set 0 (dec (l.getD k 0))=dec l[k]::List.drop (k+1) l:=by
  rw [List.drop_eq_getElem_cons hk,List.set_cons_zero]
  simp [List.getD,List.getElem?_eq_getElem hk]
 rw [hd]
 simp
theorem tickTo_get (l:List Int) (k:Nat):(tickTo l k).getD k 0=l.getD k 0:=by
 unfold tickTo
 by_cases hk:k<l.length
 ·simp [List.getD,List.getElem?_append_right,hk,Nat.min_eq_left (Nat.le_of_lt hk)]
 ·have h1:l.take k=l:=List.take_of_length_le (by omega)
  have h2:l.drop k=[]:=List.drop_eq_nil_of_le (by omega)
  simp [List.getD,h1,h2,List.getElem?_eq_none (show l.length<=k by omega)]
theorem tickTo_all (l:List Int) (h:l.length=5):tickTo l 5=tick l:=by
 unfold tickTo tick
 rw [List.take_of_length_le (by omega),List.drop_eq_nil_of_le (by omega),List.append_nil]
theorem overTo_succ (l:List Int) (k:Nat):overTo l (k+1)=overTo l k++if l.getD k 0=1 then [(k:Int)] else []:=by
 unfold overTo
 rw [List.range_succ,List.filter_append,List.map_append]
 by_cases h:l.getD k 0=1
 ·rw [if_pos h];simp only [List.filter_cons,h];rfl
 ·rw [if_neg h];simp only [List.filter_cons,beq_eq_false_iff_ne.2 h];rfl
theorem overTo_len (l:List Int) (k:Nat):(overTo l k).length<=k:=by
 unfold overTo
 have:=List.length_filter_le (fun i=>l.getD i 0==1) (List.range k)
 simpa using this
end Tm
theorem start_any (g:Nat) (T:TypeId) (l c:List Int) (t n:Int) (w:World) (h:Bk w g T l c) :
  Calls Tryz.prog 121 #[.pointer (some ⟨g,0,none⟩),.int .i64 t,.int .i64 n] w fun e w'=>e=.returned (.tuple #[])/\Bk w' g T (Tm.start l t n) c/\Touch (· = g) w w':=by
 by_cases h0:0<=t/\t<5
 ·have hs:Hid (Bk (w.setCell ⟨g,t.toNat,none⟩ (.int .i64 (max 1 (min n 1048576)))) g T (Tm.start l t n) c):=by
   have:=h.set (i:=t.toNat) (by omega) (x:=max 1 (min n 1048576)) (by omega) (by omega)
   unfold Tm.start
   rw [if_pos h0]
   exact this
  have hc:=h.cell (i:=t.toNat) (by omega)
  have hf:=h.frozen t.toNat
  clear h
  obtain ⟨h0,h5⟩:=h0
  go_enter Tryz.func121,Tryz.ntmps121
  go_wp2
  all_goals go_end0
  ·rename_i hn
   have e:max 1 (min n 1048576)=1048576:=by omega
   exact ⟨rfl,by rw [e] at hs;exact hs.out,Touch.set1 _ _ _ _⟩
  ·have e:max 1 (min n 1048576)=n:=by omega
   exact ⟨rfl,by rw [e] at hs;exact hs.out,Touch.set1 _ _ _ _⟩
  ·have e:max 1 (min n 1048576)=1:=by omega
   exact ⟨rfl,by rw [e] at hs;exact hs.out,Touch.set1 _ _ _ _⟩
 ·have hb:decide (0<=t/\t<5)=false:=by simpa using h0
  have hl:Hid (Tm.start l t n=l):=by show Tm.start l t n=l;unfold Tm.start;rw [if_neg h0]
  clear h0
  go_enter Tryz.func121,Tryz.ntmps121
  go_wp2_with (go_at_call 49;refine (is_any _ _).mono ?_;rintro e w' ⟨rfl,rfl⟩)
  go_end0
  exact ⟨rfl,by rw [hl.out];exact h,Touch.refl _ _⟩
theorem tmstop_any (g:Nat) (T:TypeId) (l c:List Int) (t:Int) (w:World) (h:Bk w g T l c) :
  Calls Tryz.prog 158 #[.pointer (some ⟨g,0,none⟩),.int .i64 t] w fun e w'=>e=.returned (.tuple #[])/\Bk w' g T (Tm.stop l t) c/\Touch (· = g) w w':=by
 by_cases h0:0<=t/\t<5
 ·have hs:Hid (Bk (w.setCell ⟨g,t.toNat,none⟩ (.int .i64 0)) g T (Tm.stop l t) c):=by
   have:=h.set (i:=t.toNat) (by omega) (x:=0) (by omega) (by omega)
   unfold Tm.stop
   rw [if_pos h0]
   exact this
  have hc:=h.cell (i:=t.toNat) (by omega)
  have hf:=h.frozen t.toNat
  clear h
  obtain ⟨h0,h5⟩:=h0
  go_enter Tryz.func158,Tryz.ntmps158
  go_wp2
  go_end0
  exact ⟨rfl,hs.out,Touch.set1 _ _ _ _⟩
 ·have hb:decide (0<=t/\t<5)=false:=by simpa using h0
  have hl:Hid (Tm.stop l t=l):=by show Tm.stop l t=l;unfold Tm.stop;rw [if_neg h0]
  clear h0
  go_enter Tryz.func158,Tryz.ntmps158
  go_wp2_with (go_at_call 49;refine (is_any _ _).mono ?_;rintro e w' ⟨rfl,rfl⟩)
  go_end0
  exact ⟨rfl,by rw [hl.out];exact h,Touch.refl _ _⟩
theorem left_any (g:Nat) (T:TypeId) (l c:List Int) (t:Int) (w:World) (h:Bk w g T l c) :
  Calls Tryz.prog 25 #[.pointer (some ⟨g,0,none⟩),.int .i64 t] w fun e w'=>e=.returned (.int .i64 (Tm.left l t))/\w=w':=by
 by_cases h0:0<=t/\t<5
 ·have hc:=h.cell (i:=t.toNat) (by omega)
  have hl:Hid (Tm.left l t=l.getD t.toNat 0):=by show Tm.left l t=_;unfold Tm.left;rw [if_pos h0]
  clear h
  obtain ⟨h0,h5⟩:=h0
  go_enter Tryz.func25,Tryz.ntmps25
  go_wp2
  go_ret
  exact ⟨by rw [hl.out];simp,rfl⟩
 ·have hb:decide (0<=t/\t<5)=false:=by simpa using h0
  have hl:Hid (Tm.left l t=0):=by show Tm.left l t=0;unfold Tm.left;rw [if_neg h0]
  clear h0
  go_enter Tryz.func25,Tryz.ntmps25
  go_wp2_with (go_at_call 49;refine (is_any _ _).mono ?_;rintro e w' ⟨rfl,rfl⟩)
  go_ret
  exact ⟨by rw [hl.out];rfl,rfl⟩
theorem runs_any (g:Nat) (T:TypeId) (l c:List Int) (t:Int) (w:World) (h:Bk w g T l c) :
  Calls Tryz.prog 119 #[.pointer (some ⟨g,0,none⟩),.int .i64 t] w fun e w'=>e=.returned (.bool (decide (0<Tm.left l t)))/\w=w':=by
 go_enter Tryz.func119,Tryz.ntmps119
 go_wp2_with (go_at_call 25;refine (left_any _ _ _ _ _ _ h).mono ?_;rintro e w' ⟨rfl,rfl⟩)
 go_ret
 exact ⟨rfl,rfl⟩
set_option maxRecDepth 20000
theorem Bk.tickStep {w:World} {g:Nat} {t:TypeId} {l c:List Int} {k:Nat} (h:Bk w g t (Tm.tickTo l k) c) (hk:k<5) (hl:l.length=5) (hne:l.getD k 0 ≠ 0) :
  Bk (w.setCell ⟨g,k,none⟩ (.int .i64 (l.getD k 0-1))) g t (Tm.tickTo l (k+1)) c:=by
 have hb:=h.bd k
 rw [Tm.tickTo_get] at hb
 rw [Tm.tickTo_succ _ _ (by omega)]
 have:Tm.dec (l.getD k 0)=l.getD k 0-1:=by unfold Tm.dec;rw [if_neg hne]
 rw [this]
 exact h.set hk (by omega) (by omega)
theorem Bk.tickSkip {w:World} {g:Nat} {t:TypeId} {l c:List Int} {k:Nat} (h:Bk w g t (Tm.tickTo l k) c) (hk:k<5) (hl:l.length=5) (hne:l.getD k 0=0) :
  Bk w g t (Tm.tickTo l (k+1)) c:=by
 have e:Tm.tickTo l (k+1)=Tm.tickTo l k:=by
  rw [Tm.tickTo_succ _ _ (by omega),hne,<- hne,<- Tm.tickTo_get l k]
  have:Tm.dec ((Tm.tickTo l k).getD k 0)=(Tm.tickTo l k).getD k 0:=by rw [Tm.tickTo_get,hne];rfl
  rw [this]
  have hlt:k<(Tm.tickTo l k).length:=by have:=h.1;omega
  simp [List.getD,List.getElem?_eq_getElem hlt]
 rw [e];exact h
theorem tick2_any (g:Nat) (T:TypeId) (hT:T ≠ 3) (l c:List Int) (w:World) (h:Bk w g T l c) :
  Calls Tryz.prog 50 #[.pointer (some ⟨g,0,none⟩)] w fun e w'=>∃ A ca,e=.returned (.slice A (Tm.over l).length ca)/\Sl intE w' A ca (Tm.over l)/\Bk w' g T (Tm.tick l) c/\Touch (· = g) w w'/\∀ ad,A=some ad->w.heap.size<=ad.block:=by
 have HL:=lh h.1
 go_enter Tryz.func50,Tryz.ntmps50
 go_wp2
 go_loopw [3,5] (fun v i wr=>∃ k:Nat,∃ A ca L,k<=5/\i=.int .i64 k/\v=.slice A L.length ca/\Hid (L=Tm.overTo l k)/\Sl intE wr A ca L/\Bk wr g T (Tm.tickTo l k) c/\Touch (· = g) w wr/\(∀ ad,A=some ad->w.heap.size<=ad.block)) (fun _ i _=>5-(intOf i).toNat)
 case atStart=>exact ⟨0,none,0,[],by omega,rfl,rfl,rfl,Sl.nil _ _,by simpa [Tm.tickTo] using h,Touch.refl _ _,fun _ h=>by cases h⟩
 case round =>
  obtain ⟨k,A,ca,L,hk,rfl,rfl,hL,hs,hb,ht,hA⟩:=hrel
  by_cases hlt:k<5
  ·have hc:=hb.cell hlt
   rw [Tm.tickTo_get] at hc
   have hf:=hb.frozen k
   have hbd:=hb.bd k
   rw [Tm.tickTo_get] at hbd
   by_cases h0:l.getD k 0=0
   ·have HR:Hid (L=Tm.overTo l (k+1)/\Bk wr g T (Tm.tickTo l (k+1)) c):=by
     have e:Tm.overTo l (k+1)=Tm.overTo l k:=by rw [Tm.overTo_succ,h0];simp
     rw [e]
     exact ⟨hL,hb.tickSkip hlt HL.out h0⟩
    clear hb hL
    rw [h0] at hc
    clear h0
    go_wp2
    go_roundw
    case rel=>exact ⟨k+1,A,ca,L,by omega,by go_num,rfl,HR.out.1,hs,HR.out.2,ht,hA⟩
    case measure=>simp [intOf];omega
   ·have HB:Hid (Bk (wr.setCell ⟨g,k,none⟩ (.int .i64 (l.getD k 0-1))) g T (Tm.tickTo l (k+1)) c):=hb.tickStep hlt HL.out h0
    have hAg:∀ ad,A=some ad->ad.block ≠ g:=hs.blk_ne hb.2.2 hT.symm
    by_cases h1:l.getD k 0=1
    ·have HO:Hid (Tm.overTo l (k+1)=L++[(k:Int)]):=by show _=_;rw [Tm.overTo_succ,if_pos h1,hL.out]
     have hlen:L.length<=k:=by rw [hL.out];exact Tm.overTo_len l k
     rw [h1] at hc HB
     have hgw:=hb.lt
     have hgW:=h.lt
     clear hb h0 h1 hbd hL
     go_wp2
     go_region
     go_wp2_with (at_builtin;refine app_int rfl rfl (l:=L) (l2:=[(k:Int)]) rfl rfl (((hs.setCell (p:=⟨g,k,none⟩) hAg _).alloc _).drew) (Sl.rd (Sl.lit intE _ _ (by simp) _ _ rfl _ rfl (by decide))) (by simp;omega) ?_;intro A' ca' L' w' HL' hs' ht' hA')
     go_roundw
     case rel =>
      have tt:Touch (· = g) w w':=by
       refine ((((ht.setCell (p:=⟨g,k,none⟩) (fun _=>rfl) _).alloc _).drew).trans ht' fun j hj hjA=>?_)
       cases A with
       |none=>cases hjA
       |some ad=>have:=hA ad rfl;simp at hjA;omega
      have bb:Bk w' g T (Tm.tickTo l (k+1)) c:=by
       have hb2:=HB.out
       refine ⟨hb2.1,hb2.2.1,ht'.blk ((hb2.2.2.alloc _).drew) ?_⟩
       intro hjA
       cases A with
       |none=>cases hjA
       |some ad=>have:=hA ad rfl;simp at hjA;omega
      refine ⟨k+1,A',ca',L',by omega,by go_num,rfl,HL'.out.trans HO.out.symm,hs',bb,tt,fun ad ha=>?_⟩
      subst ha
      rcases hA' with hA' | hA'
      ·cases A with
       |none=>cases hA'
       |some ad0=>have:=hA ad0 rfl;simp at hA';omega
      ·have:=ht.size;simp at hA';omega
     case measure=>simp [intOf];omega
    ·have HO:Hid (L=Tm.overTo l (k+1)):=by show _=_;rw [Tm.overTo_succ,if_neg h1,List.append_nil];exact hL
     have hz:((l.getD k 0-1)==0)=false:=beq_eq_false_iff_ne.2 (by omega)
     have hz0:(l.getD k 0==0)=false:=beq_eq_false_iff_ne.2 h0
     generalize l.getD k 0=x at *
     clear hb h0 h1 hL
     go_wp2
     go_region
     go_wp2
     go_roundw
     case rel=>exact ⟨k+1,A,ca,L,by omega,by go_num,rfl,HO.out,(hs.setCell (p:=⟨g,k,none⟩) hAg _).drew,HB.out,(ht.setCell (p:=⟨g,k,none⟩) (fun _=>rfl) _).drew,hA⟩
     case measure=>simp [intOf];omega
  ·have e5:k=5:=by omega
   subst e5
   have HO:Hid (L=Tm.over l/\Bk wr g T (Tm.tick l) c):=⟨hL,by rw [<- Tm.tickTo_all l HL.out];exact hb⟩
   clear hb hL
   go_wp2
   go_ret
   exact ⟨A,ca,by rw [<- HO.out.1];rfl,by rw [<- HO.out.1];exact hs,HO.out.2,ht,hA⟩
set_option maxRecDepth 20000
theorem Bk.cfg {w:World} {g:Nat} {t:TypeId} {l c:List Int} (h:Bk w g t l c) (i:Nat) (x:Int) (hi:c[i]?=some x):w.cell? ⟨g,5+i,none⟩=some (.int .i64 x):=by
 rw [h.2.2.cell]
 have:=h.1
 rw [List.map_append,List.getElem?_append_right (by simp;omega)]
 simp [this,hi]
theorem Bk.drewN {w:World} {g:Nat} {t:TypeId} {l c:List Int} (h:Bk w g t l c) (n:Nat):Bk (w.drewN n) g t l c:=⟨h.1,h.2.1,h.2.2.drewN n⟩
theorem Bk.alloc {w:World} {g:Nat} {t:TypeId} {l c:List Int} (h:Bk w g t l c) (o:Obj):Bk (w.alloc o) g t l c:=⟨h.1,h.2.1,h.2.2.alloc o⟩
theorem Bk.touch {w w':World} {g:Nat} {t:TypeId} {l c:List Int} {S:Nat->Prop} (h:Bk w g t l c) (ht:Touch S w w') (hs:¬ S g):Bk w' g t l c:=⟨h.1,h.2.1,ht.blk h.2.2 hs⟩
namespace Pc
def stops (l:List Int) (ts:List Int):List Int:=ts.foldl Tm.stop l
def watch (l:List Int) (c3:Int):List Int:=if 0<Tm.left l 3 then l else Tm.start l 3 c3
def end_ (l:List Int):List Int:=stops l [1,2,3,4]
def begin_ (l:List Int) (c1 c3:Int):List Int:=watch (Tm.start (end_ l) 1 c1) c3
def busy (l:List Int) (c1 c3:Int):List Int:=if 0<Tm.left l 2\/0<Tm.left l 4 then watch (Tm.start (stops l [2,4]) 1 c1) c3 else l
def polled (l:List Int) (c1 c2 c3:Int) (idle:Bool):List Int:=watch (if idle=true then Tm.start (stops l [1,2,4]) 2 c2 else Tm.start (stops l [1,2,4]) 1 c1) c3
def answered (l:List Int) (c3 c4:Int) (idle:Bool):List Int:=if idle=true/\0<Tm.left l 2 then Tm.start (stops l [2,3]) 4 c4 else if 0<Tm.left l 4 then l else Tm.start l 3 c3
theorem stops_take (l ts:List Int) (k:Nat) (hk:k<ts.length):stops l (ts.take (k+1))=Tm.stop (stops l (ts.take k)) (ts.getD k 0):=by
 unfold stops
 rw [List.take_succ_eq_append_getElem hk,List.foldl_append]
 simp [List.getD,List.getElem?_eq_getElem hk]
end Pc
theorem stops_any (g:Nat) (l c:List Int) (A:Option Addr) (ca:Nat) (ts:List Int) (w:World) (h:Bk w g 114 l c) (hs:Sl intE w A ca ts) :
  Calls Tryz.prog 120 #[.pointer (some ⟨g,0,none⟩),.slice A ts.length ca] w fun e w'=>e=.returned (.tuple #[])/\Bk w' g 114 (Pc.stops l ts) c/\Touch (· = g) w w':=by
 have hm:=hs.2.1
 have hm1:=hs.1
 unfold maxLen at hm
 have hAg:Hid (∀ ad,A=some ad->¬ ad.block=g):=hs.blk_ne h.2.2 (by decide)
 have HS:=lh hs
 clear hs
 go_enter Tryz.func120,Tryz.ntmps120
 go_wp2
 go_loopw [8] (fun i wr=>∃ k:Nat,k<=ts.length/\i=.int .i64 k/\Bk wr g 114 (Pc.stops l (ts.take k)) c/\Touch (· = g) w wr) (fun i _=>ts.length-(intOf i).toNat)
 case atStart=>exact ⟨0,by omega,rfl,h,Touch.refl _ _⟩
 case round =>
  obtain ⟨k,hk,rfl,hb,ht⟩:=hrel
  have HT:=lh ht
  clear ht
  by_cases hlt:k<ts.length
  ·obtain ⟨gA,oA,rfl,_,hc⟩:=(HS.out.touch HT.out hAg.out).int_at k hlt
   have hk1:(k:Int)<(ts.length:Int):=by omega
   have HK:=lh (Pc.stops_take l ts k hlt)
   generalize ts.getD k 0=x at *
   go_wp2_with fail
   refine (tmstop_any g _ _ c x wr hb).mono ?_
   rintro e w2 ⟨rfl,h2,t2⟩
   have HB:=lh h2
   have HT2:=lh (HT.out.trans t2 (fun _ _ h=>h))
   clear h2 t2 hb
   go_wp2
   go_roundw
   case rel=>exact ⟨k+1,by omega,by go_num,by rw [HK.out];exact HB.out,HT2.out⟩
   case measure=>simp [intOf];omega
  ·have e:k=ts.length:=by omega
   subst e
   rw [List.take_length] at hb
   go_wp2
   go_end0
   exact ⟨rfl,hb,HT.out⟩
def Pk (w:World) (g:Nat) (l:List Int) (c0 c1 c2 c3 c4:Int):Prop:=Bk w g 114 l [c0,c1,c2,c3,c4]
section
variable (g:Nat) (l:List Int) (c0 c1 c2 c3 c4:Int) (w:World)
theorem watch_any (h:Pk w g l c0 c1 c2 c3 c4) :
  Calls Tryz.prog 122 #[.pointer (some ⟨g,0,none⟩)] w fun e w'=>e=.returned (.tuple #[])/\Pk w' g (Pc.watch l c3) c0 c1 c2 c3 c4/\Touch (· = g) w w':=by
 have h8:w.cell? ⟨g,8,none⟩=some (.int .i64 c3):=h.cfg 3 _ rfl
 have H:Hid (Bk w g 114 l [c0,c1,c2,c3,c4]):=h
 have HW:=lh (show Pc.watch l c3=if 0<Tm.left l 3 then l else Tm.start l 3 c3 from rfl)
 clear h
 by_cases hr:0<Tm.left l 3
 ·rw [if_pos hr] at HW
  have hd:=decide_eq_true hr
  clear hr
  go_enter Tryz.func122,Tryz.ntmps122
  go_wp2_with (go_at_call 119;refine (runs_any _ _ _ _ _ _ H.out).mono ?_;rintro e w' ⟨rfl,rfl⟩)
  go_end0
  exact ⟨rfl,by rw [HW.out];exact H.out,Touch.refl _ _⟩
 ·rw [if_neg hr] at HW
  have hd:=decide_eq_false hr
  clear hr
  go_enter Tryz.func122,Tryz.ntmps122
  go_wp2_with (go_at_call 119;refine (runs_any _ _ _ _ _ _ H.out).mono ?_;rintro e w' ⟨rfl,rfl⟩)
  go_still_tail 8,(by kernel_rfl)
  go_wp2_with (go_at_call 121;refine (start_any _ _ _ _ _ _ _ (H.out.drewN _)).mono ?_;rintro e w' ⟨rfl,h2,t2⟩)
  go_end0
  exact ⟨rfl,by rw [HW.out];exact h2,((Touch.refl _ w).drewN 1).trans t2 (fun _ _ h=>h)⟩
theorem pend_any (h:Pk w g l c0 c1 c2 c3 c4) :
  Calls Tryz.prog 99 #[.pointer (some ⟨g,0,none⟩)] w fun e w'=>e=.returned (.tuple #[])/\Pk w' g (Pc.end_ l) c0 c1 c2 c3 c4/\Touch (· = g) w w':=by
 have H:Hid (Bk w g 114 l [c0,c1,c2,c3,c4]):=h
 clear h
 go_enter Tryz.func99,Tryz.ntmps99
 go_wp2_with (go_at_call 120;refine (stops_any g l _ _ _ [1,2,3,4] _ (H.out.alloc _) (Sl.lit intE _ _ (by simp) _ _ rfl _ rfl (by decide))).mono ?_;rintro e w' ⟨rfl,h2,t2⟩)
 go_end0
 exact ⟨rfl,h2,((Touch.refl _ w).alloc _).trans t2 (fun _ _ h=>h)⟩
theorem pbegin_any (h:Pk w g l c0 c1 c2 c3 c4) :
  Calls Tryz.prog 105 #[.pointer (some ⟨g,0,none⟩)] w fun e w'=>e=.returned (.tuple #[])/\Pk w' g (Pc.begin_ l c1 c3) c0 c1 c2 c3 c4/\Touch (· = g) w w':=by
 have H:=lh h
 clear h
 go_enter Tryz.func105,Tryz.ntmps105
 go_wp2_with (go_at_call 99;refine (pend_any g l c0 c1 c2 c3 c4 _ H.out).mono ?_;rintro e w1 ⟨rfl,h1,t1⟩)
 have h6:w1.cell? ⟨g,6,none⟩=some (.int .i64 c1):=Bk.cfg h1 1 _ rfl
 have H1:Hid (Bk w1 g 114 (Pc.end_ l) [c0,c1,c2,c3,c4]):=h1
 clear h1
 go_still_tail 8,(by kernel_rfl)
 go_wp2_with (go_at_call 121;refine (start_any _ _ _ _ _ _ _ (H1.out.drewN _)).mono ?_;rintro e w2 ⟨rfl,h2,t2⟩)
 have H2:=lh h2
 clear h2
 go_wp2_with (go_at_call 122;refine (watch_any g _ c0 c1 c2 c3 c4 _ H2.out).mono ?_;rintro e w3 ⟨rfl,h3,t3⟩)
 go_end0
 exact ⟨rfl,h3,((t1.drewN 1).trans t2 (fun _ _ h=>h)).trans t3 (fun _ _ h=>h)⟩
theorem pagain_any (h:Pk w g l c0 c1 c2 c3 c4) :
  Calls Tryz.prog 97 #[.pointer (some ⟨g,0,none⟩)] w fun e w'=>e=.returned (.tuple #[])/\Pk w' g (Tm.start l 0 c0) c0 c1 c2 c3 c4/\Touch (· = g) w w':=by
 have h5:w.cell? ⟨g,5,none⟩=some (.int .i64 c0):=Bk.cfg h 0 _ rfl
 have H:Hid (Bk w g 114 l [c0,c1,c2,c3,c4]):=h
 clear h
 go_enter Tryz.func97,Tryz.ntmps97
 go_wp2_with fail
 go_still_tail 8,(by kernel_rfl)
 go_wp2_with (go_at_call 121;refine (start_any _ _ _ _ _ _ _ (H.out.drewN _)).mono ?_;rintro e w2 ⟨rfl,h2,t2⟩)
 go_end0
 exact ⟨rfl,h2,((Touch.refl _ w).drewN 1).trans t2 (fun _ _ h=>h)⟩
theorem enough_any (h:Pk w g l c0 c1 c2 c3 c4) :
  Calls Tryz.prog 98 #[.pointer (some ⟨g,0,none⟩)] w fun e w'=>e=.returned (.tuple #[])/\Pk w' g (Tm.stop l 0) c0 c1 c2 c3 c4/\Touch (· = g) w w':=by
 have H:Hid (Bk w g 114 l [c0,c1,c2,c3,c4]):=h
 clear h
 go_enter Tryz.func98,Tryz.ntmps98
 go_wp2_with (go_at_call 158;refine (tmstop_any _ _ _ _ _ _ H.out).mono ?_;rintro e w2 ⟨rfl,h2,t2⟩)
 go_end0
 exact ⟨rfl,h2,t2⟩
theorem asks_any (p:Option Addr) (t:Int) :
  Calls Tryz.prog 54 #[.pointer p,.int .i64 t] w fun e w'=>e=.returned (.bool (decide (t=1\/t=2\/t=4)))/\w=w':=by
 rcases (show t=1\/t=2\/t=4\/(¬ t=1/\¬ t=2/\¬ t=4) by omega) with rfl | rfl | rfl | ⟨h1,h2,h3⟩
 ·go_enter Tryz.func54,Tryz.ntmps54
  go_wp2
  go_ret
  exact ⟨rfl,rfl⟩
 ·go_enter Tryz.func54,Tryz.ntmps54
  go_wp2
  go_ret
  exact ⟨rfl,rfl⟩
 ·go_enter Tryz.func54,Tryz.ntmps54
  go_wp2
  go_ret
  exact ⟨rfl,rfl⟩
 ·have e1:(t==1)=false:=beq_eq_false_iff_ne.2 h1
  have e2:(t==2)=false:=beq_eq_false_iff_ne.2 h2
  have e3:(t==4)=false:=beq_eq_false_iff_ne.2 h3
  have hd:=lh (show decide (t=1\/t=2\/t=4)=false by simp;omega)
  clear h1 h2 h3
  go_enter Tryz.func54,Tryz.ntmps54
  go_wp2
  go_ret
  exact ⟨by rw [hd.out];rfl,rfl⟩
end
set_option maxRecDepth 20000
section
variable (g:Nat) (l:List Int) (c0 c1 c2 c3 c4:Int) (w:World)
theorem polled_any (idle:Bool) (h:Pk w g l c0 c1 c2 c3 c4) :
  Calls Tryz.prog 83 #[.pointer (some ⟨g,0,none⟩),.bool idle] w fun e w'=>e=.returned (.tuple #[])/\Pk w' g (Pc.polled l c1 c2 c3 idle) c0 c1 c2 c3 c4/\Touch (· = g) w w':=by
 have H:Hid (Bk w g 114 l [c0,c1,c2,c3,c4]):=h
 clear h
 cases idle
 all_goals
  go_enter Tryz.func83,Tryz.ntmps83
  go_wp2_with fail
  refine (stops_any g l _ _ _ [1,2,4] _ (H.out.alloc _) (Sl.lit intE _ _ (by simp) _ _ rfl _ rfl (by decide))).mono ?_
  rintro e w1 ⟨rfl,h1,t1⟩
  have h6:w1.cell? ⟨g,6,none⟩=some (.int .i64 c1):=Bk.cfg h1 1 _ rfl
  have h7:w1.cell? ⟨g,7,none⟩=some (.int .i64 c2):=Bk.cfg h1 2 _ rfl
  have H1:=lh h1
  have T1:Hid (Touch (· = g) w w1):=((Touch.refl _ w).alloc _).trans t1 (fun _ _ h=>h)
  clear h1 t1
  go_wp2_with fail
  go_still_tail 8,(by kernel_rfl)
  go_wp2_with (go_at_call 121;refine (start_any _ _ _ _ _ _ _ (H1.out.drewN _)).mono ?_;rintro e w2 ⟨rfl,h2,t2⟩)
  have H2:=lh h2
  clear h2
  go_wp2_with (go_at_call 122;refine (watch_any g _ c0 c1 c2 c3 c4 _ H2.out).mono ?_;rintro e w3 ⟨rfl,h3,t3⟩)
  go_end0
  exact ⟨rfl,h3,((T1.out.drewN 1).trans t2 (fun _ _ h=>h)).trans t3 (fun _ _ h=>h)⟩
theorem answered_any (idle:Bool) (h:Pk w g l c0 c1 c2 c3 c4) :
  Calls Tryz.prog 191 #[.pointer (some ⟨g,0,none⟩),.bool idle] w fun e w'=>e=.returned (.tuple #[])/\Pk w' g (Pc.answered l c3 c4 idle) c0 c1 c2 c3 c4/\Touch (· = g) w w':=by
 have H:Hid (Bk w g 114 l [c0,c1,c2,c3,c4]):=h
 have h8:w.cell? ⟨g,8,none⟩=some (.int .i64 c3):=Bk.cfg h 3 _ rfl
 have HW:=lh (show Pc.answered l c3 c4 idle=if idle=true/\0<Tm.left l 2 then Tm.start (Pc.stops l [2,3]) 4 c4 else if 0<Tm.left l 4 then l else Tm.start l 3 c3 from rfl)
 clear h
 by_cases hr:idle=true/\0<Tm.left l 2
 ·rw [if_pos hr] at HW
  obtain ⟨rfl,h2⟩:=hr
  have hd:=decide_eq_true h2
  clear h2
  go_enter Tryz.func191,Tryz.ntmps191
  go_wp2_with (go_at_call 119;refine (runs_any _ _ _ _ _ _ H.out).mono ?_;rintro e w' ⟨rfl,rfl⟩)
  refine (stops_any g l _ _ _ [2,3] _ (H.out.alloc _) (Sl.lit intE _ _ (by simp) _ _ rfl _ rfl (by decide))).mono ?_
  rintro e w1 ⟨rfl,h1,t1⟩
  have h9:w1.cell? ⟨g,9,none⟩=some (.int .i64 c4):=Bk.cfg h1 4 _ rfl
  have H1:=lh h1
  have T1:Hid (Touch (· = g) w w1):=((Touch.refl _ w).alloc _).trans t1 (fun _ _ h=>h)
  clear h1 t1
  go_wp2_with fail
  go_still_tail 8,(by kernel_rfl)
  go_wp2_with (go_at_call 121;refine (start_any _ _ _ _ _ _ _ (H1.out.drewN _)).mono ?_;rintro e w2 ⟨rfl,h2,t2⟩)
  first | go_end0 | refine bodyPost_ret (results_none rfl _ _ _) rfl ?_
  exact ⟨rfl,by rw [HW.out];exact h2,((T1.out.drewN 1).trans t2 (fun _ _ h=>h))⟩
 ·rw [if_neg hr] at HW
  have hcase:(idle=false)\/(idle=true/\decide (0<Tm.left l 2)=false):=by
   cases idle
   ·exact .inl rfl
   ·exact .inr ⟨rfl,decide_eq_false (fun e=>hr ⟨rfl,e⟩)⟩
  clear hr
  by_cases h4:0<Tm.left l 4
  ·rw [if_pos h4] at HW
   have hd4:=decide_eq_true h4
   clear h4
   rcases hcase with rfl | ⟨rfl,hd⟩
   all_goals
    go_enter Tryz.func191,Tryz.ntmps191
    go_wp2_with (go_at_call 119;refine (runs_any _ _ _ _ _ _ H.out).mono ?_;rintro e w' ⟨rfl,rfl⟩)
    go_end0
    exact ⟨rfl,by rw [HW.out];exact H.out,Touch.refl _ _⟩
  ·rw [if_neg h4] at HW
   have hd4:=decide_eq_false h4
   clear h4
   rcases hcase with rfl | ⟨rfl,hd⟩
   all_goals
    go_enter Tryz.func191,Tryz.ntmps191
    go_wp2_with (go_at_call 119;refine (runs_any _ _ _ _ _ _ H.out).mono ?_;rintro e w' ⟨rfl,rfl⟩)
    go_still_tail 8,(by kernel_rfl)
    go_wp2_with (go_at_call 121;refine (start_any _ _ _ _ _ _ _ (H.out.drewN _)).mono ?_;rintro e w2 ⟨rfl,h2,t2⟩)
    go_end0
    exact ⟨rfl,by rw [HW.out];exact h2,(((Touch.refl _ w).drewN 1).trans t2 (fun _ _ h=>h))⟩
end
theorem and_24 (a:Int):bits .and .i64 a 16777215=a%16777216:=and_mask a 24 16777215 rfl (by omega)
theorem and_mask32 (a:Int) (k m:Nat) (hm:m+1=2 ^ k) (hk:k<=32):bits .and .u32 a (m:Int)=a%((m+1:Nat):Int):=by
 have hle:2 ^ k<=2 ^ 32:=Nat.pow_le_pow_right (by omega) hk
 have h2:(BitVec.ofInt 32 (m:Int)).toNat=m:=by
  rw [BitVec.ofInt_natCast,BitVec.toNat_ofNat];exact Nat.mod_eq_of_lt (by omega)
 show IntKind.u32.wrap ((BitVec.ofInt 32 a &&& BitVec.ofInt 32 (m:Int)).toNat:Int)=_
 rw [BitVec.toNat_and,h2,BitVec.toNat_ofInt]
 have hm':m=2 ^ k-1:=by omega
 have e1:((a%((2 ^ 32:Nat):Int)).toNat &&& m)=(a%((2 ^ 32:Nat):Int)).toNat%(m+1):=by
  rw [hm,hm',Nat.and_two_pow_sub_one_eq_mod]
 rw [e1]
 have hpos:(0:Int)<=a%((2 ^ 32:Nat):Int):=Int.emod_nonneg _ (by decide)
 have e2:(((a%((2 ^ 32:Nat):Int)).toNat%(m+1):Nat):Int)=a%((m+1:Nat):Int):=by
  rw [Int.natCast_emod,Int.toNat_of_nonneg hpos]
  refine Int.emod_emod_of_dvd a ?_
  rw [hm]
  exact Int.natCast_dvd_natCast.2 (Nat.pow_dvd_pow 2 (by omega))
 rw [e2]
 have b1:0<=a%((m+1:Nat):Int):=Int.emod_nonneg _ (by omega)
 have b2:a%((m+1:Nat):Int)<((m+1:Nat):Int):=Int.emod_lt_of_pos _ (by omega)
 have b3:a%((m+1:Nat):Int)<4294967296:=by omega
 generalize a%((m+1:Nat):Int)=y at *
 have e3:IntKind.u32.wrap y=y%4294967296:=by simp [IntKind.wrap,IntKind.bits,IntKind.signed]
 rw [e3]
 omega
theorem and_24u (a:Int):bits .and .u32 a 16777215=a%16777216:=and_mask32 a 24 16777215 rfl (by omega)
theorem low_any (a:Int) (w:World):Calls Tryz.prog 116 #[.int .u32 a] w fun e w'=>e=.returned (.int .u32 (a%16777216))/\w'=w:=by
 have h:=and_24u a
 go_enter Tryz.func116,Tryz.ntmps116
 go_wp2
 go_ret
 exact ⟨rfl,rfl⟩
theorem sof_any (x:Int) (w:World):Calls Tryz.prog 65 #[.int .i64 x] w fun e w'=>e=.returned (.int .u32 (x%16777216))/\w'=w:=by
 have h:=and_24u (x%4294967296)
 have h2:x%4294967296%16777216=x%16777216:=by omega
 rw [h2] at h
 go_enter Tryz.func65,Tryz.ntmps65
 go_wp2
 go_ret
 exact ⟨rfl,rfl⟩
theorem to_any (a b:Int) (w:World):Calls Tryz.prog 161 #[.int .u32 a,.int .u32 b] w fun e w'=>e=.returned (.int .i64 ((b-a)%16777216))/\w'=w:=by
 have h:=and_24u ((b-a)%4294967296)
 have h2:(b-a)%4294967296%16777216=(b-a)%16777216:=by omega
 rw [h2] at h
 go_enter Tryz.func161,Tryz.ntmps161
 go_wp2
 go_ret
 exact ⟨rfl,rfl⟩
theorem sadd_any (a n:Int) (w:World):Calls Tryz.prog 62 #[.int .u32 a,.int .i64 n] w fun e w'=>e=.returned (.int .u32 ((a+n)%16777216))/\w'=w:=by
 have h:=and_24 n
 have h2:(a%16777216+n%16777216)%16777216=(a+n)%16777216:=by omega
 have h3:=sof_any (a%16777216+n%16777216)
 rw [h2] at h3
 have H3:=lh h3
 clear h3 h2
 go_enter Tryz.func62,Tryz.ntmps62
 go_wp2_with fail
 refine (low_any a w).mono ?_
 rintro e w2 ⟨rfl,rfl⟩
 have hb1:0<=a%16777216/\a%16777216<16777216:=by omega
 have hb2:0<=n%16777216/\n%16777216<16777216:=by omega
 generalize a%16777216=a1 at *
 simp only
 go_wp2_with fail
 refine (H3.out _).mono ?_
 rintro e w2 ⟨rfl,rfl⟩
 simp only
 go_wp2
 go_ret
 exact ⟨rfl,rfl⟩
def numE:El Int:={ e:=46,size:=1,bytes:=4,zero:=.int .u32 0,zel:=0,enc:=fun x=>[.int .u32 x],len:=fun _=>rfl,one:=by simp [Value.oneCell'],pos:=by decide,zsize:=rfl,zenc:=rfl }
theorem Tryz.infoNum:(Tryz.prog.info? 46).map (fun i=>(i.zero,i.size,i.bytes))=some (some (.int .u32 0),1,4):=by kernel_rfl
theorem Sl.num_at {w:World} {A:Option Addr} {c:Nat} {l:List Int} (h:Sl numE w A c l) (k:Nat) (hk:k<l.length):∃ g o,A=some ⟨g,o,none⟩/\g<w.heap.size/\w.cell? ⟨g,o+k,none⟩=some (.int .u32 (l.getD k 0)):=by
 obtain ⟨g,o,hA,hg,hc⟩:=h.at_ k hk
 refine ⟨g,o,hA,hg,?_⟩
 have:=hc 0 (.int .u32 (l.getD k 0)) (by simp [numE,List.getD,List.getElem?_eq_getElem hk])
 simpa [numE] using this
theorem Rd.num_at {w:World} {A:Option Addr} {c:Nat} {l:List Int} (h:Rd numE w A c l) (k:Nat) (hk:k<l.length):∃ g o,A=some ⟨g,o,none⟩/\g<w.heap.size/\w.cell? ⟨g,o+k,none⟩=some (.int .u32 (l.getD k 0)):=by
 obtain ⟨g,o,hA,hg,hc⟩:=h.at_ k hk
 refine ⟨g,o,hA,hg,?_⟩
 have:=hc 0 (.int .u32 (l.getD k 0)) (by simp [numE,List.getD,List.getElem?_eq_getElem hk])
 simpa [numE] using this
theorem app_num {ops:Array Oper} {rest:List Oper} {o:Oper} {a:Act} {Q:Exit->Act->World->Prop} {w:World} (hgd:o.guard=none) {s x:Operand}
  (ho:o.op=.call { callee:=.builtin .append,args:=#[s,x],argTypes:=#[47,47] })
  {A A2:Option Addr} {c c2:Nat} {l l2:List Int} (es:a.eval s=.slice A l.length c) (ex:a.eval x=.slice A2 l2.length c2)
  (h:Sl numE w A c l) (h2:Rd numE w A2 c2 l2) (hm:l.length+l2.length<=17592186044416)
  (hK:∀ A' c' L w',Hid (L=l++l2)->Sl numE w' A' c' L->Touch (fun k=>A.map Addr.block=some k) w w'->(A'.map Addr.block=A.map Addr.block\/A'.map Addr.block=some w.heap.size) ->
   wpList Tryz.prog ops Q rest (a.put o.dst (.slice A' L.length c')) w'):wpList Tryz.prog ops Q (o::rest) a w:=by
 obtain ⟨i0,hi,hz0,hz1,hz2⟩:=info_parts Tryz.infoNum
 exact wpList_app numE hgd ho i0 Tryz.underlying47 hi hz0 hz1 hz2 es ex h h2 (by simp only [maxLen];omega) (by show _*4<=_;omega) hK
theorem stp_num {ops:Array Oper} {o:Oper} {a:Act} {K:Act->World->Prop} {Q:Exit->Act->World->Prop} {F:Prop} {w:World} (hgd:o.guard=none) {s x:Operand}
  (ho:o.op=.call { callee:=.builtin .append,args:=#[s,x],argTypes:=#[47,47] })
  {A A2:Option Addr} {c c2:Nat} {l l2:List Int} (es:a.eval s=.slice A l.length c) (ex:a.eval x=.slice A2 l2.length c2)
  (h:Sl numE w A c l) (h2:Rd numE w A2 c2 l2) (hm:l.length+l2.length<=17592186044416)
  (hK:∀ A' c' L w',Hid (L=l++l2)->Sl numE w' A' c' L->Touch (fun k=>A.map Addr.block=some k) w w'->(A'.map Addr.block=A.map Addr.block\/A'.map Addr.block=some w.heap.size) ->
   K (a.put o.dst (.slice A' L.length c')) w'):if Region.wanted o (yielded ops a.tmps)=true then Oper.wp Tryz.prog o a w K Q else F:=by
 obtain ⟨i0,hi,hz0,hz1,hz2⟩:=info_parts Tryz.infoNum
 exact step_app numE hgd ho i0 Tryz.underlying47 hi hz0 hz1 hz2 es ex h h2 (by simp only [maxLen];omega) (by show _*4<=_;omega) hK
set_option maxRecDepth 20000
def Ev.most (k:Int):Int:=if k=1\/k=3\/k=4 then 64 else if k=7\/k=8\/k=9 then 200 else 0
def Ev.err (k:Int) (d:ByteArray) (n:Int):Int:=
 if k<1\/11<k then 10 else if 0<Ev.most k/\Ev.most k<d.size then 6
 else if (Ev.most k=0/\d.size ≠ 0)\/(k ≠ 10/\n ≠ 0)\/(k=10/\(n<1\/64<n)) then 1 else 0
theorem text_none (d:ByteArray) (h:d.size=0):d=ByteArray.empty:=by
 cases d with
 |mk a=>congr;exact Array.eq_empty_of_size_eq_zero h
theorem text_some (d:ByteArray) (h:d.size ≠ 0):d.toList.isEmpty=false:=by
 rw [List.isEmpty_eq_false_iff]
 intro e
 rw [Lib.toList_data] at e
 exact h (by show d.data.size=0;rw [<- Array.length_toList,e];rfl)
theorem evcheck_any (k:Int) (d:ByteArray) (n:Int) (w:World) :
  Calls Tryz.prog 34 #[.agg #[.int .i64 k,.string d,.int .i64 n]] w fun e w'=>e=.returned (.int .i64 (Ev.err k d n))/\Fresh w w':=by
 have HF:Hid (Fresh w (w.alloc (.cells #[.int .i64 k,.string d,.int .i64 n] 40))):=(Touch.refl _ _).alloc _
 obtain ⟨z,hz⟩:=qx (Ev.err k d n)
 have HZ:=lh hz
 rw [hz]
 clear hz
 have fin:∀ c,Ev.err k d n=c->c=z:=fun c h=>h.symm.trans HZ.out
 by_cases hk:k<1\/11<k
 ·obtain rfl:=fin 10 (by unfold Ev.err;rw [if_pos hk])
  have n1:(k==1)=false:=by rw [beq_eq_false_iff_ne];omega
  have n2:(k==2)=false:=by rw [beq_eq_false_iff_ne];omega
  have n3:(k==3)=false:=by rw [beq_eq_false_iff_ne];omega
  have n4:(k==4)=false:=by rw [beq_eq_false_iff_ne];omega
  have n5:(k==5)=false:=by rw [beq_eq_false_iff_ne];omega
  have n6:(k==6)=false:=by rw [beq_eq_false_iff_ne];omega
  have n7:(k==7)=false:=by rw [beq_eq_false_iff_ne];omega
  have n8:(k==8)=false:=by rw [beq_eq_false_iff_ne];omega
  have n9:(k==9)=false:=by rw [beq_eq_false_iff_ne];omega
  have n10:(k==10)=false:=by rw [beq_eq_false_iff_ne];omega
  have n11:(k==11)=false:=by rw [beq_eq_false_iff_ne];omega
  clear fin hk
  go_enter Tryz.func34,Tryz.ntmps34
  go_wp2
  go_ret
  exact ⟨rfl,HF.out⟩
 ·obtain ⟨m,hm⟩:=qx (Ev.most k)
  have hk0:¬ (k<1\/11<k):=hk
  have e6:0<m->m<d.size->Ev.err k d n=6:=fun h1 h2=>by unfold Ev.err;rw [if_neg hk0,hm,if_pos ⟨h1,h2⟩]
  have e1:¬ (0<m/\m<d.size)->((m=0/\d.size ≠ 0)\/(k ≠ 10/\n ≠ 0)\/(k=10/\(n<1\/64<n)))->Ev.err k d n=1:=fun h1 h2=>by unfold Ev.err;rw [if_neg hk0,hm,if_neg h1,if_pos h2]
  have e0:¬ (0<m/\m<d.size)->¬ ((m=0/\d.size ≠ 0)\/(k ≠ 10/\n ≠ 0)\/(k=10/\(n<1\/64<n)))->Ev.err k d n=0:=fun h1 h2=>by unfold Ev.err;rw [if_neg hk0,hm,if_neg h1,if_neg h2]
  have hkk:(k=1\/k=3\/k=4)/\m=64\/(k=7\/k=8\/k=9)/\m=200\/(k=2\/k=5\/k=6\/k=11)/\m=0\/k=10/\m=0:=by
   rw [<- hm]
   unfold Ev.most
   rcases (show k=1\/k=2\/k=3\/k=4\/k=5\/k=6\/k=7\/k=8\/k=9\/k=10\/k=11 by omega) with h | h | h | h | h | h | h | h | h | h | h <;> subst h <;> decide
  clear hk hk0 hm
  rcases hkk with ⟨hk,rfl⟩ | ⟨hk,rfl⟩ | ⟨hk,rfl⟩ | ⟨rfl,rfl⟩
  ·have hk1:k ≠ 10:=by omega
   by_cases h1:(64:Int)<d.size
   ·obtain rfl:=fin 6 (e6 (by omega) h1)
    clear e6 e1 e0 fin hk1
    rcases hk with rfl | rfl | rfl
    all_goals
     go_enter Tryz.func34,Tryz.ntmps34
     go_wp2
     go_ret
     exact ⟨rfl,HF.out⟩
   ·by_cases h2:n=0
    ·obtain rfl:=fin 0 (e0 (by omega) (by omega))
     clear e6 e1 e0 fin hk1
     subst h2
     rcases hk with rfl | rfl | rfl
     all_goals
      go_enter Tryz.func34,Tryz.ntmps34
      go_wp2
      go_ret
      exact ⟨rfl,HF.out⟩
    ·obtain rfl:=fin 1 (e1 (by omega) (by omega))
     have h3:(n != 0)=true:=by simpa using h2
     have h4:(n==0)=false:=by simpa using h2
     clear e6 e1 e0 fin hk1
     rcases hk with rfl | rfl | rfl
     all_goals
      go_enter Tryz.func34,Tryz.ntmps34
      go_wp2
      go_ret
      exact ⟨rfl,HF.out⟩
  ·have hk1:k ≠ 10:=by omega
   by_cases h1:(200:Int)<d.size
   ·obtain rfl:=fin 6 (e6 (by omega) h1)
    clear e6 e1 e0 fin hk1
    rcases hk with rfl | rfl | rfl
    all_goals
     go_enter Tryz.func34,Tryz.ntmps34
     go_wp2
     go_ret
     exact ⟨rfl,HF.out⟩
   ·by_cases h2:n=0
    ·obtain rfl:=fin 0 (e0 (by omega) (by omega))
     clear e6 e1 e0 fin hk1
     subst h2
     rcases hk with rfl | rfl | rfl
     all_goals
      go_enter Tryz.func34,Tryz.ntmps34
      go_wp2
      go_ret
      exact ⟨rfl,HF.out⟩
    ·obtain rfl:=fin 1 (e1 (by omega) (by omega))
     have h3:(n != 0)=true:=by simpa using h2
     have h4:(n==0)=false:=by simpa using h2
     clear e6 e1 e0 fin hk1
     rcases hk with rfl | rfl | rfl
     all_goals
      go_enter Tryz.func34,Tryz.ntmps34
      go_wp2
      go_ret
      exact ⟨rfl,HF.out⟩
  ·have hk1:k ≠ 10:=by omega
   by_cases h1:d.size=0
   ·obtain rfl:=text_none d h1
    by_cases h2:n=0
    ·obtain rfl:=fin 0 (e0 (by omega) (by simp;omega))
     clear e6 e1 e0 fin hk1
     subst h2
     rcases hk with rfl | rfl | rfl | rfl
     all_goals
      go_enter Tryz.func34,Tryz.ntmps34
      go_wp2
      go_ret
      exact ⟨rfl,HF.out⟩
    ·obtain rfl:=fin 1 (e1 (by omega) (by omega))
     have h3:(n != 0)=true:=by simpa using h2
     have h4:(n==0)=false:=by simpa using h2
     clear e6 e1 e0 fin hk1
     rcases hk with rfl | rfl | rfl | rfl
     all_goals
      go_enter Tryz.func34,Tryz.ntmps34
      go_wp2
      go_ret
      exact ⟨rfl,HF.out⟩
   ·obtain rfl:=fin 1 (e1 (by omega) (by omega))
    have h3:=text_some d h1
    clear e6 e1 e0 fin hk1
    rcases hk with rfl | rfl | rfl | rfl
    all_goals
     go_enter Tryz.func34,Tryz.ntmps34
     go_wp2
     go_ret
     exact ⟨rfl,HF.out⟩
  ·by_cases h1:d.size=0
   ·obtain rfl:=text_none d h1
    by_cases h2:n<1
    ·obtain rfl:=fin 1 (e1 (by omega) (by omega))
     clear e6 e1 e0 fin
     go_enter Tryz.func34,Tryz.ntmps34
     go_wp2
     go_ret
     exact ⟨rfl,HF.out⟩
    ·by_cases h3:64<n
     ·obtain rfl:=fin 1 (e1 (by omega) (by omega))
      clear e6 e1 e0 fin
      go_enter Tryz.func34,Tryz.ntmps34
      go_wp2
      go_ret
      exact ⟨rfl,HF.out⟩
     ·obtain rfl:=fin 0 (e0 (by omega) (by simp;omega))
      clear e6 e1 e0 fin
      go_enter Tryz.func34,Tryz.ntmps34
      go_wp2
      go_ret
      exact ⟨rfl,HF.out⟩
   ·obtain rfl:=fin 1 (e1 (by omega) (by omega))
    have h3:=text_some d h1
    clear e6 e1 e0 fin
    go_enter Tryz.func34,Tryz.ntmps34
    go_wp2
    go_ret
    exact ⟨rfl,HF.out⟩
end Go.Proofs.YtlbopdfobgjjaaaGreatDoor

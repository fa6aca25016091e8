/-
  span.Span: how it lies; near, empty.
-/
import Derived.Test.YtlbopdfobgjjaaaGreatDoorEvD
import Derived.RegionTactic
import Derived.ChangeAlike
import Derived.StillTailTactics
import Derived.Deep.QuietTactic
import Derived.BigQuiet
namespace Go.Proofs.YtlbopdfobgjjaaaGreatDoor
open Go.RowKit
def spanE:El (Int × Int):={ e:=284,size:=2,bytes:=16,zero:=.agg #[.int .i64 0,.int .i64 0],zel:=(0,0),enc:=fun x=>[.int .i64 x.1,.int .i64 x.2],len:=fun _=>rfl,one:=by simp [Value.oneCell'],pos:=by decide,zsize:=rfl,zenc:=rfl }
theorem Sl.span_at {w:World} {A:Option Addr} {c:Nat} {l:List (Int × Int)} (h:Sl spanE w A c l) (k:Nat) (hk:k<l.length):∃ g o,A=some ⟨g,o,none⟩/\g<w.heap.size/\w.cell? ⟨g,o+k*2,none⟩=some (.int .i64 (l.getD k (0,0)).1)/\w.cell? ⟨g,o+k*2+1,none⟩=some (.int .i64 (l.getD k (0,0)).2):=by
 obtain ⟨g,o,hA,hg,hc⟩:=h.at_ k hk
 exact ⟨g,o,hA,hg,hc 0 _ (by simp [spanE,List.getD,List.getElem?_eq_getElem hk]),hc 1 _ (by simp [spanE,List.getD,List.getElem?_eq_getElem hk])⟩
theorem Rd.span_at {w:World} {A:Option Addr} {c:Nat} {l:List (Int × Int)} (h:Rd spanE w A c l) (k:Nat) (hk:k<l.length):∃ g o,A=some ⟨g,o,none⟩/\g<w.heap.size/\w.cell? ⟨g,o+k*2,none⟩=some (.int .i64 (l.getD k (0,0)).1)/\w.cell? ⟨g,o+k*2+1,none⟩=some (.int .i64 (l.getD k (0,0)).2):=by
 obtain ⟨g,o,hA,hg,hc⟩:=h.at_ k hk
 exact ⟨g,o,hA,hg,hc 0 _ (by simp [spanE,List.getD,List.getElem?_eq_getElem hk]),hc 1 _ (by simp [spanE,List.getD,List.getElem?_eq_getElem hk])⟩
theorem Tryz.infoSpan:(Tryz.prog.info? 284).map (fun i=>(i.zero,i.size,i.bytes))=some (some (.agg #[.int .i64 0,.int .i64 0]),2,16):=by kernel_rfl
theorem app_span {T:TypeId} (hT:Tryz.prog.underlying T=some (.slice 284)) {ops:Array Oper} {rest:List Oper} {o:Oper} {a:Act} {Q:Exit->Act->World->Prop} {w:World} (hgd:o.guard=none) {s x:Operand}
  (ho:o.op=.call { callee:=.builtin .append,args:=#[s,x],argTypes:=#[T,T] })
  {A A2:Option Addr} {c c2:Nat} {l l2:List (Int × Int)} (es:a.eval s=.slice A l.length c) (ex:a.eval x=.slice A2 l2.length c2)
  (h:Sl spanE w A c l) (h2:Rd spanE w A2 c2 l2) (hm:l.length+l2.length<=8796093022208)
  (hK:∀ A' c' L w',Hid (L=l++l2)->Sl spanE w' A' c' L->Touch (fun k=>A.map Addr.block=some k) w w'->(A'.map Addr.block=A.map Addr.block\/A'.map Addr.block=some w.heap.size) ->
   wpList Tryz.prog ops Q rest (a.put o.dst (.slice A' L.length c')) w'):wpList Tryz.prog ops Q (o::rest) a w:=by
 obtain ⟨i0,hi,hz0,hz1,hz2⟩:=info_parts Tryz.infoSpan
 exact wpList_app spanE hgd ho i0 hT hi hz0 hz1 hz2 es ex h h2 (by simp only [maxLen];omega) (by show _*16<=_;omega) hK
namespace Sp
def clampF (x:Int):Int:=max (-1099511627776) (min x 1099511627776)
def clampT (x:Int):Int:=max (-1099511627776) (min x 1099511627777)
def near (x:Int × Int):Int × Int:=(clampF x.1,clampT x.2)
end Sp
theorem near_any15 (x:Int × Int) (w:World) :
  Calls Tryz.prog 198 #[.agg #[.int .i64 x.1,.int .i64 x.2]] w fun e w'=>e=.returned (.agg #[.int .i64 (Sp.near x).1,.int .i64 (Sp.near x).2])/\Fresh w w':=by
 obtain ⟨a,b⟩:=x
 obtain ⟨a',ha⟩:∃ a',a'=Sp.clampF a:=⟨_,rfl⟩
 obtain ⟨b',hb⟩:∃ b',b'=Sp.clampT b:=⟨_,rfl⟩
 have HA:=lh ha
 have HB:=lh hb
 unfold Sp.clampF at ha
 unfold Sp.clampT at hb
 have h1:(1099511627776<a/\a'=1099511627776)\/(¬ 1099511627776<a/\-1099511627776<a/\a'=a)\/(¬ 1099511627776<a/\¬ -1099511627776<a/\a'=-1099511627776):=by omega
 have h2:(1099511627777<b/\b'=1099511627777)\/(¬ 1099511627777<b/\-1099511627776<b/\b'=b)\/(¬ 1099511627777<b/\¬ -1099511627776<b/\b'=-1099511627776):=by omega
 clear ha hb
 have HN:Hid (Sp.near (a,b)=(a',b')):=by unfold Hid Sp.near;rw [HA.out,HB.out]
 clear HA HB
 simp only [HN.out]
 rcases h1 with ⟨h1,rfl⟩ | ⟨h1,h1',rfl⟩ | ⟨h1,h1',rfl⟩ <;> rcases h2 with ⟨h2,rfl⟩ | ⟨h2,h2',rfl⟩ | ⟨h2,h2',rfl⟩
 all_goals
  clear HN
  go_enter Tryz.func198,Tryz.ntmps198
  go_wp2
  exact bodyPost_ret (v:=_) (by simp [results,Tryz.results198,go_sem]) rfl ⟨rfl,((Touch.refl _ w).alloc _).alloc _⟩
theorem empty_any15 (x:Int × Int) (w:World) :
  Calls Tryz.prog 199 #[.agg #[.int .i64 x.1,.int .i64 x.2]] w fun e w'=>e=.returned (.bool (decide (x.2<=x.1)))/\Fresh w w':=by
 obtain ⟨a,b⟩:=x
 go_enter Tryz.func199,Tryz.ntmps199
 go_wp2
 go_ret
 exact ⟨rfl,(Touch.refl _ w).alloc _⟩
end Go.Proofs.YtlbopdfobgjjaaaGreatDoor

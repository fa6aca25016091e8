/-
  crc: a word's bytes, the table, sums of texts, seals · pdu: bit, at, take: words out of texts · crc: sums of texts by the table, seals, and that what is sealed fits · crc: Seal; what is sealed fits.
-/
import Derived.Test.YtlbopdfobgjjaaaGreatDoorWhP
import Derived.Test.YtlbopdfobgjjaaaGreatDoorRows
import Derived.Laws.IdiomStrings
import Derived.Laws.Rows
import Derived.LoopTactic
import Derived.RegionTactic
import Derived.ChangeAlike
import Derived.StillTailTactics
import Derived.Deep.QuietTactic
import Derived.BigQuiet
import Derived.IntWalk
import Derived.Deep.RegionLaw
import Derived.Deep.RegionHeld3
set_option maxHeartbeats 2000000
namespace Go.Proofs.YtlbopdfobgjjaaaGreatDoor
open Go.RowKit
theorem four_conv (x:Int) (w:World) (h0:0<=x) (h1:x<=4294967295) :
  (convert 215 9 (.slice (some ⟨w.heap.size,0,none⟩) 4 4)).run Tryz.prog (w.alloc (.cells #[.int .u8 (x / 16777216),.int .u8 (x / 65536%256),.int .u8 (x / 256%256),.int .u8 (x%256)] 5)) =
   .ok (.string (Wh.B (Wh.four x))) (w.alloc (.cells #[.int .u8 (x / 16777216),.int .u8 (x / 65536%256),.int .u8 (x / 256%256),.int .u8 (x%256)] 5)):=by
 have hb:=Blk.new w 5 [.int .u8 (x / 16777216),.int .u8 (x / 65536%256),.int .u8 (x / 256%256),.int .u8 (x%256)]
 refine run_convert_bytes_back (P:=Tryz.prog) _ 215 9 5 ⟨w.heap.size,0,none⟩ 4 (Wh.four x) Tryz.underlying215 Tryz.underlying5 Tryz.underlying9 (fun j hj=>?_)
 rw [Addr.add_lit,Nat.zero_add]
 have h4:x / 16777216%256=x / 16777216:=by omega
 have e:=hb.cell j
 have hj4:j<4:=hj
 rcases (show j=0\/j=1\/j=2\/j=3 by omega) with rfl | rfl | rfl | rfl
 ·rw [show (Wh.four x)[0]=Wh.byt (x / 16777216) from rfl,Wh.byt_nat,h4];exact e
 ·rw [show (Wh.four x)[1]=Wh.byt (x / 65536) from rfl,Wh.byt_nat];exact e
 ·rw [show (Wh.four x)[2]=Wh.byt (x / 256) from rfl,Wh.byt_nat];exact e
 ·rw [show (Wh.four x)[3]=Wh.byt x from rfl,Wh.byt_nat];exact e
theorem four_crc (x:Int) (w:World) (h0:0<=x) (h1:x<=4294967295):Calls Tryz.prog 177 #[.int .u32 x] w fun e w'=>e=.returned (.string (Wh.B (Wh.four x)))/\Fresh w w':=by
 have hcv:=four_conv x w h0 h1
 generalize Wh.B (Wh.four x)=s at *
 go_enter Tryz.func177,Tryz.ntmps177
 go_wp2
 go_ret
 exact ⟨rfl,(Touch.refl _ _).alloc _⟩
theorem four_pdu (x:Int) (w:World) (h0:0<=x) (h1:x<=4294967295):Calls Tryz.prog 143 #[.int .u32 x] w fun e w'=>e=.returned (.string (Wh.B (Wh.four x)))/\Fresh w w':=by
 have hcv:=four_conv x w h0 h1
 generalize Wh.B (Wh.four x)=s at *
 go_enter Tryz.func143,Tryz.ntmps143
 go_wp2
 go_ret
 exact ⟨rfl,(Touch.refl _ _).alloc _⟩
namespace Wh
def bitStep (x:Int):Int:=bits .xor .u32 (x*2%4294967296) (79764919*(x / 2147483648))
def bitsN (x:Int):Nat->Int
 |0=>x
 |n+1=>bitStep (bitsN x n)
def row (i:Nat):Int:=bitsN ((i:Int)*16777216) 8
def TAB:List Value:=(List.range 256).map fun i=>.int .u32 (row i)
theorem bitsN_in (x:Int) (h:0<=x/\x<=4294967295) (n:Nat):0<=bitsN x n/\bitsN x n<=4294967295:=by
 cases n with
 |zero=>exact h
 |succ n=>exact xor32_in _ _
theorem TAB_len:TAB.length=256:=by simp [TAB]
theorem TAB_at (i:Nat) (h:i<256):TAB[i]?=some (.int .u32 (row i)):=by simp [TAB,h]
def tabTo (n:Nat):List Value:=(List.range 256).map fun i=>.int .u32 (if i<n then row i else 0)
theorem tabTo_256:tabTo 256=TAB:=by
 unfold tabTo TAB
 apply List.map_congr_left
 intro i hi
 rw [if_pos (List.mem_range.1 hi)]
theorem tabTo_len (n:Nat):(tabTo n).length=256:=by simp [tabTo]
theorem tabTo_set (n:Nat) (h:n<256):(tabTo n).set n (.int .u32 (row n))=tabTo (n+1):=by
 apply List.ext_getElem?
 intro i
 rw [List.getElem?_set]
 by_cases hi:n=i
 ·subst hi
  simp [tabTo,h]
 ·rw [if_neg hi]
  by_cases h2:i<256
  ·simp only [tabTo,List.getElem?_map,List.getElem?_range h2,Option.map_some]
   by_cases h3:i<n
   ·rw [if_pos h3,if_pos (by omega)]
   ·rw [if_neg h3,if_neg (by omega)]
  ·rw [List.getElem?_eq_none (by rw [tabTo_len];omega),List.getElem?_eq_none (by rw [tabTo_len];omega)]
end Wh
theorem infoTab:(Tryz.prog.info? 175).map (·.size)=some Wh.TAB.toArray.size:=by
 have h:(Tryz.prog.info? 175).map (·.size)=some 256:=by kernel_rfl
 rw [h,List.size_toArray,Wh.TAB_len]
theorem oneTab:∀ v ∈ Wh.TAB,v.oneCell'=true:=by
 intro v hv
 obtain ⟨i,_,rfl⟩:=List.mem_map.1 hv
 rfl
set_option maxRecDepth 10000 in
theorem make_any (w:World):Calls Tryz.prog 59 #[] w fun e w'=>e=.returned (.agg Wh.TAB.toArray)/\Fresh w w':=by
 have HZ:Hid (Tryz.zeroCells175=(Wh.tabTo 0).toArray):=by
  show Tryz.zeroCells175=(Wh.tabTo 0).toArray
  kernel_rfl
 have HB0:Hid (Blk ((w.alloc (.cells Tryz.zeroCells175 175)).alloc (.cells Tryz.zeroCells175 175)) w.heap.size 175 (Wh.tabTo 0)):=by
  rw [HZ.out]
  exact (Blk.new w _ _).alloc _
 have HB1:Hid (Blk ((w.alloc (.cells Tryz.zeroCells175 175)).alloc (.cells Tryz.zeroCells175 175)) (w.heap.size+1) 175 (Wh.tabTo 0)):=by
  rw [HZ.out]
  have:=Blk.new (w.alloc (.cells (Wh.tabTo 0).toArray 175)) 175 (Wh.tabTo 0)
  rw [show (w.alloc (.cells (Wh.tabTo 0).toArray 175)).heap.size=w.heap.size+1 by simp] at this
  exact this
 have HF:Hid (Fresh w ((w.alloc (.cells Tryz.zeroCells175 175)).alloc (.cells Tryz.zeroCells175 175))):=((Touch.refl _ w).alloc _).alloc _
 go_enter Tryz.func59,Tryz.ntmps59
 go_wp2
 generalize ((w.alloc (.cells Tryz.zeroCells175 175)).alloc (.cells Tryz.zeroCells175 175))=wa at *
 have hge:∃ g,g=w.heap.size:=⟨_,rfl⟩
 obtain ⟨g,hg⟩:=hge
 rw [<- hg] at HB0 HB1 ⊢
 have HG:=lh hg
 clear hg HZ
 go_loopw [5] (fun i wr=>∃ k:Nat,k<=256/\i=.int .i64 k/\Hid (Blk wr g 175 (Wh.tabTo 0))/\Hid (Blk wr (g+1) 175 (Wh.tabTo k))/\Hid (Fresh w wr)) (fun i _=>256-(intOf i).toNat)
 case atStart=>exact ⟨0,by omega,rfl,HB0,HB1,HF⟩
 case round =>
  obtain ⟨k,hk,rfl,hb0,hb1,hf⟩:=hrel
  by_cases hlt:k<256
  ·obtain ⟨wo,hwo⟩:∃ wo:World,wo=wr:=⟨_,rfl⟩
   subst hwo
   go_wp2
   go_loop [3,11] (fun x j=>∃ n:Nat,n<=8/\j=.int .i64 n/\x=.int .u32 (Wh.bitsN ((k:Int)*16777216) n)) (fun _ j=>8-(intOf j).toNat)
   case atStart=>exact ⟨0,by omega,rfl,rfl⟩
   case round =>
    obtain ⟨n,hn,rfl,rfl⟩:=hrel
    have hin:=Wh.bitsN_in ((k:Int)*16777216) (by omega) n
    have HS:Hid (Wh.bitsN ((k:Int)*16777216) (n+1)=Wh.bitStep (Wh.bitsN ((k:Int)*16777216) n)):=rfl
    obtain ⟨x,hx⟩:=xq (Wh.bitsN ((k:Int)*16777216) n)
    rw [<- hx] at hin HS ⊢
    have HX:=lh hx
    clear hx
    obtain ⟨hi0,hi1⟩:=hin
    by_cases hn8:n<8
    ·go_wp2
     go_round
     case rel=>exact ⟨n+1,by omega,by go_num,by rw [HS.out];rfl⟩
     case measure=>simp [intOf];omega
    ·obtain rfl:n=8:=by omega
     have hc:=hb1.out.cell k
     rw [List.getElem?_eq_getElem (by rw [Wh.tabTo_len];exact hlt)] at hc
     have hfz:=hb1.out.frozen k
     have HN:Hid (Blk (wo.setCell ⟨g+1,k,none⟩ (.int .u32 x)) (g+1) 175 (Wh.tabTo (k+1))):=by
      have:=hb1.out.set k (.int .u32 x)
      rw [HX.out,show Wh.bitsN ((k:Int)*16777216) 8=Wh.row k from rfl,Wh.tabTo_set k hlt] at this
      rw [HX.out]
      exact this
     have H0:Hid (Blk (wo.setCell ⟨g+1,k,none⟩ (.int .u32 x)) g 175 (Wh.tabTo 0)):=hb0.out.far (by show g ≠ g+1;omega) _
     have HT:Hid (Fresh w (wo.setCell ⟨g+1,k,none⟩ (.int .u32 x))):=hf.out.setCell (fun h=>by have:=HG.out;simp at h;omega) _
     clear hb0 hb1 hf
     go_wp2
     go_roundw
     case rel=>exact ⟨k+1,by omega,by go_num,H0,HN,HT⟩
     case measure=>simp [intOf];omega
  ·obtain rfl:k=256:=by omega
   rw [Wh.tabTo_256] at hb1
   have HI:=lh infoTab
   have ho:=oneTab
   have hlen:=Wh.TAB_len
   obtain ⟨T,hT⟩:=xq Wh.TAB
   rw [<- hT] at hb1 HI ho hlen
   have HE:=lh hT
   clear hT
   have hst:(storeCells ⟨g,0,none⟩ T).run Tryz.prog wr=.ok () (wr.setRow g T.toArray):=by
    have:=run_storeCells_from (P:=Tryz.prog) g 175 T 0 (Wh.tabTo 0).toArray wr hb0.out (by rw [List.size_toArray,Wh.tabTo_len,hlen]) ho
    rw [List.take_zero,List.nil_append] at this
    exact this
   have HS:Hid ((wr.setRow g T.toArray).heap[g]?=some (.cells T.toArray 175 (0,0))):=setRow_heap wr g _ _ _ _ hb0.out
   have HT:Hid (Fresh w (wr.setRow g T.toArray)):=⟨hf.out.os,hf.out.tape,hf.out.output,by simpa using hf.out.size,fun k hk hs=>(setRow_other wr g k _ (fun e=>by have:=HG.out;omega)).trans (hf.out.block k hk hs)⟩
   have HU:=lh Tryz.underlying175
   have HB:=lh hb1.out
   clear hb0 hb1 hf HB0 HB1 HF ho
   go_wp2_with fail
   refine wp_load_row _ _ rfl (g+1) rfl 175 T.toArray (0,0) _ HB.out HU.out rfl HI.out ?_
   go_wp2_with fail
   exact bodyPost_ret (v:=.agg T.toArray) (results_cell_row (p:=0) rfl _ _ g 175 _ (0,0) _ rfl HS.out HU.out rfl HI.out) rfl ⟨by rw [HE.out],HT.out⟩
theorem bit6_any (b:Bool) (w:World):Calls Tryz.prog 144 #[.bool b] w fun e w'=>e=.returned (.int .u32 (if b then 1 else 0))/\w=w':=by
 cases b
 ·go_enter Tryz.func144,Tryz.ntmps144
  go_wp2
  go_ret
  exact ⟨rfl,rfl⟩
 ·go_enter Tryz.func144,Tryz.ntmps144
  go_wp2
  go_ret
  exact ⟨rfl,rfl⟩
set_option maxRecDepth 10000 in
theorem at6_core (s:ByteArray) (a:Nat) (x:Int) (w:World) (h0:0<=x) (h1:x<=4294967295) (hz:s.size=a+4) (ha:a<=1000000)
  (g0:((s[a]'(by omega)).toNat:Int)=x / 16777216) (g1:((s[a+1]'(by omega)).toNat:Int)=x / 65536%256) (g2:((s[a+2]'(by omega)).toNat:Int)=x / 256%256) (g3:((s[a+3]'(by omega)).toNat:Int)=x%256) :
  Calls Tryz.prog 186 #[.string s,.int .i64 a] w fun e w'=>e=.returned (.int .u32 x)/\Fresh w w':=by
 have o1:bits .or .u32 (x / 16777216*16777216) (x / 65536%256*65536)=x / 65536*65536:=by
  rw [Wh.or_add _ _ 24 (by omega) (by omega) (by omega) (by omega) (by omega) (by omega)]
  omega
 have o2:bits .or .u32 (x / 65536*65536) (x / 256%256*256)=x / 256*256:=by
  rw [Wh.or_add _ _ 16 (by omega) (by omega) (by omega) (by omega) (by omega) (by omega)]
  omega
 have o3:bits .or .u32 (x / 256*256) (x%256)=x:=by
  rw [Wh.or_add _ _ 8 (by omega) (by omega) (by omega) (by omega) (by omega) (by omega)]
  omega
 go_enter Tryz.func186,Tryz.ntmps186
 go_wp2
 have i1:IntKind.i64.wrap ((a:Int)+1)=(a:Int)+1:=IntWalk.i64_in _ (by omega)
 have i2:IntKind.i64.wrap ((a:Int)+2)=(a:Int)+2:=IntWalk.i64_in _ (by omega)
 have i3:IntKind.i64.wrap ((a:Int)+3)=(a:Int)+3:=IntWalk.i64_in _ (by omega)
 have t1:((a:Int)+1).toNat=a+1:=by omega
 have t2:((a:Int)+2).toNat=a+2:=by omega
 have t3:((a:Int)+3).toNat=a+3:=by omega
 have p1:(0:Int)<=(a:Int)+1:=by omega
 have p2:(0:Int)<=(a:Int)+2:=by omega
 have p3:(0:Int)<=(a:Int)+3:=by omega
 go_quiet (fail)
 clear i1 i2 i3 t1 t2 t3 p1 p2 p3
 go_wp2
 go_ret
 exact ⟨rfl,(Touch.refl _ _).drewN _⟩
theorem at6_any (l:List UInt8) (x:Int) (w:World) (h0:0<=x) (h1:x<=4294967295) (hl:l.length<=1000000) :
  Calls Tryz.prog 186 #[.string (Wh.B (l++Wh.four x)),.int .i64 l.length] w fun e w'=>e=.returned (.int .u32 x)/\Fresh w w':=by
 have hz:(Wh.B (l++Wh.four x)).size=l.length+4:=by rw [Wh.B_size,List.length_append,Wh.four_len]
 have hg:∀ (j:Nat) (b:UInt8) (h:l.length+j<(Wh.B (l++Wh.four x)).size),(Wh.four x)[j]?=some b->(Wh.B (l++Wh.four x))[l.length+j]=b:=by
  intro j b h hx
  rw [Wh.B_get]
  simp [List.getD,List.getElem?_append_right,hx]
 refine at6_core _ l.length x w h0 h1 hz hl ?_ ?_ ?_ ?_
 ·have:=hg 0 (Wh.byt (x / 16777216)) (by omega) rfl
  simp only [Nat.add_zero] at this
  rw [this,Wh.byt_nat]
  omega
 ·rw [hg 1 (Wh.byt (x / 65536)) (by omega) rfl,Wh.byt_nat]
 ·rw [hg 2 (Wh.byt (x / 256)) (by omega) rfl,Wh.byt_nat]
 ·rw [hg 3 (Wh.byt x) (by omega) rfl,Wh.byt_nat]
set_option maxRecDepth 10000 in
theorem take6_any (b:Nat) (l:List UInt8) (x:Int) (w:World) (hb:Blk w b 271 [.string (Wh.B (l++Wh.four x))]) (h0:0<=x) (h1:x<=4294967295) (hl:l.length<=1000000) :
  Calls Tryz.prog 151 #[.pointer (some ⟨b,0,none⟩)] w fun e w'=>e=.returned (.int .u32 x)/\Blk w' b 271 [.string (Wh.B l)]/\Touch (· = b) w w':=by
 have hz:(Wh.B (l++Wh.four x)).size=l.length+4:=by rw [Wh.B_size,List.length_append,Wh.four_len]
 have hx1:(Wh.B (l++Wh.four x)).extract 0 l.length=Wh.B l:=Wh.B_front _ _
 have HAT:=lh (at6_any l x w h0 h1 hl)
 have HB:=lh hb
 clear hb
 generalize Wh.B (l++Wh.four x)=s at *
 generalize l.length=n at *
 have c0:w.cell? ⟨b,0,none⟩=some (.string s):=HB.out.cell 0
 go_enter Tryz.func151,Tryz.ntmps151
 go_wp2_with fail
 refine HAT.out.mono ?_
 rintro e w2 ⟨rfl,f2⟩
 have HB2:Hid (Blk w2 b 271 [.string s]):=f2.blk HB.out (fun h=>h)
 have HT:Hid (Touch (· = b) w w2):=f2.mono (fun _ _ h=>h.elim)
 clear f2 c0
 have c0:w2.cell? ⟨b,0,none⟩=some (.string s):=HB2.out.cell 0
 have z0:w2.frozen? ⟨b,0,none⟩=false:=HB2.out.frozen 0
 go_wp2
 go_ret
 exact ⟨rfl,by have:=HB2.out.set 0 (.string (Wh.B l));exact this,HT.out.st rfl⟩
namespace Wh
def upd (x:Int) (c:UInt8):Int:=bits .xor .u32 (x*256%4294967296) (row (bits .xor .u8 (x / 16777216) (c.toNat:Int)).toNat)
def sumL (l:List UInt8):Int:=l.foldl upd 4294967295
theorem upd_in (x:Int) (c:UInt8):0<=upd x c/\upd x c<=4294967295:=xor32_in _ _
theorem sumL_in (l:List UInt8):0<=sumL l/\sumL l<=4294967295:=by
 unfold sumL
 have:∀ (l:List UInt8) (x:Int),0<=x/\x<=4294967295->0<=l.foldl upd x/\l.foldl upd x<=4294967295:=by
  intro l
  induction l with
  |nil=>exact fun _ h=>h
  |cons c l ih=>exact fun x _=>ih _ (upd_in x c)
 exact this l _ (by omega)
theorem sumL_snoc (l:List UInt8) (c:UInt8):sumL (l++[c])=upd (sumL l) c:=by
 unfold sumL
 rw [List.foldl_append]
 rfl
def crcOf (l:List UInt8):Int:=bits .xor .u32 IntKind.u32.max (sumL l)
theorem crcOf_in (l:List UInt8):0<=crcOf l/\crcOf l<=4294967295:=xor32_in _ _
def Tab (w:World) (g:Nat):Prop:=∃ t,Blk w g t TAB
theorem Tab.cell {w:World} {g:Nat} (h:Tab w g) (i:Nat) (hi:i<256):w.cell? ⟨g,i,none⟩=some (.int .u32 (row i)):=by
 obtain ⟨t,h⟩:=h
 rw [h.cell,TAB_at i hi]
theorem Tab.fresh {w w':World} {g:Nat} (h:Tab w g) (f:Fresh w w'):Tab w' g:=by
 obtain ⟨t,h⟩:=h
 exact ⟨t,f.blk h (fun e=>e)⟩
end Wh
theorem take_snoc (s:ByteArray) (k:Nat) (h:k<s.size):s.data.toList.take (k+1)=s.data.toList.take k++[s[k]]:=by
 rw [List.take_succ_eq_append_getElem (by simpa using h)];rfl
set_option maxRecDepth 10000 in
theorem sum_any (g A:Nat) (s:ByteArray) (w:World) (ht:Wh.Tab w g) (hc:w.cell? ⟨A,0,none⟩=some (.string s)) (hs:s.size<=9223372036854775807) :
  Calls Tryz.prog 178 #[.pointer (some ⟨g,0,none⟩),.slice (some ⟨A,0,none⟩) 1 1] w fun e w'=>e=.returned (.int .u32 (Wh.crcOf s.data.toList))/\Fresh w w':=by
 have HT:=lh ht
 clear ht
 go_enter Tryz.func178,Tryz.ntmps178
 go_wp2
 go_loopw [5,11] (fun x i wr=>(i=.int .i64 0/\x=.int .u32 4294967295/\wr=w)\/(i=.int .i64 1/\x=.int .u32 (Wh.sumL s.data.toList)/\Hid (Fresh w wr))) (fun _ i _=>1-(intOf i).toNat)
 case atStart=>exact Or.inl ⟨rfl,rfl,rfl⟩
 case round =>
  rcases hrel with ⟨rfl,rfl,rfl⟩ | ⟨rfl,rfl,hf⟩
  ·obtain ⟨wo,hwo⟩:∃ wo:World,wo=wr:=⟨_,rfl⟩
   subst hwo
   go_wp2
   go_loopw [5,17] (fun x i wr=>∃ k:Nat,k<=s.size/\i=.int .i64 k/\x=.int .u32 (Wh.sumL (s.data.toList.take k))/\Hid (Fresh wo wr)) (fun _ i _=>s.size-(intOf i).toNat)
   case atStart=>exact ⟨0,Nat.zero_le _,rfl,rfl,Touch.refl _ _⟩
   case round =>
    obtain ⟨k,hk,rfl,rfl,hf⟩:=hrel
    by_cases hlt:k<s.size
    ·have hin:=Wh.sumL_in (s.data.toList.take k)
     have HS:Hid (Wh.sumL (s.data.toList.take (k+1))=Wh.upd (Wh.sumL (s.data.toList.take k)) s[k]):=by
      rw [take_snoc s k hlt,Wh.sumL_snoc]
      rfl
     obtain ⟨x,hx⟩:=xq (Wh.sumL (s.data.toList.take k))
     rw [<- hx] at hin HS ⊢
     clear hx
     obtain ⟨h0,h1⟩:=hin
     have hx8:=Wh.xor8_in (x / 16777216) (s[k].toNat:Int)
     obtain ⟨y,hy⟩:∃ y:Nat,bits .xor .u8 (x / 16777216) (s[k].toNat:Int)=(y:Int):=⟨(bits .xor .u8 (x / 16777216) (s[k].toNat:Int)).toNat,by omega⟩
     have hy2:y<256:=by omega
     have hct:=(HT.out.fresh hf.out).cell y hy2
     have HU:Hid (Wh.upd x s[k]=bits .xor .u32 (x*256%4294967296) (Wh.row y)):=by
      unfold Wh.upd
      rw [hy]
      rfl
     clear hx8
     go_wp2
     go_quiet (fail)
     have HF2:Hid (Fresh wo wr):=hf
     go_wp2
     go_roundw
     case rel=>exact ⟨k+1,by omega,by go_num,by rw [HS.out,HU.out],by first | exact HF2.out.drewN _ | exact HF2.out⟩
     case measure=>simp [intOf];omega
    ·obtain rfl:k=s.size:=by omega
     have hx:s.data.toList.take s.size=s.data.toList:=List.take_of_length_le (by rw [<- Lib.size_eq];omega)
     rw [hx]
     clear hx
     obtain ⟨x,hx⟩:=xq (Wh.sumL s.data.toList)
     rw [<- hx]
     have HX:=lh hx
     clear hx
     go_wp2
     go_roundw
     case rel=>exact Or.inr ⟨by go_num,by rw [HX.out],hf⟩
     case measure=>simp [intOf]
  ·have hin:=Wh.sumL_in s.data.toList
   obtain ⟨x,hx⟩:=xq (Wh.sumL s.data.toList)
   rw [<- hx] at hin ⊢
   have HX:=lh hx
   clear hx
   obtain ⟨h0,h1⟩:=hin
   have hsg:IntKind.u32.signed=false:=rfl
   go_wp2
   go_ret
   exact ⟨by rw [HX.out];rfl,hf.out⟩
namespace Wh
def sealL (l:List UInt8):List UInt8:=l++four (crcOf l)
theorem sealL_len (l:List UInt8):(sealL l).length=l.length+4:=by
 unfold sealL
 rw [List.length_append,four_len]
end Wh
theorem sum_lit (g:Nat) (l:List UInt8) (w:World) (ht:Wh.Tab w g) (hs:l.length<=1000000) :
  Calls Tryz.prog 178 #[.pointer (some ⟨g,0,none⟩),.slice (some ⟨w.heap.size,0,none⟩) 1 1] (w.alloc (.cells #[.string (Wh.B l)] 9)) fun e w'=>e=.returned (.int .u32 (Wh.crcOf l))/\Fresh w w':=by
 refine (sum_any g w.heap.size (Wh.B l) _ (ht.fresh ((Touch.refl _ _).alloc _)) ?_ (by rw [Wh.B_size];omega)).mono ?_
 ·exact (Blk.new w 9 [.string (Wh.B l)]).cell 0
 ·rintro e w' ⟨rfl,f⟩
  exact ⟨rfl,((Touch.refl _ _).alloc _).trans f (fun _ _ h=>h)⟩
set_option maxRecDepth 10000 in
theorem seal_any (g:Nat) (l:List UInt8) (w:World) (ht:Wh.Tab w g) (hs:l.length<=1000000) :
  Calls Tryz.prog 147 #[.pointer (some ⟨g,0,none⟩),.string (Wh.B l)] w fun e w'=>e=.returned (.string (Wh.B (Wh.sealL l)))/\Fresh w w':=by
 have HC:=lh (sum_lit g l w ht hs)
 have HE:Hid (Wh.B l++Wh.B (Wh.four (Wh.crcOf l))=Wh.B (Wh.sealL l)):=Wh.B_app _ _
 have hin:=Wh.crcOf_in l
 obtain ⟨h0,h1⟩:=hin
 have hz:(Wh.B l).size<=1000000:=by rw [Wh.B_size];omega
 have hz4:(Wh.B (Wh.four (Wh.crcOf l))).size=4:=Wh.B_size _
 clear ht
 go_enter Tryz.func147,Tryz.ntmps147
 go_wp2_with fail
 refine HC.out.mono ?_
 rintro e w2 ⟨rfl,f2⟩
 have F2:=lh f2
 clear f2
 go_wp2_with fail
 refine (four_crc _ _ h0 h1).mono ?_
 rintro e w3 ⟨rfl,f3⟩
 have F3:=lh f3
 clear f3
 go_wp2
 go_ret
 exact ⟨by rw [<- HE.out];rfl,F2.out.trans F3.out (fun _ _ h=>h)⟩
set_option maxRecDepth 10000 in
theorem fits_any (g:Nat) (l:List UInt8) (w:World) (ht:Wh.Tab w g) (hs:l.length<=1000000) :
  Calls Tryz.prog 149 #[.pointer (some ⟨g,0,none⟩),.string (Wh.B (Wh.sealL l))] w fun e w'=>e=.returned (.bool true)/\Fresh w w':=by
 have hz:(Wh.B (Wh.sealL l)).size=l.length+4:=by rw [Wh.B_size,Wh.sealL_len]
 have hx1:(Wh.B (Wh.sealL l)).extract 0 l.length=Wh.B l:=Wh.B_front _ _
 have hx2:(Wh.B (Wh.sealL l)).extract l.length (l.length+4)=Wh.B (Wh.four (Wh.crcOf l)):=Wh.B_back _ _ _ (Wh.sealL_len l).symm
 have hin:=Wh.crcOf_in l
 obtain ⟨h0,h1⟩:=hin
 have HT:=lh ht
 clear ht
 obtain ⟨n,hn⟩:=xq l.length
 rw [<- hn] at hz hx1 hx2 hs
 have HN:=lh hn
 obtain ⟨s,hs'⟩:=xq (Wh.B (Wh.sealL l))
 rw [<- hs'] at hz hx1 hx2 ⊢
 clear hn hs'
 have b0:(0:Int)<=(n:Int):=by omega
 have b1:(n:Int)<=(n:Int)+4:=by omega
 go_enter Tryz.func149,Tryz.ntmps149
 go_wp2
 have hg0:decide ((0:Int)<=(n:Int))=true:=decide_eq_true b0
 have heq:((Wh.B (Wh.four (Wh.crcOf l))).toList==(Wh.B (Wh.four (Wh.crcOf l))).toList)=true:=by simp
 obtain ⟨c,hcv⟩:=xq (Wh.B (Wh.four (Wh.crcOf l)))
 rw [<- hcv] at hx2 heq
 have HCV:=lh hcv
 clear hcv
 have HSZ:Hid ((Wh.B l).size<=9223372036854775807):=by
  unfold Hid
  rw [Wh.B_size,<- HN.out]
  omega
 have HCL:Hid ((w.alloc (.cells #[.string (Wh.B l)] 9)).drew.cell? ⟨w.heap.size,0,none⟩=some (.string (Wh.B l))):=(Blk.new w 9 [.string (Wh.B l)]).cell 0
 go_region_held3 (fun wx=>Fresh w wx)
  (first
   |exact (Touch.refl _ _).drew
   |exact Touch.alloc (by assumption) _
   |exact FK.out)
  (first
   |(go_simp;go_at_call 178;refine (sum_any g _ _ _ (HT.out.fresh (by assumption)) HCL.out HSZ.out).mono ?_;rintro e w2 ⟨rfl,f2⟩;have FK:Hid (Fresh w w2):=Touch.trans (by assumption) f2 (fun _ _ h=>h);clear f2)
   |(go_simp;go_at_call 177;refine (four_crc _ _ h0 h1).mono ?_;rintro e w3 ⟨rfl,f3⟩;have FK3:Hid (Fresh w w3):=FK.out.trans f3 (fun _ _ h=>h);clear FK;have FK:=FK3;clear FK3 f3;rw [<- HCV.out]))
 go_wp2
 go_ret
 exact ⟨rfl,FK.out⟩
end Go.Proofs.YtlbopdfobgjjaaaGreatDoor

/-
  strings.Builder at this seat: WriteString and String, and what keeps a builder · frame: Cells, Bytes, and Parse of what Bytes made.
-/
import Derived.Test.YtlbopdfobgjjaaaGreatDoorWhP
import Derived.Test.YtlbopdfobgjjaaaGreatDoorLayW
import Derived.Test.YtlbopdfobgjjaaaGreatDoorCrcF
import Derived.Lib.Repeat
import Derived.Lib.SlTrimSet
set_option maxHeartbeats 2000000
namespace Go.Proofs.YtlbopdfobgjjaaaGreatDoor
open Go.RowKit
def Bd (B b:Nat) (l:List UInt8) (w:World):Prop:=Lib.IsBuilderF 256 5 B b (Lib.byteCells l) w
theorem Bd.new (w:World):Bd w.heap.size w.heap.size [] (w.alloc (.cells #[.pointer none,.slice none 0 0] 256)):=Lib.IsBuilderF.of (Lib.fresh_isBuilder _ _ w)
theorem BdAt.fresh {T e:TypeId} {B b:Nat} {p:Value} {bs:List Value} {w w':World} (h:Lib.BuilderAtF T e B b p bs w) (f:Fresh w w'):Lib.BuilderAtF T e B b p bs w':=by
 have hlt:=h.lt
 obtain ⟨hB,v,hb,hown,hne⟩:=h
 refine ⟨hB,v,(f.block b hlt (fun e=>e)).trans hb,hown.kept (f.grownBy (r:=none) (fun _ _ h=>h.elim)) ?_,hne⟩
 cases hv:v.ownBlock <;> simp
theorem Bd.fresh {B b:Nat} {l:List UInt8} {w w':World} (h:Bd B b l w) (f:Fresh w w'):Bd B b l w':=h.elim (fun x=>.inl (BdAt.fresh x f)) (fun x=>.inr (BdAt.fresh x f))
structure BdKept (B b:Nat) (w w':World):Prop where
 below:Below B w w'
 others:Lib.OthersKept 5 (some b) w w'
theorem BdKept.fresh {B b:Nat} {w0 w w':World} (h:BdKept B b w w') (f:Fresh w0 w) (hB:w0.heap.size<=B):Fresh w0 w':=
 ⟨h.below.os.trans f.os,h.below.tape.trans f.tape,h.below.output.trans f.output,Nat.le_trans f.size h.below.size,fun k hk hs=>(h.below.block k (by omega)).trans (f.block k hk hs)⟩
theorem BdKept.blk {B b g:Nat} {t:TypeId} {cs:List Value} {w w':World} (h:BdKept B b w w') (hb:Blk w g t cs) (hg:g ≠ b) (ht:t ≠ 5):Blk w' g t cs:=
 h.others g _ hb (fun e=>hg (Option.some.inj e)) (fun c fz e=>by injection e with _ e2 _;exact ht e2)
theorem BdKept.sl {α:Type} {E:El α} {A:Option Addr} {c:Nat} {L:List α} {B b:Nat} {w w':World} (h:BdKept B b w w') (hs:Sl E w A c L) (hA:∀ ad,A=some ad->ad.block ≠ b) (ht:E.e ≠ 5):Sl E w' A c L:=by
 refine hs.keep fun ad ha=>?_
 obtain ⟨_,cs,hb,_⟩:=hs.2.2.2 ad ha
 exact (h.blk hb (hA ad ha) ht).trans hb.symm
theorem wrs_any (B b:Nat) (l m:List UInt8) (w:World) (h:Bd B b l w) (hl:l.length+m.length<=1000000) (hB:B<=w.heap.size) :
  Calls Tryz.prog 140 #[.pointer (some ⟨b,0,none⟩),.string (Wh.B m)] w fun e w'=>e=.returned (.tuple #[.int .i64 (m.length:Int),.nilIface])/\Bd B b (l++m) w'/\BdKept B b w w':=by
 refine (Any.Builder_WriteString_k ({ Tryz.lays105 with }:Lays.n166 Tryz.prog Tryz.lays105_ren) Tryz.Builder_Extra_105 B b (Lib.byteCells l) (Wh.B m) w h (by rw [Lib.byteCells_length,Wh.B_size];omega) hB).mono ?_
 rintro e w' ⟨rfl,h1,h2,h3⟩
 refine ⟨by rw [Wh.B_size],.inr ?_,h2,h3⟩
 rw [Lib.byteCells_append]
 exact h1
theorem bstr_any (B b:Nat) (l:List UInt8) (w:World) (h:Bd B b l w) (hB:B<=w.heap.size) :
  Calls Tryz.prog 145 #[.pointer (some ⟨b,0,none⟩)] w fun e w'=>e=.returned (.string (Wh.B l))/\BdKept B b w w':=by
 refine (Tryz.Builder_String_any_k B b l w h hB).mono ?_
 rintro e w' ⟨rfl,_,h2,h3⟩
 exact ⟨rfl,h2,h3⟩
namespace Wh
def cells (n:Nat):Nat:=(n+7) / 48+1
def padN (n:Nat):Nat:=cells n*48-8-n
theorem cells_pad (n:Nat):n+padN n+8=cells n*48:=by unfold padN cells;omega
def headL (u:Int) (n:Nat):List UInt8:=[byt u,0,byt (n / 256),byt n]
def innerL (u:Int) (d:List UInt8):List UInt8:=d++(List.replicate (padN d.length) 0++headL u d.length)
def frameL (u:Int) (d:List UInt8):List UInt8:=sealL (innerL u d)
theorem innerL_len (u:Int) (d:List UInt8):(innerL u d).length=cells d.length*48-4:=by
 have:=cells_pad d.length
 unfold innerL
 simp only [List.length_append,List.length_replicate]
 show _+(_+4)=_
 omega
theorem frameL_len (u:Int) (d:List UInt8):(frameL u d).length=cells d.length*48:=by
 have:=cells_pad d.length
 unfold frameL
 rw [sealL_len,innerL_len]
 omega
end Wh
theorem ret_int {k:IntKind} {a b:Int} (h:a=b):Ending.returned (.int k a)=.returned (.int k b):=by rw [h]
theorem cells_any (n:Nat) (w:World) (h:n<=65535):Calls Tryz.prog 146 #[.int .i64 n] w fun e w'=>e=.returned (.int .i64 ((Wh.cells n:Nat):Int))/\w=w':=by
 have hm:max (n:Int) 0=(n:Int):=by omega
 go_enter Tryz.func146,Tryz.ntmps146
 go_wp2
 go_ret
 exact ⟨ret_int (by unfold Wh.cells;omega),rfl⟩
theorem head_conv (u:Int) (n:Nat) (w:World) (u0:0<=u) (u1:u<=255) (hn:n<=65535) :
  (convert 215 9 (.slice (some ⟨w.heap.size,0,none⟩) 4 4)).run Tryz.prog (w.alloc (.cells #[.int .u8 u,.int .u8 0,.int .u8 ((n:Int) / 256),.int .u8 ((n:Int)%256)] 5)) =
   .ok (.string (Wh.B (Wh.headL u n))) (w.alloc (.cells #[.int .u8 u,.int .u8 0,.int .u8 ((n:Int) / 256),.int .u8 ((n:Int)%256)] 5)):=by
 have hb:=Blk.new w 5 [.int .u8 u,.int .u8 0,.int .u8 ((n:Int) / 256),.int .u8 ((n:Int)%256)]
 refine run_convert_bytes_back (P:=Tryz.prog) _ 215 9 5 ⟨w.heap.size,0,none⟩ 4 (Wh.headL u n) Tryz.underlying215 Tryz.underlying5 Tryz.underlying9 (fun j hj=>?_)
 rw [Addr.add_lit,Nat.zero_add]
 have e:=hb.cell j
 have hj4:j<4:=hj
 rcases (show j=0\/j=1\/j=2\/j=3 by omega) with rfl | rfl | rfl | rfl
 ·rw [show (Wh.headL u n)[0]=Wh.byt u from rfl,Wh.byt_nat,show u%256=u by omega];exact e
 ·exact e
 ·rw [show (Wh.headL u n)[2]=Wh.byt (n / 256) from rfl,Wh.byt_nat,show (n:Int) / 256%256=(n:Int) / 256 by omega];exact e
 ·rw [show (Wh.headL u n)[3]=Wh.byt n from rfl,Wh.byt_nat];exact e
set_option maxRecDepth 10000 in
theorem fbytes_any (g:Nat) (u:Int) (d:List UInt8) (w:World) (ht:Wh.Tab w g) (u0:0<=u) (u1:u<=255) (hd:d.length<=10000) :
  Calls Tryz.prog 88 #[.agg #[.int .u8 u,.string (Wh.B d)],.pointer (some ⟨g,0,none⟩)] w fun e w'=>e=.returned (.tuple #[.string (Wh.B (Wh.frameL u d)),.int .i64 0])/\Fresh w w':=by
 have hz:(Wh.B d).size=d.length:=Wh.B_size d
 have hk:=Wh.cells_pad d.length
 have hcp:(((Wh.cells d.length:Nat):Int)*48-8-((d.length:Nat):Int))=((Wh.padN d.length:Nat):Int):=by omega
 have hcu:Wh.cells d.length<=1000:=by unfold Wh.cells;omega
 have HR:Hid (∀ W,Calls Tryz.prog 141 #[.string ⟨#[0]⟩,.int .i64 ((Wh.padN d.length:Nat):Int)] W fun e w'=>e=.returned (.string (Wh.B (List.replicate (Wh.padN d.length) 0)))/\Fresh W w'):=by
  intro W
  refine (Tryz.strings_Repeat ⟨#[0]⟩ (Wh.padN d.length) W (by omega) (by show 1*_<=_;omega)).mono ?_
  rintro e w' ⟨rfl,hb⟩
  refine ⟨?_,Touch.of_below hb fun _ hk _=>hk⟩
  have:=Lib.repeatL_replicate 0 1 (Wh.padN d.length)
  rw [Nat.mul_one] at this
  show Ending.returned (Value.string ⟨(Lib.repeatL (List.replicate 1 0) (Wh.padN d.length)).toArray⟩)=_
  rw [this]
  rfl
 have HIN:Hid (Wh.B d++Wh.B (List.replicate (Wh.padN d.length) 0)++Wh.B (Wh.headL u d.length)=Wh.B (Wh.innerL u d)):=by
  show _=_
  rw [Wh.B_app,Wh.B_app,List.append_assoc]
  rfl
 have HHC:=lh (head_conv u d.length · u0 u1 (by omega))
 have HSL:Hid (∀ W,Wh.Tab W g->Calls Tryz.prog 147 #[.pointer (some ⟨g,0,none⟩),.string (Wh.B (Wh.innerL u d))] W fun e w'=>e=.returned (.string (Wh.B (Wh.frameL u d)))/\Fresh W w'):=fun W h=>seal_any g _ W h (by rw [Wh.innerL_len];omega)
 have HT:=lh ht
 clear ht
 generalize Wh.padN d.length=k at *
 have HCE:=lh (cells_any d.length · (by omega))
 obtain ⟨c,hc⟩:=xq (Wh.cells d.length)
 rw [<- hc] at hk hcp hcu HCE
 have HCC:=lh hc
 clear hc
 have HB:Hid (Blk (w.alloc (.cells #[.int .u8 u,.string (Wh.B d)] 212)) w.heap.size 212 [.int .u8 u,.string (Wh.B d)]):=Blk.new _ _ _
 have HF:Hid (Fresh w (w.alloc (.cells #[.int .u8 u,.string (Wh.B d)] 212))):=(Touch.refl _ w).alloc _
 have HK:=lh hk
 clear hk
 go_enter Tryz.func88,Tryz.ntmps88
 go_wp2_with fail
 refine (HCE.out _).mono ?_
 rintro e w1 ⟨rfl,rfl⟩
 go_wp2_with fail
 refine (HR.out _).mono ?_
 rintro e w2 ⟨rfl,f2⟩
 have HB2:Hid (Blk w2 w.heap.size 212 [.int .u8 u,.string (Wh.B d)]):=f2.blk HB.out (fun h=>h)
 have HF2:Hid (Fresh w w2):=HF.out.trans f2 (fun _ _ h=>h)
 clear HB HF f2
 have c0:w2.cell? ⟨w.heap.size,0,none⟩=some (.int .u8 u):=HB2.out.cell 0
 have c1:w2.cell? ⟨w.heap.size,1,none⟩=some (.string (Wh.B d)):=HB2.out.cell 1
 have hhc:=HHC.out w2
 have hzk:(Wh.B (List.replicate k 0)).size=k:=by rw [Wh.B_size,List.length_replicate]
 have hzh:(Wh.B (Wh.headL u d.length)).size=4:=Wh.B_size _
 have hin:=HIN.out
 have hk1:k<=1000*48:=by have:=HK.out;omega
 have HF3:Hid (Fresh w (w2.alloc (.cells #[.int .u8 u,.int .u8 0,.int .u8 ((d.length:Int) / 256),.int .u8 ((d.length:Int)%256)] 5))):=HF2.out.alloc _
 have d1:(w2.alloc (.cells #[.int .u8 u,.int .u8 0,.int .u8 ((d.length:Int) / 256),.int .u8 ((d.length:Int)%256)] 5)).cell? ⟨w.heap.size,1,none⟩=some (.string (Wh.B d)):=(HB2.out.alloc _).cell 1
 go_wp2_with fail
 refine (HSL.out _ (HT.out.fresh HF3.out)).mono ?_
 rintro e w4 ⟨rfl,f4⟩
 have HF4:Hid (Fresh w w4):=HF3.out.trans f4 (fun _ _ h=>h)
 clear f4
 go_wp2
 go_ret2
 exact ⟨rfl,HF4.out⟩
theorem B_at {x:UInt8} (l:List UInt8) (i:Nat) (h:i<(Wh.B l).size) (h2:l[i]?=some x):(Wh.B l)[i]=x:=by
 rw [Wh.B_get]
 simp [List.getD,h2]
set_option maxRecDepth 10000 in
theorem fparse_core (g a c k:Nat) (u:Int) (d:List UInt8) (s:ByteArray) (w:World) (ht:Wh.Tab w g) (_u0:0<=u) (_u1:u<=255) (hd:d.length<=10000) (hc1:1<=c) (hc2:c<=1000)
  (hz:s.size=a+8) (hcell:(c:Int)*48=(a:Int)+8) (hmod:((a:Int)+8)%48=0) (hna:d.length+k=a)
  (HFI:Hid (∀ W,Wh.Tab W g->Calls Tryz.prog 149 #[.pointer (some ⟨g,0,none⟩),.string s] W fun e w'=>e=.returned (.bool true)/\Fresh W w'))
  (g0:((s[a]'(by omega)).toNat:Int)=u) (g1:(s[a+1]'(by omega)).toNat=0) (g2:((s[a+2]'(by omega)).toNat:Int)=(d.length:Int) / 256) (g3:((s[a+3]'(by omega)).toNat:Int)=(d.length:Int)%256)
  (hx1:s.extract 0 d.length=Wh.B d) (hx2:s.extract d.length a=Wh.B (List.replicate k 0)) (hne:s.toList.isEmpty=false)
  (hor:bits .or .i64 ((d.length:Int) / 256*256) ((d.length:Int)%256)=(d.length:Int))
  (HTR:Hid (∀ W,Calls Tryz.prog 150 #[.string (Wh.B (List.replicate k 0)),.string ⟨#[0]⟩] W fun e w'=>e=.returned (.string (Wh.B []))/\Fresh W w'))
  (HCE:Hid (∀ W,Calls Tryz.prog 146 #[.int .i64 d.length] W fun e w'=>e=.returned (.int .i64 (c:Int))/\W=w')) :
  Calls Tryz.prog 92 #[.pointer (some ⟨g,0,none⟩),.string s] w fun e w'=>e=.returned (.tuple #[.agg #[.int .u8 u,.string (Wh.B d)],.int .i64 0])/\Fresh w w':=by
 have HT:=lh ht
 clear ht
 go_enter Tryz.func92,Tryz.ntmps92
 have HB:Hid (Blk (w.alloc (.cells #[.int .u8 0,.string ⟨#[]⟩] 212)) w.heap.size 212 [.int .u8 0,.string ⟨#[]⟩]):=Blk.new _ _ _
 have HF:Hid (Fresh w (w.alloc (.cells #[.int .u8 0,.string ⟨#[]⟩] 212))):=(Touch.refl _ w).alloc _
 go_wp2_with fail
 refine (HFI.out _ (HT.out.fresh HF.out)).mono ?_
 rintro e w2 ⟨rfl,f2⟩
 have HB2:Hid (Blk w2 w.heap.size 212 [.int .u8 0,.string ⟨#[]⟩]):=f2.blk HB.out (fun h=>h)
 have HF2:Hid (Fresh w w2):=HF.out.trans f2 (fun _ _ h=>h)
 clear HB HF f2
 go_wp2_with fail
 have i2:IntKind.i64.wrap ((a:Int)+2)=(a:Int)+2:=IntWalk.i64_in _ (by omega)
 have i3:IntKind.i64.wrap ((a:Int)+3)=(a:Int)+3:=IntWalk.i64_in _ (by omega)
 have t2:((a:Int)+2).toNat=a+2:=by omega
 have t3:((a:Int)+3).toNat=a+3:=by omega
 have p2:(0:Int)<=(a:Int)+2:=by omega
 have p3:(0:Int)<=(a:Int)+3:=by omega
 go_quiet (fail)
 clear i2 i3 t2 t3 p2 p3
 go_wp2_with fail
 refine (HCE.out _).mono ?_
 rintro e w3 ⟨rfl,rfl⟩
 have hna1:(d.length:Int)<=(a:Int):=by omega
 have hBn:(Wh.B []).toList.isEmpty=true:=by rw [Lib.toList_data];rfl
 go_wp2_with fail
 refine (HTR.out _).mono ?_
 rintro e w4 ⟨rfl,f4⟩
 have HB4:Hid (Blk w4 w.heap.size 212 [.int .u8 0,.string ⟨#[]⟩]):=f4.blk HB2.out (fun h=>h)
 have HF4:Hid (Fresh w w4):=HF2.out.trans ((Touch.refl _ _).drewN _ |>.trans f4 (fun _ _ h=>h)) (fun _ _ h=>h)
 clear HB2 HF2 f4
 have c0:=HB4.out.cell 0
 have c1:=HB4.out.cell 1
 have z0:=HB4.out.frozen 0
 have z1:=HB4.out.frozen 1
 simp only [List.getElem?_cons_zero,List.getElem?_cons_succ] at c0 c1
 go_wp2_with fail
 go_region
 all_goals
  go_wp2_with fail
  refine bodyPost_ret (v:=.tuple #[.agg #[.int .u8 u,.string (Wh.B d)],.int .i64 0]) (by simp [results,Tryz.results92,go_sem,c0,c1]) rfl ⟨rfl,?_⟩
  exact (((HF4.out.setCell (fun h=>absurd h (Nat.lt_irrefl _)) _).setCell (fun h=>absurd h (Nat.lt_irrefl _)) _)).drew
set_option maxRecDepth 10000 in
theorem fparse_any (g:Nat) (u:Int) (d:List UInt8) (w:World) (ht:Wh.Tab w g) (u0:0<=u) (u1:u<=255) (hd:d.length<=10000) :
  Calls Tryz.prog 92 #[.pointer (some ⟨g,0,none⟩),.string (Wh.B (Wh.frameL u d))] w fun e w'=>e=.returned (.tuple #[.agg #[.int .u8 u,.string (Wh.B d)],.int .i64 0])/\Fresh w w':=by
 have HZ:=lh (Wh.frameL_len u d)
 have hcp:=Wh.cells_pad d.length
 have hcu:1<=Wh.cells d.length/\Wh.cells d.length<=1000:=by unfold Wh.cells;omega
 obtain ⟨hc1,hc2⟩:=hcu
 obtain ⟨a,ha⟩:∃ a,Wh.cells d.length*48=a+8:=⟨Wh.cells d.length*48-8,by omega⟩
 have hz:(Wh.B (Wh.frameL u d)).size=a+8:=by rw [Wh.B_size,Wh.frameL_len,ha]
 have hcell:((Wh.cells d.length:Nat):Int)*48=(a:Int)+8:=by omega
 have hmod:((a:Int)+8)%48=0:=by omega
 have hna:d.length+Wh.padN d.length=a:=by omega
 have HFI:Hid (∀ W,Wh.Tab W g->Calls Tryz.prog 149 #[.pointer (some ⟨g,0,none⟩),.string (Wh.B (Wh.frameL u d))] W fun e w'=>e=.returned (.bool true)/\Fresh W w'):=fun W h=>fits_any g _ W h (by rw [Wh.innerL_len];omega)
 have HSP:Hid (Wh.frameL u d=d++(List.replicate (Wh.padN d.length) 0++(Wh.headL u d.length++Wh.four (Wh.crcOf (Wh.innerL u d))))):=by
  show Wh.sealL (Wh.innerL u d)=_
  unfold Wh.sealL
  conv=>lhs;lhs;unfold Wh.innerL
  simp only [List.append_assoc]
 have HAT:Hid (∀ (j:Nat) (x:UInt8) (h:a+j<(Wh.B (Wh.frameL u d)).size),(Wh.headL u d.length)[j]?=some x->(Wh.B (Wh.frameL u d))[a+j]=x):=by
  intro j x h hx
  have hj4:j<4:=(List.getElem?_eq_some_iff.1 hx).1
  refine B_at _ _ h ?_
  rw [HSP.out,List.getElem?_append_right (by omega),List.getElem?_append_right (by simp;omega),List.getElem?_append_left (by simp;show _<4;omega)]
  rw [show a+j-d.length-(List.replicate (Wh.padN d.length) (0:UInt8)).length=j by simp;omega]
  exact hx
 have g0:((Wh.B (Wh.frameL u d))[a+0]'(by omega)).toNat=u.toNat:=by
  rw [HAT.out 0 (Wh.byt u) (by omega) rfl]
  have:=Wh.byt_nat u
  omega
 have g1:((Wh.B (Wh.frameL u d))[a+1]'(by omega)).toNat=0:=by
  rw [HAT.out 1 0 (by omega) rfl]
  rfl
 have g2:((Wh.B (Wh.frameL u d))[a+2]'(by omega)).toNat=d.length / 256:=by
  rw [HAT.out 2 (Wh.byt (d.length / 256)) (by omega) rfl]
  have:=Wh.byt_nat ((d.length:Int) / 256)
  omega
 have g3:((Wh.B (Wh.frameL u d))[a+3]'(by omega)).toNat=d.length%256:=by
  rw [HAT.out 3 (Wh.byt d.length) (by omega) rfl]
  have:=Wh.byt_nat (d.length:Int)
  omega
 have hx1:(Wh.B (Wh.frameL u d)).extract 0 d.length=Wh.B d:=by
  rw [HSP.out]
  exact Wh.B_front _ _
 have hx2:(Wh.B (Wh.frameL u d)).extract d.length a=Wh.B (List.replicate (Wh.padN d.length) 0):=by
  rw [HSP.out,Wh.B_extract,List.drop_left',List.take_left']
  ·simp;omega
  ·rfl
 have hor:bits .or .i64 ((d.length:Int) / 256*256) ((d.length:Int)%256)=(d.length:Int):=by
  rw [Wh.or_add64 _ _ 8 (by omega) (by omega) (by omega) (by omega) (by omega) (by omega)]
  omega
 have hne:(Wh.B (Wh.frameL u d)).toList.isEmpty=false:=by
  rw [Lib.toList_data,Wh.B_list]
  cases h:Wh.frameL u d with
  |nil=>have:=HZ.out;rw [h] at this;simp at this;omega
  |cons=>rfl
 have HTR:Hid (∀ W,Calls Tryz.prog 150 #[.string (Wh.B (List.replicate (Wh.padN d.length) 0)),.string ⟨#[0]⟩] W fun e w'=>e=.returned (.string (Wh.B []))/\Fresh W w'):=by
  intro W
  refine (Any.strings_Trim_laid Tryz.lays160 (by kernel_rfl) (Wh.B (List.replicate (Wh.padN d.length) 0)) ⟨#[0]⟩ W (by rw [Wh.B_size];simp;omega) (by decide) (ascii_of_all (by decide))).mono ?_
  rintro e w' ⟨rfl,hb⟩
  refine ⟨?_,Touch.of_below hb fun _ hk _=>hk⟩
  rw [Wh.B_list]
  show Ending.returned (Value.string ⟨(Lib.trimS (List.replicate (Wh.padN d.length) 0) [0]).toArray⟩)=_
  rw [show Lib.trimS (List.replicate (Wh.padN d.length) (0:UInt8)) [0]=[] from ?_]
  ·rfl
  ·unfold Lib.trimS Lib.trimLeftS Lib.trimRightS
   simp
 have HCE:=lh (cells_any d.length · (by omega))
 refine fparse_core g a (Wh.cells d.length) (Wh.padN d.length) u d _ w ht u0 u1 hd hc1 hc2 hz hcell hmod hna HFI ?_ g1 ?_ ?_ hx1 hx2 hne hor HTR HCE
 ·have:=g0
  simp only [Nat.add_zero] at this
  omega
 ·omega
 ·omega
end Go.Proofs.YtlbopdfobgjjaaaGreatDoor

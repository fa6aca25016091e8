/-
  wire.Wire: New, Pack, Open, Sound, Size · wire.Wire.Pack · wire.Wire.Open, Sound; wire.Size of a poll · wire.Wire.Open of a good frame; wire.Size of a poll.
-/
import Derived.Test.YtlbopdfobgjjaaaGreatDoorPar6
import Derived.Test.YtlbopdfobgjjaaaGreatDoorFrm
import Derived.Deep.RegionLaw
import Derived.Test.YtlbopdfobgjjaaaGreatDoorMapD
set_option maxHeartbeats 4000000
namespace Go.Proofs.YtlbopdfobgjjaaaGreatDoor
open Go.RowKit
theorem tab_size:Wh.TAB.toArray.size=256:=by kernel_rfl
theorem tab_fold:Array.foldl (fun (cs:Array Value) (x:Value × Nat)=>cs.setIfInBounds x.snd x.fst) Tryz.zeroCells178 Wh.TAB.toArray.zipIdx 0 256=Wh.TAB.toArray:=by kernel_rfl
theorem wnew_core (T:Array Value) (hT:T.size=256) (hfold:Array.foldl (fun (cs:Array Value) (x:Value × Nat)=>cs.setIfInBounds x.snd x.fst) Tryz.zeroCells178 T.zipIdx 0 256=T)
  (w:World) (hm:∀ W,Calls Tryz.prog 59 #[] W fun e w'=>e=.returned (.agg T)/\Fresh W w') :
  Calls Tryz.prog 29 #[] w fun e w'=>∃ w1,e=.returned (.pointer (some ⟨w1.heap.size,0,none⟩))/\w'=w1.alloc (.cells T 178)/\Fresh w w1:=by
 have HM:=lh hm
 have HFO:=lh hfold
 clear hm hfold
 go_enter Tryz.func29,Tryz.ntmps29
 go_wp2_with (go_at_call 59;refine (HM.out _).mono ?_;rintro e w1 ⟨rfl,hf1⟩;have HF:=lh hf1;clear hf1)
 exact bodyPost_ret (v:=.pointer (some ⟨w1.heap.size,0,none⟩)) (by simp [results,Tryz.results29,go_sem]) rfl ⟨w1,rfl,by rw [HFO.out],HF.out⟩
theorem Wh.bytes_len (p:Wh.P) (hck:Wh.ck p=0):(Wh.bytesS (Wh.shape p.kind) p).length<=10000:=by
 have hok:=Wh.ok_of _ _ hck
 have hds:=hok.dsize (Wh.shape_ok p.kind)
 have hl:=hok.ll
 rw [Wh.bytesS_len]
 have h1:Wh.pad p<=3:=by unfold Wh.pad;omega
 have h2:(Wh.wordsS (Wh.shape p.kind) p).length<=p.l.length+3:=by
  unfold Wh.wordsS
  simp only [List.length_append]
  have:∀ (b:Bool) (x:Int),(if b=true then [x] else ([]:List Int)).length<=1:=by intro b x;cases b <;> simp
  have a1:=this (Wh.shape p.kind).sq p.sq
  have a2:=this (Wh.shape p.kind).ps p.ps
  have a3:=this (Wh.shape p.kind).mr p.mr
  omega
 omega
set_option maxRecDepth 10000 in
theorem pack6_ok (g:Nat) (p:Wh.P) (A:Option Addr) (c:Nat) (w:World) (hr:Rd numE w A c p.l) (ht:Wh.Tab w g) (hck:Wh.ck p=0) :
  Calls Tryz.prog 40 #[.pointer (some ⟨g,0,none⟩),pV p A c] w fun e w'=>e=.returned (.tuple #[.string (Wh.B (Wh.frameL 0 (Wh.bytesS (Wh.shape p.kind) p))),.int .i64 0])/\Fresh w w':=by
 have HL:=lh (Wh.bytes_len p hck)
 have hok:=Wh.ok_of _ _ hck
 have hds:=hok.dsize (Wh.shape_ok p.kind)
 have HCK:Hid (∀ W,Fresh w W->Calls Tryz.prog 86 #[pV p A c] W fun e w'=>e=.returned (.int .i64 0)/\Fresh W w'):=fun W h=>by
  have:=check6_any p A c W (Rd.touch hr h (fun _ _ _ e=>e)) (by omega)
  rw [hck] at this
  exact this
 have HBY:Hid (∀ W,Fresh w W->Calls Tryz.prog 87 #[pV p A c] W fun e w'=>e=.returned (.string (Wh.B (Wh.bytesS (Wh.shape p.kind) p)))/\Fresh W w'):=fun W h=>bytes6_any p A c W (Rd.touch hr h (fun _ _ _ e=>e)) hck
 have HFB:Hid (∀ W,Fresh w W->Calls Tryz.prog 88 #[.agg #[.int .u8 0,.string (Wh.B (Wh.bytesS (Wh.shape p.kind) p))],.pointer (some ⟨g,0,none⟩)] W fun e w'=>e=.returned (.tuple #[.string (Wh.B (Wh.frameL 0 (Wh.bytesS (Wh.shape p.kind) p))),.int .i64 0])/\Fresh W w'):=fun W h=>fbytes_any g 0 _ W (ht.fresh h) (by omega) (by omega) HL.out
 clear hr ht hck hok hds HL
 generalize Wh.B (Wh.bytesS (Wh.shape p.kind) p)=BY at *
 generalize Wh.B (Wh.frameL 0 (Wh.bytesS (Wh.shape p.kind) p))=FR at *
 obtain ⟨kind,sq,n,ps,mr,l,self,data⟩:=p
 unfold pV at *
 simp only at HCK HBY HFB ⊢
 generalize l.length=len at *
 go_enter Tryz.func40,Tryz.ntmps40
 have HB:Hid (Blk (w.alloc (.cells #[.int .i64 kind,.int .i64 sq,.int .u32 n,.int .u32 ps,.int .u32 mr,.slice A len c,.bool self,.string data] 49)) w.heap.size 49 [.int .i64 kind,.int .i64 sq,.int .u32 n,.int .u32 ps,.int .u32 mr,.slice A len c,.bool self,.string data]):=Blk.new _ _ _
 have F1:Hid (Fresh w (w.alloc (.cells #[.int .i64 kind,.int .i64 sq,.int .u32 n,.int .u32 ps,.int .u32 mr,.slice A len c,.bool self,.string data] 49))):=(Touch.refl _ _).alloc _
 go_upto_region 1 with (fail)
 generalize (w.alloc (.cells #[.int .i64 kind,.int .i64 sq,.int .u32 n,.int .u32 ps,.int .u32 mr,.slice A len c,.bool self,.string data] 49))=w1 at *
 obtain ⟨b,hb⟩:=xq w.heap.size
 rw [<- hb] at HB ⊢
 clear hb
 have HC:Hid (∀ W,Fresh w1 W->W.cell? ⟨b,0,none⟩=some (.int .i64 kind)/\W.cell? ⟨b,1,none⟩=some (.int .i64 sq)/\W.cell? ⟨b,2,none⟩=some (.int .u32 n)/\W.cell? ⟨b,3,none⟩=some (.int .u32 ps)/\W.cell? ⟨b,4,none⟩=some (.int .u32 mr)/\W.cell? ⟨b,5,none⟩=some (.slice A len c)/\W.cell? ⟨b,6,none⟩=some (.bool self)/\W.cell? ⟨b,7,none⟩=some (.string data)):=fun W f=>by
  have h:=f.blk HB.out (fun e=>e)
  exact ⟨h.cell 0,h.cell 1,h.cell 2,h.cell 3,h.cell 4,h.cell 5,h.cell 6,h.cell 7⟩
 obtain ⟨c0,c1,c2,c3,c4,c5,c6,c7⟩:=HC.out w1 (Touch.refl _ _)
 go_upto_region 4 with (go_at_call 86;(with_reducible refine (HCK.out _ F1.out).mono ?_);rintro e w2 ⟨rfl,f2⟩;have F2:=lh f2;clear f2)
 obtain ⟨d0,d1,d2,d3,d4,d5,d6,d7⟩:=HC.out w2 F2.out
 have FW:Hid (Fresh w w2):=F1.out.trans F2.out (fun _ _ e=>e)
 clear c0 c1 c2 c3 c4 c5 c6 c7 HCK HB
 go_region_law (first
  |(go_simp;go_at_call 87;(with_reducible refine (HBY.out _ FW.out.drew).mono ?_);rintro e w3 ⟨rfl,f3⟩;have F3:=lh (FW.out.drew.trans f3 (fun _ _ e=>e));clear f3)
  |(go_simp;go_at_call 88;(with_reducible refine (HFB.out _ F3.out).mono ?_);rintro e w4 ⟨rfl,f4⟩;have F4:=lh (F3.out.trans f4 (fun _ _ e=>e));clear f4))
 all_goals
  go_wp2_with fail
  exact bodyPost_ret (v:=.tuple #[.string FR,.int .i64 0]) (by simp [results,Tryz.results40,go_sem]) rfl ⟨rfl,F4.out⟩
theorem wpList_val {P:Program} {ops:Array Oper} {rest:List Oper} {o:Oper} {a:Act} {w w':World} {Q:Exit->Act->World->Prop} {v:Value} (hg:o.guard=none) (hr:(execOp a.eval o).run P w=.ok (.value v) w')
  (h:wpList P ops Q rest (a.put o.dst v) w'):wpList P ops Q (o::rest) a w:=
 wpList_plain hg fun K hK=>by
  unfold Oper.wp
  rw [hr]
  exact hK _ _ h
theorem wpList_enter {P:Program} {ops:Array Oper} {rest:List Oper} {o:Oper} {a:Act} {w:World} {Q:Exit->Act->World->Prop} {F:FuncId} {args:Array Value} {R:Ending->World->Prop} (hg:o.guard=none) (hr:(execOp a.eval o).run P w=.ok (.enter F args) w)
  (hc:Calls P F args w R) (h:∀ e w',R e w'->∃ v,e=.returned v/\wpList P ops Q rest (a.put o.dst v) w'):wpList P ops Q (o::rest) a w:=
 wpList_plain hg fun K hK=>by
  unfold Oper.wp
  rw [hr,Oper.upon_enter]
  refine hc.mono ?_
  intro e w' hR
  obtain ⟨v,rfl,hv⟩:=h e w' hR
  exact hK _ _ hv
set_option maxRecDepth 10000 in
theorem open6_ok (g:Nat) (p:Wh.P) (w:World) (ht:Wh.Tab w g) (hck:Wh.ck p=0) :
  Calls Tryz.prog 44 #[.pointer (some ⟨g,0,none⟩),.string (Wh.B (Wh.frameL 0 (Wh.bytesS (Wh.shape p.kind) p)))] w fun e w'=>∃ A' c',e=.returned (.tuple #[pV p A' c',.int .i64 0])/\Fresh w w'/\Mine numE w w' A' c' p.l:=by
 have HFP:Hid (∀ W,Fresh w W->Calls Tryz.prog 92 #[.pointer (some ⟨g,0,none⟩),.string (Wh.B (Wh.frameL 0 (Wh.bytesS (Wh.shape p.kind) p)))] W fun e w'=>e=.returned (.tuple #[.agg #[.int .u8 0,.string (Wh.B (Wh.bytesS (Wh.shape p.kind) p))],.int .i64 0])/\Fresh W w'):=fun W h=>fparse_any g 0 _ W (ht.fresh h) (by omega) (by omega) (Wh.bytes_len p hck)
 have HPP:Hid (∀ W,Calls Tryz.prog 93 #[.string (Wh.B (Wh.bytesS (Wh.shape p.kind) p))] W fun e w'=>∃ A' c',e=.returned (.tuple #[pV p A' c',.int .i64 0])/\Fresh W w'/\Mine numE W w' A' c' p.l):=fun W=>parse6_any p none 0 W hck
 clear ht hck
 generalize Wh.B (Wh.frameL 0 (Wh.bytesS (Wh.shape p.kind) p))=s at *
 generalize Wh.B (Wh.bytesS (Wh.shape p.kind) p)=D at *
 obtain ⟨kind,sq,n,ps,mr,l,self,data⟩:=p
 unfold pV at *
 simp only at HPP ⊢
 generalize l.length=len at *
 go_enter Tryz.func44,Tryz.ntmps44
 have HB:Hid (Blk (w.alloc (.cells #[.int .i64 0,.int .i64 0,.int .u32 0,.int .u32 0,.int .u32 0,.slice none 0 0,.bool false,.string ⟨#[]⟩] 49)) w.heap.size 49 zC):=Blk.new _ _ _
 go_upto_region 6 with (go_at_call 92;(with_reducible refine (HFP.out _ ((Touch.refl _ _).alloc _)).mono ?_);rintro e w2 ⟨rfl,f2⟩)
 have HBR:Hid (Blk (w2.alloc (.cells #[.int .u8 0,.string D] 212)) w.heap.size 49 zC):=(f2.blk HB.out (fun e=>e)).alloc _
 have HFR:Hid (Blk (w2.alloc (.cells #[.int .u8 0,.string D] 212)) w2.heap.size 212 [.int .u8 0,.string D]):=Blk.new _ _ _
 have HF:Hid (Fresh w (w2.alloc (.cells #[.int .u8 0,.string D] 212))):=(((Touch.refl _ _).alloc _).trans f2 (fun _ _ e=>e)).alloc _
 clear HFP f2 HB
 generalize (w2.alloc (.cells #[.int .u8 0,.string D] 212))=w3 at *
 have q1:w3.cell? ⟨w2.heap.size,1,none⟩=some (.string D):=HFR.out.cell 1
 clear HFR
 refine wp_region_lit ?_
 refine wpList_val (w':=w3) (v:=.pointer (some ⟨w2.heap.size,1,none⟩)) rfl (by unfold execOp;go_simp) ?_
 refine wpList_val (w':=w3) (v:=.string D) rfl (by unfold execOp;go_simp) ?_
 refine wpList_enter (F:=93) (args:=#[.string D]) rfl (by unfold execOp;go_simp) (HPP.out w3) ?_
 rintro e w4 ⟨A2,c2,rfl,f4,m4⟩
 refine ⟨_,rfl,?_⟩
 have HBR4:Hid (Blk w4 w.heap.size 49 zC):=f4.blk HBR.out (fun e=>e)
 have HF4:Hid (Fresh w w4):=HF.out.trans f4 (fun _ _ e=>e)
 have HM4:Hid (∀ w5,Touch (· = w.heap.size) w4 w5->Fresh w w5->Mine numE w w5 A2 c2 l):=fun w5 ht hf=>⟨m4.sl.touch ht (fun ad e e2=>by have e2:ad.block=w.heap.size:=e2;have:=m4.base ad e;have:=HBR.out.lt;omega),hf,fun ad e=>Nat.le_trans HF.out.size (m4.base ad e)⟩
 clear f4 m4 HBR HF q1 HPP
 refine wpList_val (w':=w4) (v:=.agg #[.int .i64 kind,.int .i64 sq,.int .u32 n,.int .u32 ps,.int .u32 mr,.slice A2 len c2,.bool self,.string data]) rfl (by unfold execOp;go_simp) ?_
 refine wpList_val (w':=w4) (v:=.int .i64 0) rfl (by unfold execOp;go_simp) ?_
 have HI:Hid ((Tryz.prog.info? 49).map (·.size)=some (#[.int .i64 kind,.int .i64 sq,.int .u32 n,.int .u32 ps,.int .u32 mr,.slice A2 len c2,.bool self,.string data]:Array Value).size):=by
  show _=_
  kernel_rfl
 have HO1:Hid ((#[.int .i64 kind,.int .i64 sq,.int .u32 n,.int .u32 ps,.int .u32 mr,.slice A2 len c2,.bool self,.string data]:Array Value).all (·.oneCell')=true):=by
  show _=_
  simp [Value.oneCell']
 have HB11:Hid (Blk (w4.setRow (w.heap.size) #[.int .i64 kind,.int .i64 sq,.int .u32 n,.int .u32 ps,.int .u32 mr,.slice A2 len c2,.bool self,.string data]) w.heap.size 49 [.int .i64 kind,.int .i64 sq,.int .u32 n,.int .u32 ps,.int .u32 mr,.slice A2 len c2,.bool self,.string data]):=setRow_heap w4 (w.heap.size) _ _ _ _ HBR4.out
 have HFE:Hid (Fresh w (w4.setRow (w.heap.size) #[.int .i64 kind,.int .i64 sq,.int .u32 n,.int .u32 ps,.int .u32 mr,.slice A2 len c2,.bool self,.string data])):=HF4.out.trans (⟨rfl,rfl,rfl,by simp,fun k _ hk=>setRow_other w4 (w.heap.size) k _ hk⟩:Touch (· = w.heap.size) w4 (w4.setRow (w.heap.size) #[.int .i64 kind,.int .i64 sq,.int .u32 n,.int .u32 ps,.int .u32 mr,.slice A2 len c2,.bool self,.string data])) (fun k hk e=>by have e:k=w.heap.size:=e;omega)
 have HMI:=lh (HM4.out _ (⟨rfl,rfl,rfl,by simp,fun k _ hk=>setRow_other w4 (w.heap.size) k _ hk⟩:Touch (· = w.heap.size) w4 (w4.setRow (w.heap.size) #[.int .i64 kind,.int .i64 sq,.int .u32 n,.int .u32 ps,.int .u32 mr,.slice A2 len c2,.bool self,.string data])) HFE.out)
 clear HM4
 refine wpList_store_row rfl 49 (.tmp 4) (.tmp 29) rfl (w.heap.size) #[.int .i64 kind,.int .i64 sq,.int .u32 n,.int .u32 ps,.int .u32 mr,.slice A2 len c2,.bool self,.string data] (by rfl) (by rfl) 49 zC.toArray HBR4.out HI.out (by rfl) HO1.out ?_
 generalize (w4.setRow (w.heap.size) #[.int .i64 kind,.int .i64 sq,.int .u32 n,.int .u32 ps,.int .u32 mr,.slice A2 len c2,.bool self,.string data])=w11 at *
 have r0:w11.cell? ⟨w.heap.size,0,none⟩=some (.int .i64 kind):=HB11.out.cell 0
 have r1:w11.cell? ⟨w.heap.size,1,none⟩=some (.int .i64 sq):=HB11.out.cell 1
 have r2:w11.cell? ⟨w.heap.size,2,none⟩=some (.int .u32 n):=HB11.out.cell 2
 have r3:w11.cell? ⟨w.heap.size,3,none⟩=some (.int .u32 ps):=HB11.out.cell 3
 have r4:w11.cell? ⟨w.heap.size,4,none⟩=some (.int .u32 mr):=HB11.out.cell 4
 have r5:w11.cell? ⟨w.heap.size,5,none⟩=some (.slice A2 len c2):=HB11.out.cell 5
 have r6:w11.cell? ⟨w.heap.size,6,none⟩=some (.bool self):=HB11.out.cell 6
 have r7:w11.cell? ⟨w.heap.size,7,none⟩=some (.string data):=HB11.out.cell 7
 go_wp2_with fail
 refine bodyPost_ret (v:=.tuple #[.agg #[.int .i64 kind,.int .i64 sq,.int .u32 n,.int .u32 ps,.int .u32 mr,.slice A2 len c2,.bool self,.string data],.int .i64 0]) (by simp [results,Tryz.results44,go_sem,r0,r1,r2,r3,r4,r5,r6,r7]) rfl ⟨A2,c2,rfl,HFE.out,HMI.out⟩
end Go.Proofs.YtlbopdfobgjjaaaGreatDoor

/-
  link.New: a link of two configs that may be. Conditions: both may be, they begin alike, the room is from 1 to 256 · link.New: a link of two configs that may be. Conditions: both may be, they begin alike, the room is from 1 to 256.
-/
import Derived.Test.YtlbopdfobgjjaaaGreatDoorLkK
import Derived.Test.YtlbopdfobgjjaaaGreatDoorNdN
import Derived.Test.YtlbopdfobgjjaaaGreatDoorPrN
import Derived.Test.YtlbopdfobgjjaaaGreatDoorWireO
import Derived.Test.YtlbopdfobgjjaaaGreatDoorRow2
set_option maxHeartbeats 8000000
namespace Go.Proofs.YtlbopdfobgjjaaaGreatDoor
open Go.RowKit
set_option maxRecDepth 20000
section
variable {D D':Nat->Nat} {w w':World}
theorem lp_new (i m:Nat) (D:Nat->Nat) (h1:1<=m) (h2:m<=256) (w:World) :
  Calls Tryz.prog 31 #[.int .i64 m] w fun e w'=>∃ gp,e=.returned (.pointer (some ⟨gp,0,none⟩))/\PipeL i (lab D w.heap.size i) w' gp m [] 0/\Fresh w w':=by
 have hm:max 1 (min (m:Int) 256)=(m:Int):=by omega
 have hm2:(max 0 (min (m:Int) 4096)).toNat=m:=by omega
 have HRN:=lh (ringStr_new (m:Int) w)
 rw [hm2] at HRN
 have HK:Hid (∀ w1,RingStr w1 w.heap.size none m []->Fresh w w1->PipeL i (lab D w.heap.size i) (w1.alloc (.cells #[.pointer (some ⟨w.heap.size,0,none⟩),.int .i64 0,.int .i64 0,.int .i64 0] 141)) w1.heap.size m [] 0/\Fresh w (w1.alloc (.cells #[.pointer (some ⟨w.heap.size,0,none⟩),.int .i64 0,.int .i64 0,.int .i64 0] 141))):=fun w1 hr ht=>by
  refine ⟨⟨w.heap.size,none,0,0,0,⟨Blk.new w1 _ [.pointer (some ⟨w.heap.size,0,none⟩),.int .i64 0,.int .i64 0,.int .i64 0],hr.touch ((Touch.refl (fun _=>False) w1).alloc _) (fun h=>h) (fun _ _ h=>h)⟩,Nat.le_refl _,Nat.zero_le _,fun k hk=>?_⟩,ht.alloc _⟩
  rcases hk with rfl | rfl | e
  ·exact lab_new ht.size
  ·exact lab_new (Nat.le_refl _)
  ·cases e
 have z1:(1:Int)<=(m:Int):=by omega
 have z2:(m:Int)<=256:=by omega
 have z3:¬ (256:Int)<(m:Int):=by omega
 have z4:min (m:Int) 256=(m:Int):=by omega
 have z5:max 1 (m:Int)=(m:Int):=by omega
 clear h1 h2 hm2
 go_enter Tryz.func31,Tryz.ntmps31
 go_wp2_with fail
 refine HRN.out.mono ?_
 rintro e w1 ⟨rfl,r1,t1⟩
 have HP:=lh (HK.out w1 r1 t1)
 clear r1 t1 HRN HK
 go_wp2
 go_ret
 exact ⟨_,rfl,HP.out⟩
theorem index_conf {ρ:Operand->Value} {w:World} {x y:Operand} {xs ys:List Value} {o:Oper} (ho:o.op=.index 75 x y) (hx:ρ x=.agg (xs++ys).toArray) {i:Nat} (hi:i=0\/i=1) (hy:ρ y=.int .i64 i) (h1:xs.length=11) (h2:ys.length=11):(execOp ρ o).run Tryz.prog w=.ok (.value (.agg (if i=0 then xs else ys).toArray)) w:=by
 have hu:=Tryz.underlying75
 have hv:=Tryz.underlying74
 have hs:(Tryz.prog.info? 74).map (·.size)=some 11:=by kernel_rfl
 obtain ⟨inf,hi1,hi2⟩:=Option.map_eq_some_iff.1 hs
 unfold execOp
 rw [ho]
 dsimp only
 rw [hx,hy]
 have hagg:(isAgg 74).run Tryz.prog w=.ok true w:=by
  unfold isAgg
  rw [Sem.run_bind,run_underlying hv w]
  rfl
 rcases hi with rfl | rfl
 ·simp [Instr.index,asIntOf,run_underlying hu,part,sizeOf,typeInfo,hi1,hi2]
  exact List.take_left' h1
 ·simp [Instr.index,asIntOf,run_underlying hu,part,sizeOf,typeInfo,hi1,hi2]
  rw [List.drop_left' h1,<- h2,List.take_length]
theorem ndcI:(Tryz.prog.info? 74).map (·.size)=some 11:=by kernel_rfl
theorem ndc2I:(Tryz.prog.info? 75).map (·.size)=some 22:=by kernel_rfl
theorem lkcI:(Tryz.prog.info? 77).map (·.size)=some 23:=by kernel_rfl
def ndcZ:List Value:=[.int .i64 0,.int .i64 0,.int .i64 0,.int .i64 0,.int .i64 0,.int .u32 0,.int .i64 0,.int .i64 0,.int .i64 0,.int .i64 0,.int .i64 0]
structure LkC (F:List Value) (cA cB:Nd.C) (m:Int):Prop where
 eq:F=cA.cells++cB.cells++[.int .i64 m]
theorem LkC.row {F:List Value} {cA cB:Nd.C} {m:Int} (h:LkC F cA cB m):F[5]?=some (.int .u32 cA.start)/\F[16]?=some (.int .u32 cB.start)/\F[22]?=some (.int .i64 m)/\F.length=23/\∀ v ∈ F,v.oneCell'=true:=by
 rw [h.eq]
 exact ⟨rfl,rfl,rfl,rfl,by simp [Nd.C.cells,Value.oneCell']⟩
theorem C_one (c:Nd.C):∀ v ∈ c.cells,v.oneCell'=true:=by simp [Nd.C.cells,Value.oneCell']
theorem LkC.ends {F:List Value} {cA cB:Nd.C} {m:Int} (h:LkC F cA cB m) (j:Nat) (v:Value) (hv:(cA.cells++cB.cells)[j]?=some v):F[0+j]?=some v:=by
 rw [h.eq,Nat.zero_add,List.getElem?_append_left (List.getElem?_eq_some_iff.1 hv).1]
 exact hv
theorem lcheck_any {F:List Value} {cA cB:Nd.C} {m:Int} (hF:LkC F cA cB m) (hA:cA.ok=true) (hB:cB.ok=true) (hs:cA.start=cB.start) (h1:1<=m) (h2:m<=256) (w:World) :
  Calls Tryz.prog 28 #[.agg F.toArray] w fun e w'=>e=.returned (.int .i64 0)/\Fresh w w':=by
 have hn:(cA.start != cB.start)=false:=by rw [hs];simp
 have g1:¬ m<1:=by omega
 have g2:¬ 256<m:=by omega
 obtain ⟨r5,r16,r22,rl,ro⟩:=hF.row
 have HC:Hid (∀ i:Nat,∀ W,Calls Tryz.prog 58 #[.agg (if i=0 then cA.cells else cB.cells).toArray] W fun e w'=>e=.returned (.int .i64 0)/\Fresh W w'):=fun i W=>by
  split
  ·have h:=ncheck_any cA W
   rw [hA] at h
   exact h
  ·have h:=ncheck_any cB W
   rw [hB] at h
   exact h
 have HZ:Hid (∀ i:Nat,(if i=0 then cA.cells else cB.cells).length=11/\∀ v ∈ (if i=0 then cA.cells else cB.cells),v.oneCell'=true):=fun i=>by
  split
  ·exact ⟨rfl,C_one cA⟩
  ·exact ⟨rfl,C_one cB⟩
 obtain ⟨w1,hw1⟩:=xq (w.alloc (.cells F.toArray 77))
 obtain ⟨b0,hb0⟩:=xq w.heap.size
 have HF1:Hid (Fresh w w1):=by rw [hw1];exact (Touch.refl _ _).alloc _
 have HBX:Hid (Blk w1 b0 77 F):=by rw [hw1,hb0];exact Blk.new w _ F
 have HR:Hid (w1.rangeAt b0 0 (cA.cells++cB.cells)):=HBX.out.range_at 0 hF.ends
 have HLN:Hid ((Tryz.prog.info? 75).map (·.size)=some (cA.cells++cB.cells).length):=ndc2I
 have HL:Hid (cA.cells.length=11/\cB.cells.length=11):=⟨rfl,rfl⟩
 have HRW:Hid (F[5]?=some (.int .u32 cA.start)/\F[16]?=some (.int .u32 cB.start)/\F[22]?=some (.int .i64 m)):=⟨r5,r16,r22⟩
 have HFL:Hid (F.length=23/\∀ v ∈ F,v.oneCell'=true):=⟨rl,ro⟩
 clear r5 r16 r22 rl ro hF hA hB hs h1 h2
 generalize cA.cells=xs at *
 generalize cB.cells=ys at *
 generalize cA.start=sa at *
 generalize cB.start=sb at *
 go_enter Tryz.func28,Tryz.ntmps28
 go_upto_region 1 with (fail)
 rw [<- hw1,<- hb0]
 clear hw1 hb0
 go_wp2_with (refine wpList_loadB rfl _ (.tmp 6) rfl b0 0 (by rfl) (xs++ys) HR.out Tryz.underlying75 rfl HLN.out ?_)
 clear HR HLN
 go_loopg [8] 2 (fun g v8 wr=>∃ i:Nat,i+g=2/\v8=.int .i64 i/\Hid (Fresh w1 wr))
 case atStart=>exact ⟨0,by omega,rfl,Touch.refl _ _⟩
 case round =>
  obtain ⟨i,hi,rfl,HF⟩:=hrel
  cases gk with
  |succ g =>
   have hk2:(i:Int)<2:=by omega
   have hk0:(0:Int)<=(i:Int):=by omega
   have hi3:i=0\/i=1:=by omega
   go_upto_region 3 with (fail)
   have HCI:=lh (HC.out i)
   have HZI:=lh (HZ.out i)
   refine wp_region_lit ?_
   refine wpList_val (w':=wr) (v:=.agg (if i=0 then xs else ys).toArray) rfl (index_conf rfl rfl hi3 rfl HL.out.1 HL.out.2) ?_
   generalize (if i=0 then xs else ys)=z at *
   have HZN:Hid ((Tryz.prog.info? 74).map (·.size)=some z.length):=by rw [HZI.out.1];exact ndcI
   clear hi3 HC HZ
   refine wpList_val (w':=wr.alloc (.cells ndcZ.toArray 74)) (v:=.pointer (some ⟨wr.heap.size,0,none⟩)) rfl (by unfold execOp;go_simp;first | done | rfl) ?_
   refine wpList_storeB rfl _ (.tmp 4) (.tmp 10) rfl wr.heap.size 0 (by rfl) z (by rfl) (Blk.new wr 74 ndcZ) (by rw [HZI.out.1];exact Nat.le_refl 11) HZN.out HZI.out.2 ?_
   intro w2 hB ht
   have HB2:Hid (w2.rangeAt wr.heap.size 0 z):=(hB.eq_cells (by rw [List.take_zero,List.nil_append,Nat.zero_add,List.drop_of_length_le (by rw [HZI.out.1];exact Nat.le_refl 11),List.append_nil])).range
   have HF2:Hid (Fresh w1 w2):=(HF.out.alloc _).trans ht (fun k hk e=>by have e:k=wr.heap.size:=e;have:=HF.out.size;omega)
   clear hB ht
   go_wp2_with (first
    |(refine wpList_loadB rfl _ (.tmp 4) rfl wr.heap.size 0 (by rfl) z HB2.out Tryz.underlying74 rfl HZN.out ?_)
    |(go_at_call 58;(with_reducible refine (HCI.out _).mono ?_);rintro e w3 ⟨rfl,h3⟩;have HF3:Hid (Fresh w1 w3):=HF2.out.trans h3 (fun _ _ e=>e);clear h3))
   go_roundg g
   case measure=>omega
   case rel=>exact ⟨i+1,by omega,by go_num,HF3⟩
  |zero =>
   obtain rfl:i=2:=by omega
   have hb:=HF.out.blk HBX.out (fun e=>e)
   have e5:=hb.cell 5
   have e16:=hb.cell 16
   have e22:=hb.cell 22
   rw [HRW.out.1] at e5
   rw [HRW.out.2.1] at e16
   rw [HRW.out.2.2] at e22
   have HE:Hid (Fresh w wr):=HF1.out.trans HF.out (fun _ _ e=>e)
   clear hb HF HF1 HBX HC HZ HFL
   go_wp2
   go_ret
   exact ⟨rfl,HE.out⟩
end
set_option maxRecDepth 20000
def mkCells (wr:Nat) (n p:Nat->Nat) (i:Nat):List Value:=[.pointer (some ⟨wr,0,none⟩),if 0<i then .pointer (some ⟨n 0,0,none⟩) else .pointer none,if 0<i then .pointer (some ⟨p 0,0,none⟩) else .pointer none,if 1<i then .pointer (some ⟨n 1,0,none⟩) else .pointer none,if 1<i then .pointer (some ⟨p 1,0,none⟩) else .pointer none]
def cfs (cA cB:Nd.C) (i:Nat):Nd.C:=if i=0 then cA else cB
structure LkMk (D0:Nat->Nat) (w0:World) (room:Nat) (cA cB:Nd.C) (l wr:Nat) (i:Nat) (n p:Nat->Nat) (D:Nat->Nat) (w:World):Prop where
 blk:Blk w l 89 (mkCells wr n p i)/\D l=40
 tab:Wh.Tab w wr/\D wr=40
 nd:∀ k,k<i->EndAt (16*k) D w (n k) (En.new (cfs cA cB k))
 pp:∀ k,k<i->PipeL (16*k+10) D w (p k) room [] 0
 fr:Fresh w0 w
 lab:∀ b,b<w0.heap.size->D b=D0 b
 new:w0.heap.size<=l/\w0.heap.size<=wr
 ne:wr ≠ l
section
variable {D0 D D1 D2:Nat->Nat} {w0 w w1 w2 w3:World} {room l wr i:Nat} {cA cB:Nd.C} {n p:Nat->Nat}
theorem LkMk.old (h:LkMk D0 w0 room cA cB l wr i n p D w) (ht:Fresh w w1) (hD:∀ b,b<w.heap.size->D1 b=D b):LkMk D0 w0 room cA cB l wr i n p D1 w1:=
 ⟨⟨ht.blk h.blk.1 (fun e=>e),(hD _ h.blk.1.lt).trans h.blk.2⟩,⟨Tab_keep h.tab.1 ht (fun e=>e),(hD _ (Tab_lt h.tab.1)).trans h.tab.2⟩,fun k hk=>(h.nd k hk).old ht hD,fun k hk=>(h.pp k hk).keep ht (fun _ e=>e.elim) hD,h.fr.trans ht (fun _ _ e=>e),fun b hb=>(hD b (Nat.lt_of_lt_of_le hb h.fr.size)).trans (h.lab b hb),h.new,h.ne⟩
theorem LkMk.add (h:LkMk D0 w0 room cA cB l wr i n p D w) (hi:i<2) {n' p':Nat} (hn:EndAt (16*i) D w n' (En.new (cfs cA cB i))) (hp:PipeL (16*i+10) D w p' room [] 0) (hs:Touch (· = l) w w1) (hb:Blk w1 l 89 (((mkCells wr n p i).set (1+i*2) (.pointer (some ⟨n',0,none⟩))).set (1+i*2+1) (.pointer (some ⟨p',0,none⟩)))):LkMk D0 w0 room cA cB l wr (i+1) (Su.upd n i n') (Su.upd p i p') D w1:=by
 have hT:∀ b,b=l->33<=D b\/D b=40:=fun b e=>by rw [e,h.blk.2];exact .inr rfl
 have hl:=h.blk.2
 have hcl:((mkCells wr n p i).set (1+i*2) (.pointer (some ⟨n',0,none⟩))).set (1+i*2+1) (.pointer (some ⟨p',0,none⟩))=mkCells wr (Su.upd n i n') (Su.upd p i p') (i+1):=by
  have hx:i=0\/i=1:=by omega
  rcases hx with rfl | rfl <;> rfl
 rw [hcl] at hb
 refine ⟨⟨hb,hl⟩,⟨Tab_keep h.tab.1 hs h.ne,h.tab.2⟩,fun k hk=>?_,fun k hk=>?_,h.fr.trans hs (fun b hb e=>by have e:b=l:=e;have:=h.new.1;omega),h.lab,h.new,h.ne⟩
 ·by_cases e:k=i
  ·subst e
   rw [Su.upd_at]
   obtain ⟨cn,pc,un,sp,rp,A,ca,B,cb,h1⟩:=hn
   exact ⟨cn,pc,un,sp,rp,A,ca,B,cb,h1.keep hs (fun b hb=>by rw [show b=l from hb];omega) (fun _ _=>rfl)⟩
  ·rw [Su.upd_ne _ _ e]
   obtain ⟨cn,pc,un,sp,rp,A,ca,B,cb,h1⟩:=h.nd k (by omega)
   exact ⟨cn,pc,un,sp,rp,A,ca,B,cb,h1.keep hs (fun b hb=>by rw [show b=l from hb];omega) (fun _ _=>rfl)⟩
 ·by_cases e:k=i
  ·subst e
   rw [Su.upd_at]
   exact hp.keep hs (fun b hb=>by rw [show b=l from hb];omega) (fun _ _=>rfl)
  ·rw [Su.upd_ne _ _ e]
   exact (h.pp k (by omega)).keep hs (fun b hb=>by rw [show b=l from hb];omega) (fun _ _=>rfl)
theorem wnew_new (w:World):Calls Tryz.prog 29 #[] w fun e w'=>∃ g,e=.returned (.pointer (some ⟨g,0,none⟩))/\Wh.Tab w' g/\Fresh w w'/\w.heap.size<=g:=by
 refine (wnew_core Wh.TAB.toArray tab_size tab_fold w make_any).mono ?_
 rintro e w' ⟨w1,rfl,rfl,hf⟩
 exact ⟨w1.heap.size,rfl,⟨_,Blk.new w1 _ _⟩,hf.trans ((Touch.refl _ _).alloc _) (fun _ _ h=>h),hf.size⟩
theorem LkMk.first (hf:Fresh w0 w) (ht:Wh.Tab w wr) (hw:w0.heap.size<=wr):LkMk D0 w0 room cA cB w.heap.size wr 0 n p (fun b=>if b<w0.heap.size then D0 b else if b=w.heap.size\/b=wr then 40 else 46) (w.alloc (.cells (mkCells wr n p 0).toArray 89)):=
 have h1:=hf.size
 have h2:=Tab_lt ht
 ⟨⟨Blk.new w _ _,by show (if _ then _ else _)=_;rw [if_neg (by omega),if_pos (.inl rfl)]⟩,⟨ht.fresh ((Touch.refl _ _).alloc _),by show (if _ then _ else _)=_;rw [if_neg (by omega),if_pos (.inr rfl)]⟩,fun k hk=>absurd hk (Nat.not_lt_zero k),fun k hk=>absurd hk (Nat.not_lt_zero k),hf.alloc _,fun b hb=>if_pos hb,⟨h1,hw⟩,by omega⟩
def NewPost (D0:Nat->Nat) (w0:World) (room:Nat) (cA cB:Nd.C) (x:Ending) (w':World):Prop:=∃ K D',x=.returned (.tuple #[.pointer (some ⟨Lk.l K,0,none⟩),.int .i64 0])/\LkAt K D' w' ⟨fun i=>En.new (cfs cA cB i),fun _=>[]⟩ 0/\K.room=room/\Fresh w0 w'/\∀ b,b<w0.heap.size->D' b=D0 b
theorem LkMk.last (h:LkMk D0 w0 room cA cB l wr 2 n p D w):NewPost D0 w0 room cA cB (.returned (.tuple #[.pointer (some ⟨l,0,none⟩),.int .i64 0])) w:=
 ⟨⟨l,wr,n,p,room⟩,D,rfl,⟨h.blk,h.tab,fun i hi=>h.nd i hi,fun i hi=>h.pp i hi⟩,rfl,h.fr,h.lab⟩
theorem lnew_any {F:List Value} (hF:LkC F cA cB room) (hA:cA.ok=true) (hB:cB.ok=true) (hs:cA.start=cB.start) (h1:1<=room) (h2:room<=256) (D0:Nat->Nat) (w:World) :
  Calls Tryz.prog 11 #[.agg F.toArray] w (NewPost D0 w room cA cB):=by
 have HCK:=lh (fun W=>lcheck_any hF hA hB hs (by omega) (by omega) W)
 obtain ⟨r5,r16,r22,rl,ro⟩:=hF.row
 have HNN:Hid (∀ i,i<2->∀ W,Calls Tryz.prog 30 #[.agg (if i=0 then cA.cells else cB.cells).toArray] W fun e w'=>∃ n,e=.returned (.tuple #[.pointer (some ⟨n,0,none⟩),.int .i64 0])/\NodeNw W w' n (Nd.S.new (cfs cA cB i))):=fun i hi W=>by
  unfold cfs
  split
  ·exact nnew_ok cA W hA
  ·exact nnew_ok cB W hB
 have HPN:Hid (∀ i D W,Calls Tryz.prog 31 #[.int .i64 room] W fun e w'=>∃ gp,e=.returned (.pointer (some ⟨gp,0,none⟩))/\PipeL (16*i+10) (lab D W.heap.size (16*i+10)) w' gp room [] 0/\Fresh W w'):=fun i D W=>lp_new _ room D h1 h2 W
 have HZ:Hid (∀ i:Nat,(if i=0 then cA.cells else cB.cells).length=11/\∀ v ∈ (if i=0 then cA.cells else cB.cells),v.oneCell'=true):=fun i=>by
  split
  ·exact ⟨rfl,C_one cA⟩
  ·exact ⟨rfl,C_one cB⟩
 obtain ⟨w1,hw1⟩:=xq (w.alloc (.cells F.toArray 77))
 obtain ⟨b0,hb0⟩:=xq w.heap.size
 have HF1:Hid (Fresh w w1):=by rw [hw1];exact (Touch.refl _ _).alloc _
 have HBX:Hid (Blk w1 b0 77 F):=by rw [hw1,hb0];exact Blk.new w _ F
 have HR:Hid (∀ W,Fresh w1 W->W.rangeAt b0 0 (cA.cells++cB.cells)):=fun W hW=>(hW.blk HBX.out (fun e=>e)).range_at 0 hF.ends
 have HRF:Hid (w1.rangeAt b0 0 F):=HBX.out.range
 have HFI:Hid ((Tryz.prog.info? 77).map (·.size)=some F.length):=by rw [rl];exact lkcI
 have HLN:Hid ((Tryz.prog.info? 75).map (·.size)=some (cA.cells++cB.cells).length):=ndc2I
 have HL:Hid (cA.cells.length=11/\cB.cells.length=11):=⟨rfl,rfl⟩
 have HRM:Hid (∀ W,Fresh w1 W->W.cell? ⟨b0,22,none⟩=some (.int .i64 room)):=fun W hW=>by rw [(hW.blk HBX.out (fun e=>e)).cell,r22]
 have HB0:Hid (w.heap.size<=b0/\b0<w1.heap.size):=⟨by rw [hb0];exact Nat.le_refl _,HBX.out.lt⟩
 clear r5 r16 r22 rl ro hF hA hB hs h1 h2 HBX
 generalize cA.cells=xs at *
 generalize cB.cells=ys at *
 go_enter Tryz.func11,Tryz.ntmps11
 go_upto_region 1 with (fail)
 rw [<- hw1,<- hb0]
 clear hw1 hb0
 go_upto_region 4 with (first
  |(refine wpList_loadB rfl _ (.tmp 1) rfl b0 0 (by rfl) F HRF.out Tryz.underlying77 rfl HFI.out ?_)
  |(go_at_call 28;(with_reducible refine (HCK.out _).mono ?_);rintro e w2 ⟨rfl,f2⟩;have HF2:Hid (Fresh w1 w2):=f2;clear f2))
 go_upto_region 5 with (go_at_call 29;(with_reducible refine (wnew_new _).mono ?_);rintro e w3 ⟨tw,rfl,t3,f3,g3⟩;have HF3:Hid (Fresh w1 w3):=HF2.out.trans f3 (fun _ _ e=>e);have HT3:=lh t3;have HG3:Hid (w1.heap.size<=tw):=Nat.le_trans HF2.out.size g3;clear t3 f3 g3)
 obtain ⟨w4,hw4⟩:=xq (w3.alloc (.cells #[.pointer (some ⟨tw,0,none⟩),.pointer none,.pointer none,.pointer none,.pointer none] 89))
 obtain ⟨l,hl⟩:=xq w3.heap.size
 have HM4:Hid (LkMk D0 w room cA cB l tw 0 (fun _=>0) (fun _=>0) (fun b=>if b<w.heap.size then D0 b else if b=l\/b=tw then 40 else 46) w4):=by
  rw [hw4,hl]
  exact LkMk.first (HF1.out.trans HF3.out (fun _ _ e=>e)) HT3.out (Nat.le_trans HF1.out.size HG3.out)
 have HF4:Hid (Fresh w1 w4):=by rw [hw4];exact HF3.out.alloc _
 have HLL:Hid (w1.heap.size<=l):=by rw [hl];exact HF3.out.size
 rw [<- hw4,<- hl]
 clear hw4 hl HF2 HF3 HT3 HG3 HCK HRF HFI
 have HR4:=lh (HR.out w4 HF4.out)
 clear HR
 go_wp2_with (refine wpList_loadB rfl _ (.tmp 18) rfl b0 0 (by rfl) (xs++ys) HR4.out Tryz.underlying75 rfl HLN.out ?_)
 clear HR4 HLN
 go_loopg [20] 2 (fun g v20 wx=>∃ (i:Nat) (n p:Nat->Nat) (D:Nat->Nat),i+g=2/\v20=.int .i64 i/\Hid (LkMk D0 w room cA cB l tw i n p D wx)/\Hid (Fresh w1 wx))
 case atStart=>exact ⟨0,_,_,_,by omega,rfl,HM4,HF4⟩
 case round =>
  clear HM4 HF4
  obtain ⟨i,n,p,D,hi,rfl,HM,HF⟩:=hrel
  cases gk with
  |succ g =>
   have hi2:i<2:=by omega
   have hk2:(i:Int)<2:=by omega
   have hk0:(0:Int)<=(i:Int):=by omega
   have hi3:i=0\/i=1:=by omega
   go_upto_region 7 with (fail)
   refine wp_region_lit ?_
   refine wpList_move rfl (.tmp 20) rfl ?_
   refine wpList_val (w':=wr) (v:=.agg (if i=0 then xs else ys).toArray) rfl (index_conf rfl rfl hi3 rfl HL.out.1 HL.out.2) ?_
   have HZI:=lh (HZ.out i)
   have HNI:=lh (HNN.out i hi2)
   generalize (if i=0 then xs else ys)=z at *
   have HZN:Hid ((Tryz.prog.info? 74).map (·.size)=some z.length):=by rw [HZI.out.1];exact ndcI
   clear HZ HNN HL
   refine wpList_val (w':=wr.alloc (.cells ndcZ.toArray 74)) (v:=.pointer (some ⟨wr.heap.size,0,none⟩)) rfl (by unfold execOp;go_simp;first | done | rfl) ?_
   refine wpList_val (w':=wr.alloc (.cells ndcZ.toArray 74)) (v:=.int .i64 i) rfl (by unfold execOp;go_simp) ?_
   refine wpList_storeB rfl _ (.tmp 7) (.tmp 23) rfl wr.heap.size 0 (by rfl) z (by rfl) (Blk.new wr 74 ndcZ) (by rw [HZI.out.1];exact Nat.le_refl 11) HZN.out HZI.out.2 ?_
   intro w5 hB ht
   have HB5:Hid (w5.rangeAt wr.heap.size 0 z):=(hB.eq_cells (by rw [List.take_zero,List.nil_append,Nat.zero_add,List.drop_of_length_le (by rw [HZI.out.1];exact Nat.le_refl 11),List.append_nil])).range
   have hf5:Fresh wr w5:=((Touch.refl (fun _=>False) wr).alloc _).trans ht (fun k hk e=>by have e:k=wr.heap.size:=e;omega)
   have HF5:Hid (Fresh w1 w5):=HF.out.trans hf5 (fun _ _ e=>e)
   have HM5:Hid (LkMk D0 w room cA cB l tw i n p D w5):=HM.out.old hf5 (fun _ _=>rfl)
   clear hB ht hf5 HM HF
   go_upto_region 11 with (first
    |(refine wpList_loadB rfl _ (.tmp 7) rfl wr.heap.size 0 (by rfl) z HB5.out Tryz.underlying74 rfl HZN.out ?_)
    |(go_at_call 30;(with_reducible refine (HNI.out _).mono ?_);rintro e w6 ⟨n',rfl,hn⟩;have HN6:=lh hn;clear hn))
   obtain ⟨D6,hl6,he6⟩:=HN6.out.end_ (16*i) D
   have HM6:Hid (LkMk D0 w room cA cB l tw i n p D6 w6):=HM5.out.old HN6.out.fresh hl6.1
   have HE6:=lh he6
   have HF6:Hid (Fresh w1 w6):=HF5.out.trans HN6.out.fresh (fun _ _ e=>e)
   clear hl6 he6 HN6 HB5 HZN HZI HNI HM5 HF5
   have HP6:Hid (∀ W,Fresh w6 W->Calls Tryz.prog 31 #[.int .i64 room] W fun e w'=>∃ gp,e=.returned (.pointer (some ⟨gp,0,none⟩))/\∃ D7,PipeL (16*i+10) D7 w' gp room [] 0/\LkMk D0 w room cA cB l tw i n p D7 w'/\EndAt (16*i) D7 w' n' (En.new (cfs cA cB i))/\Fresh w1 w'):=fun W hW=>(HPN.out i D6 W).mono fun e w' ⟨gp,e1,h2,h3⟩=>⟨gp,e1,_,h2,(HM6.out.old hW (D1:=D6) (fun _ _=>rfl)).old h3 (fun b hb=>lab_old hb),(HE6.out.old hW (D':=D6) (fun _ _=>rfl)).old h3 (fun b hb=>lab_old hb),(HF6.out.trans hW (fun _ _ e=>e)).trans h3 (fun _ _ e=>e)⟩
   have KF:Hid (∀ wx,Fresh w6 wx->wx.cell? ⟨b0,22,none⟩=some (.int .i64 room)):=fun wx hw=>HRM.out wx (HF6.out.trans hw (fun _ _ e=>e))
   have KF7:Hid (∀ wx,Fresh w1 wx->wx.cell? ⟨b0,22,none⟩=some (.int .i64 room)):=fun wx hw=>HRM.out wx hw
   have KL:Hid (∀ wx u v,Fresh w1 wx->((wx.setCell ⟨l,1+i*2,none⟩ u).setCell ⟨l,1+i*2+1,none⟩ v).cell? ⟨b0,22,none⟩=some (.int .i64 room)):=fun wx u v hw=>by
    refine HRM.out _ ((hw.setCell (fun h=>?_) u).setCell (fun h=>?_) v)
    ·have h:l<w1.heap.size:=h
     have:=HLL.out
     omega
    ·have h:l<w1.heap.size:=h
     have:=HLL.out
     omega
   have KC:Hid (∀ D7 wx,LkMk D0 w room cA cB l tw i n p D7 wx->(∃ u,wx.cell? ⟨l,1+i*2,none⟩=some u)/\(∃ u,wx.cell? ⟨l,1+i*2+1,none⟩=some u)/\wx.frozen? ⟨l,1+i*2,none⟩=false/\wx.frozen? ⟨l,1+i*2+1,none⟩=false):=fun D7 wx hw=>by
    refine ⟨?_,?_,hw.blk.1.frozen _,hw.blk.1.frozen _⟩
    ·rw [hw.blk.1.cell]
     rcases hi3 with rfl | rfl <;> exact ⟨_,rfl⟩
    ·rw [hw.blk.1.cell]
     rcases hi3 with rfl | rfl <;> exact ⟨_,rfl⟩
   have FD:Fresh w6 w6.drew:=(Touch.refl _ _).drew
   clear HRM HPN HM6 HE6 HF6 hi3
   go_region_held3 (fun wx=>wx.cell? ⟨b0,22,none⟩=some (.int .i64 room))
    (first
     |(with_reducible refine KF.out _ ?_;with_reducible assumption)
     |with_reducible exact KF7.out _ f7
     |with_reducible exact KL.out _ _ _ f7)
    (first
     |(go_simp;go_at_call 31;(with_reducible refine (HP6.out _ FD).mono ?_);rintro e w7 ⟨gp,rfl,D7,p7,m7,e7,f7⟩;obtain ⟨⟨u7,z7⟩,⟨v7,y7⟩,z8,y8⟩:=KC.out _ _ m7))
   have HN8:Hid (LkMk D0 w room cA cB l tw (i+1) (Su.upd n i n') (Su.upd p i gp) D7 ((w7.setCell ⟨l,1+i*2,none⟩ (.pointer (some ⟨n',0,none⟩))).setCell ⟨l,1+i*2+1,none⟩ (.pointer (some ⟨gp,0,none⟩)))):=
    m7.add hi2 e7 p7 ((Touch.set1 _ _ _ _).trans (Touch.set1 _ _ _ _) (fun _ _ e=>e)) ((m7.blk.1.set _ _).set _ _)
   have HF8:Hid (Fresh w1 ((w7.setCell ⟨l,1+i*2,none⟩ (.pointer (some ⟨n',0,none⟩))).setCell ⟨l,1+i*2+1,none⟩ (.pointer (some ⟨gp,0,none⟩)))):=(f7.setCell (fun h=>by have h:l<w1.heap.size:=h;have:=HLL.out;omega) _).setCell (fun h=>by have h:l<w1.heap.size:=h;have:=HLL.out;omega) _
   clear KF KF7 KL KC HP6 FD p7 m7 e7 f7 z7 y7 z8 y8
   generalize (w7.setCell ⟨l,1+i*2,none⟩ (.pointer (some ⟨n',0,none⟩))).setCell ⟨l,1+i*2+1,none⟩ (.pointer (some ⟨gp,0,none⟩))=w8 at *
   go_wp2_with fail
   go_roundg g
   case measure=>omega
   case rel=>exact ⟨i+1,_,_,_,by omega,by go_num,HN8,HF8⟩
  |zero =>
   obtain rfl:i=2:=by omega
   have HE:=lh HM.out.last
   clear HM HF
   go_wp2_with fail
   go_ret2
   exact HE.out
end
end Go.Proofs.YtlbopdfobgjjaaaGreatDoor

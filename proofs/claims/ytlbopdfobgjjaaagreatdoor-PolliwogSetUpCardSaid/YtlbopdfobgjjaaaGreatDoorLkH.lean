/-
  polliwoglaw18.Config.Right: a config that may be, of any. No conditions · polliwoglaw18.Config.Right: a config that may be, of any. No conditions.
-/
import Derived.Test.YtlbopdfobgjjaaaGreatDoorOpen2
import Derived.Test.YtlbopdfobgjjaaaGreatDoorDetP
import Derived.Test.YtlbopdfobgjjaaaGreatDoorRow2
set_option maxHeartbeats 8000000
namespace Go.Proofs.YtlbopdfobgjjaaaGreatDoor
open Go.RowKit
set_option maxRecDepth 20000
def RC (x0 x1 x2 x3 x4 x5:Int) (r:List Value) (W:World):Prop:=∃ g c0 c1 c2 c3 c4,r=[.int .i64 (max 1 (min x0 16)),.int .i64 (max 1 (min x1 64)),.int .i64 (max 1 (min x2 256)),.int .i64 (max 1 (min x3 64)),.int .i64 (max 1 (min x4 256)),.int .i64 (x5%16777216),.slice (some ⟨g,0,none⟩) 5 5]/\Sl intE W (some ⟨g,0,none⟩) 5 [c0,c1,c2,c3,c4]/\GoodC c0 c1 c2 c3 c4
theorem RC.fresh {x0 x1 x2 x3 x4 x5:Int} {r:List Value} {W W':World} (h:RC x0 x1 x2 x3 x4 x5 r W) (hf:Fresh W W'):RC x0 x1 x2 x3 x4 x5 r W':=by
 obtain ⟨g,c0,c1,c2,c3,c4,h1,h2,h3⟩:=h
 exact ⟨g,c0,c1,c2,c3,c4,h1,h2.touch hf (fun _ _ e=>e),h3⟩
theorem RC.put {x0 x1 x2 x3 x4 x5:Int} {r cs:List Value} {W W':World} {p:Nat} (h:RC x0 x1 x2 x3 x4 x5 r W) (hb:Blk W p 24 cs) (hf:Touch (· = p) W W'):RC x0 x1 x2 x3 x4 x5 r W':=by
 obtain ⟨g,c0,c1,c2,c3,c4,h1,h2,h3⟩:=h
 exact ⟨g,c0,c1,c2,c3,c4,h1,h2.touch hf (fun ad ha e=>h2.blk_ne hb (by decide) ad ha e),h3⟩
theorem RC.len {x0 x1 x2 x3 x4 x5:Int} {r:List Value} {W:World} (h:RC x0 x1 x2 x3 x4 x5 r W):r.length=7/\∀ v ∈ r,v.oneCell'=true:=by
 obtain ⟨g,c0,c1,c2,c3,c4,rfl,-,-⟩:=h
 exact ⟨rfl,by simp [Value.oneCell']⟩
structure G2 where
 r1:List Value
 r2:List Value
 p:Nat
 q:Nat
structure W2 (w0:World) (R1 R2:List Value->World->Prop) (b:G2) (d:Nat->Bool) (W:World):Prop where
 fr:Fresh w0 W
 e1:d 2=true->R1 b.r1 W
 e2:d 5=true->R2 b.r2 W
 e3:d 6=true->w0.heap.size<=b.p/\∃ old,Blk W b.p 24 old/\old.length=7/\(d 8=true->old=b.r1)
 e4:d 7=true->w0.heap.size<=b.q/\∃ old,Blk W b.q 24 old/\old.length=7/\(d 9=true->old=b.r2)
 ne:d 6=true->d 7=true->b.p ≠ b.q
def g2slot (i:Nat):Nat:=[5,6,7,8,9,10,3,4,1008,1009].getD i 2000
def g2D:List Nat:=[5,6,7,8,9,10,3,4]
def g2idx (k:Nat):Nat:=if k=5 then 0 else if k=6 then 1 else if k=7 then 2 else if k=8 then 3 else if k=9 then 4 else if k=10 then 5 else if k=3 then 6 else 7
def g2val (bx:Nat) (xs ys:List Value) (b:G2) (i:Nat):Value:=[.pointer (some ⟨bx,0,none⟩),.agg xs.toArray,.agg b.r1.toArray,.pointer (some ⟨bx,7,none⟩),.agg ys.toArray,.agg b.r2.toArray,.pointer (some ⟨b.p,0,none⟩),.pointer (some ⟨b.q,0,none⟩)].getD i undef
section
variable {w0 W W':World} {R1 R2:List Value->World->Prop} {b:G2} {d:Nat->Bool}
theorem W2.step (h:W2 w0 R1 R2 b d W) {i:Nat} (hi:i ≠ 2/\i ≠ 5/\i ≠ 6/\i ≠ 7/\i ≠ 8/\i ≠ 9):W2 w0 R1 R2 b (Dag.upd d i true) W:=by
 obtain ⟨h1,h2,h3,h4,h5,h6⟩:=hi
 have e:∀ k,k ≠ i->Dag.upd d i true k=d k:=fun k hk=>Dag.upd_far _ _ hk
 refine ⟨h.fr,?_,?_,?_,?_,?_⟩
 ·rw [e 2 (Ne.symm h1)];exact h.e1
 ·rw [e 5 (Ne.symm h2)];exact h.e2
 ·rw [e 6 (Ne.symm h3),e 8 (Ne.symm h5)];exact h.e3
 ·rw [e 7 (Ne.symm h4),e 9 (Ne.symm h6)];exact h.e4
 ·rw [e 6 (Ne.symm h3),e 7 (Ne.symm h4)];exact h.ne
theorem W2.call1 (h:W2 w0 R1 R2 b d W) (k1:∀ r W W',R2 r W->Fresh W W'->R2 r W') (hf:Fresh W W') {r:List Value} (hr:R1 r W') (h8:d 8=false):W2 w0 R1 R2 { b with r1:=r } (Dag.upd d 2 true) W':=by
 have e:∀ k,k ≠ 2->Dag.upd d 2 true k=d k:=fun k hk=>Dag.upd_far _ _ hk
 refine ⟨h.fr.trans hf (fun _ _ e=>e),fun _=>hr,?_,?_,?_,?_⟩
 ·rw [e 5 (by decide)];exact fun x=>k1 _ _ _ (h.e2 x) hf
 ·rw [e 6 (by decide),e 8 (by decide)]
  intro x
  obtain ⟨g1,old,g2,g3,g4⟩:=h.e3 x
  exact ⟨g1,old,hf.blk g2 (fun e=>e),g3,fun y=>by rw [h8] at y;cases y⟩
 ·rw [e 7 (by decide),e 9 (by decide)]
  intro x
  obtain ⟨g1,old,g2,g3,g4⟩:=h.e4 x
  exact ⟨g1,old,hf.blk g2 (fun e=>e),g3,g4⟩
 ·rw [e 6 (by decide),e 7 (by decide)];exact h.ne
theorem W2.call2 (h:W2 w0 R1 R2 b d W) (k1:∀ r W W',R1 r W->Fresh W W'->R1 r W') (hf:Fresh W W') {r:List Value} (hr:R2 r W') (h9:d 9=false):W2 w0 R1 R2 { b with r2:=r } (Dag.upd d 5 true) W':=by
 have e:∀ k,k ≠ 5->Dag.upd d 5 true k=d k:=fun k hk=>Dag.upd_far _ _ hk
 refine ⟨h.fr.trans hf (fun _ _ e=>e),?_,fun _=>hr,?_,?_,?_⟩
 ·rw [e 2 (by decide)];exact fun x=>k1 _ _ _ (h.e1 x) hf
 ·rw [e 6 (by decide),e 8 (by decide)]
  intro x
  obtain ⟨g1,old,g2,g3,g4⟩:=h.e3 x
  exact ⟨g1,old,hf.blk g2 (fun e=>e),g3,g4⟩
 ·rw [e 7 (by decide),e 9 (by decide)]
  intro x
  obtain ⟨g1,old,g2,g3,g4⟩:=h.e4 x
  exact ⟨g1,old,hf.blk g2 (fun e=>e),g3,fun y=>by rw [h9] at y;cases y⟩
 ·rw [e 6 (by decide),e 7 (by decide)];exact h.ne
theorem W2.box1 (h:W2 w0 R1 R2 b d W) (k1:∀ r W W',R1 r W->Fresh W W'->R1 r W') (k2:∀ r W W',R2 r W->Fresh W W'->R2 r W') (Z:List Value) (hz:Z.length=7) (h8:d 8=false):W2 w0 R1 R2 { b with p:=W.heap.size } (Dag.upd d 6 true) (W.alloc (.cells Z.toArray 24)):=by
 have e:∀ k,k ≠ 6->Dag.upd d 6 true k=d k:=fun k hk=>Dag.upd_far _ _ hk
 have hf:Fresh W (W.alloc (.cells Z.toArray 24)):=(Touch.refl _ _).alloc _
 refine ⟨h.fr.trans hf (fun _ _ e=>e),?_,?_,fun _=>⟨h.fr.size,Z,Blk.new W _ Z,hz,?_⟩,?_,?_⟩
 ·rw [e 2 (by decide)];exact fun x=>k1 _ _ _ (h.e1 x) hf
 ·rw [e 5 (by decide)];exact fun x=>k2 _ _ _ (h.e2 x) hf
 ·rw [e 8 (by decide),h8];exact fun y=>by cases y
 ·rw [e 7 (by decide),e 9 (by decide)]
  intro x
  obtain ⟨g1,old,g2,g3,g4⟩:=h.e4 x
  exact ⟨g1,old,hf.blk g2 (fun e=>e),g3,g4⟩
 ·rw [e 7 (by decide)]
  intro _ x
  obtain ⟨g1,old,g2,g3,g4⟩:=h.e4 x
  have:=g2.lt
  show W.heap.size ≠ b.q
  omega
theorem W2.box2 (h:W2 w0 R1 R2 b d W) (k1:∀ r W W',R1 r W->Fresh W W'->R1 r W') (k2:∀ r W W',R2 r W->Fresh W W'->R2 r W') (Z:List Value) (hz:Z.length=7) (h9:d 9=false):W2 w0 R1 R2 { b with q:=W.heap.size } (Dag.upd d 7 true) (W.alloc (.cells Z.toArray 24)):=by
 have e:∀ k,k ≠ 7->Dag.upd d 7 true k=d k:=fun k hk=>Dag.upd_far _ _ hk
 have hf:Fresh W (W.alloc (.cells Z.toArray 24)):=(Touch.refl _ _).alloc _
 refine ⟨h.fr.trans hf (fun _ _ e=>e),?_,?_,?_,fun _=>⟨h.fr.size,Z,Blk.new W _ Z,hz,?_⟩,?_⟩
 ·rw [e 2 (by decide)];exact fun x=>k1 _ _ _ (h.e1 x) hf
 ·rw [e 5 (by decide)];exact fun x=>k2 _ _ _ (h.e2 x) hf
 ·rw [e 6 (by decide),e 8 (by decide)]
  intro x
  obtain ⟨g1,old,g2,g3,g4⟩:=h.e3 x
  exact ⟨g1,old,hf.blk g2 (fun e=>e),g3,g4⟩
 ·rw [e 9 (by decide),h9];exact fun y=>by cases y
 ·rw [e 6 (by decide)]
  intro x _
  obtain ⟨g1,old,g2,g3,g4⟩:=h.e3 x
  have:=g2.lt
  show b.p ≠ W.heap.size
  omega
theorem W2.put1 (h:W2 w0 R1 R2 b d W) (k1:∀ r W W' p cs,R1 r W->Blk W p 24 cs->Touch (· = p) W W'->R1 r W') (k2:∀ r W W' p cs,R2 r W->Blk W p 24 cs->Touch (· = p) W W'->R2 r W') (h6:d 6=true) (hl:b.r1.length=7) (hb:Blk W' b.p 24 b.r1) (ht:Touch (· = b.p) W W'):W2 w0 R1 R2 b (Dag.upd d 8 true) W':=by
 have e:∀ k,k ≠ 8->Dag.upd d 8 true k=d k:=fun k hk=>Dag.upd_far _ _ hk
 obtain ⟨g1,old,g2,g3,-⟩:=h.e3 h6
 refine ⟨h.fr.trans ht (fun k hk e=>by have e:k=b.p:=e;omega),?_,?_,fun _=>⟨g1,b.r1,hb,hl,fun _=>rfl⟩,?_,?_⟩
 ·rw [e 2 (by decide)];exact fun x=>k1 _ _ _ _ _ (h.e1 x) g2 ht
 ·rw [e 5 (by decide)];exact fun x=>k2 _ _ _ _ _ (h.e2 x) g2 ht
 ·rw [e 7 (by decide),e 9 (by decide)]
  intro x
  obtain ⟨q1,old',q2,q3,q4⟩:=h.e4 x
  exact ⟨q1,old',ht.blk q2 (Ne.symm (h.ne h6 x)),q3,q4⟩
 ·rw [e 6 (by decide),e 7 (by decide)];exact h.ne
theorem W2.put2 (h:W2 w0 R1 R2 b d W) (k1:∀ r W W' p cs,R1 r W->Blk W p 24 cs->Touch (· = p) W W'->R1 r W') (k2:∀ r W W' p cs,R2 r W->Blk W p 24 cs->Touch (· = p) W W'->R2 r W') (h7:d 7=true) (hl:b.r2.length=7) (hb:Blk W' b.q 24 b.r2) (ht:Touch (· = b.q) W W'):W2 w0 R1 R2 b (Dag.upd d 9 true) W':=by
 have e:∀ k,k ≠ 9->Dag.upd d 9 true k=d k:=fun k hk=>Dag.upd_far _ _ hk
 obtain ⟨g1,old,g2,g3,-⟩:=h.e4 h7
 refine ⟨h.fr.trans ht (fun k hk e=>by have e:k=b.q:=e;omega),?_,?_,?_,fun _=>⟨g1,b.r2,hb,hl,fun _=>rfl⟩,?_⟩
 ·rw [e 2 (by decide)];exact fun x=>k1 _ _ _ _ _ (h.e1 x) g2 ht
 ·rw [e 5 (by decide)];exact fun x=>k2 _ _ _ _ _ (h.e2 x) g2 ht
 ·rw [e 6 (by decide),e 8 (by decide)]
  intro x
  obtain ⟨q1,old',q2,q3,q4⟩:=h.e3 x
  exact ⟨q1,old',ht.blk q2 (h.ne x h7),q3,q4⟩
 ·rw [e 6 (by decide),e 7 (by decide)];exact h.ne
end
theorem cf16I:(Tryz.prog.info? 24).map (·.size)=some 7:=by kernel_rfl
def cf16Z:List Value:=[.int .i64 0,.int .i64 0,.int .i64 0,.int .i64 0,.int .i64 0,.int .i64 0,.slice none 0 0]
set_option maxRecDepth 20000
theorem r18I:(Tryz.prog.info? 26).map (·.size)=some 15:=by kernel_rfl
def Right18 (w:World) (x0 x1 x2 x3 x4 x5 y0 y1 y2 y3 y4 m:Int) (e:Ending) (w':World):Prop:=∃ g1 g2 c0 c1 c2 c3 c4 d0 d1 d2 d3 d4,e=.returned (.agg #[.int .i64 (max 1 (min x0 16)),.int .i64 (max 1 (min x1 64)),.int .i64 (max 1 (min x2 256)),.int .i64 (max 1 (min x3 64)),.int .i64 (max 1 (min x4 256)),.int .i64 (x5%16777216),.slice (some ⟨g1,0,none⟩) 5 5,.int .i64 (max 1 (min y0 16)),.int .i64 (max 1 (min y1 64)),.int .i64 (max 1 (min y2 256)),.int .i64 (max 1 (min y3 64)),.int .i64 (max 1 (min y4 256)),.int .i64 (x5%16777216),.slice (some ⟨g2,0,none⟩) 5 5,.int .i64 (max 1 (min m 256))])/\Sl intE w' (some ⟨g1,0,none⟩) 5 [c0,c1,c2,c3,c4]/\GoodC c0 c1 c2 c3 c4/\Sl intE w' (some ⟨g2,0,none⟩) 5 [d0,d1,d2,d3,d4]/\GoodC d0 d1 d2 d3 d4/\Fresh w w'
theorem right18_any (x0 x1 x2 x3 x4 x5 y0 y1 y2 y3 y4 y5 m:Int) (A A2:Option Addr) (c c2:Nat) (L L2:List Int) (w:World) (h:Rd intE w A c L) (h2:Rd intE w A2 c2 L2) :
  Calls Tryz.prog 10 #[.agg #[.int .i64 x0,.int .i64 x1,.int .i64 x2,.int .i64 x3,.int .i64 x4,.int .i64 x5,.slice A L.length c,.int .i64 y0,.int .i64 y1,.int .i64 y2,.int .i64 y3,.int .i64 y4,.int .i64 y5,.slice A2 L2.length c2,.int .i64 m]] w (Right18 w x0 x1 x2 x3 x4 x5 y0 y1 y2 y3 y4 m):=by
 obtain ⟨w1,hw1⟩:=xq ((w.alloc (.cells #[.int .i64 x0,.int .i64 x1,.int .i64 x2,.int .i64 x3,.int .i64 x4,.int .i64 x5,.slice A L.length c,.int .i64 y0,.int .i64 y1,.int .i64 y2,.int .i64 y3,.int .i64 y4,.int .i64 y5,.slice A2 L2.length c2,.int .i64 m] 26)).alloc (.cells #[.int .i64 0,.int .i64 0,.int .i64 0,.int .i64 0,.int .i64 0,.int .i64 0,.slice none 0 0,.int .i64 0,.int .i64 0,.int .i64 0,.int .i64 0,.int .i64 0,.int .i64 0,.slice none 0 0,.int .i64 0] 26))
 obtain ⟨bx,hbx⟩:=xq w.heap.size
 have hf1:Fresh w w1:=by rw [hw1];exact ((Touch.refl _ _).alloc _).alloc _
 have HBX:Hid (Blk w1 bx 26 ([.int .i64 x0,.int .i64 x1,.int .i64 x2,.int .i64 x3,.int .i64 x4,.int .i64 x5,.slice A L.length c]++[.int .i64 y0,.int .i64 y1,.int .i64 y2,.int .i64 y3,.int .i64 y4,.int .i64 y5,.slice A2 L2.length c2]++[.int .i64 m])):=by rw [hw1,hbx];exact (Blk.new w _ _).alloc _
 have HB2:Hid (Blk w1 (bx+1) 26 [.int .i64 0,.int .i64 0,.int .i64 0,.int .i64 0,.int .i64 0,.int .i64 0,.slice none 0 0,.int .i64 0,.int .i64 0,.int .i64 0,.int .i64 0,.int .i64 0,.int .i64 0,.slice none 0 0,.int .i64 0]):=by
  rw [hw1,hbx]
  have e:(w.alloc (.cells #[.int .i64 x0,.int .i64 x1,.int .i64 x2,.int .i64 x3,.int .i64 x4,.int .i64 x5,.slice A L.length c,.int .i64 y0,.int .i64 y1,.int .i64 y2,.int .i64 y3,.int .i64 y4,.int .i64 y5,.slice A2 L2.length c2,.int .i64 m] 26)).heap.size=w.heap.size+1:=by simp
  rw [<- e]
  exact Blk.new _ _ [.int .i64 0,.int .i64 0,.int .i64 0,.int .i64 0,.int .i64 0,.int .i64 0,.slice none 0 0,.int .i64 0,.int .i64 0,.int .i64 0,.int .i64 0,.int .i64 0,.int .i64 0,.slice none 0 0,.int .i64 0]
 have HF1:Hid (Fresh w w1):=hf1
 have HC1:Hid (∀ W,Fresh w1 W->Calls Tryz.prog 27 #[.agg ([.int .i64 x0,.int .i64 x1,.int .i64 x2,.int .i64 x3,.int .i64 x4,.int .i64 x5,.slice A L.length c]).toArray] W fun e w'=>∃ r,e=.returned (.agg r.toArray)/\RC x0 x1 x2 x3 x4 x5 r w'/\Fresh W w'):=fun W hW=>(right16_any x0 x1 x2 x3 x4 x5 A c L W (h.touch (hf1.trans hW (fun _ _ e=>e)) (fun _ _ _ e=>e))).mono fun e w' ⟨g,c0,c1,c2,c3,c4,e1,e2,e3,e4,_⟩=>⟨[.int .i64 (max 1 (min x0 16)),.int .i64 (max 1 (min x1 64)),.int .i64 (max 1 (min x2 256)),.int .i64 (max 1 (min x3 64)),.int .i64 (max 1 (min x4 256)),.int .i64 (x5%16777216),.slice (some ⟨g,0,none⟩) 5 5],e1,⟨g,c0,c1,c2,c3,c4,rfl,e2,e3⟩,e4⟩
 have HC2:Hid (∀ W,Fresh w1 W->Calls Tryz.prog 27 #[.agg ([.int .i64 y0,.int .i64 y1,.int .i64 y2,.int .i64 y3,.int .i64 y4,.int .i64 y5,.slice A2 L2.length c2]).toArray] W fun e w'=>∃ r,e=.returned (.agg r.toArray)/\RC y0 y1 y2 y3 y4 y5 r w'/\Fresh W w'):=fun W hW=>(right16_any y0 y1 y2 y3 y4 y5 A2 c2 L2 W (h2.touch (hf1.trans hW (fun _ _ e=>e)) (fun _ _ _ e=>e))).mono fun e w' ⟨g,c0,c1,c2,c3,c4,e1,e2,e3,e4,_⟩=>⟨[.int .i64 (max 1 (min y0 16)),.int .i64 (max 1 (min y1 64)),.int .i64 (max 1 (min y2 256)),.int .i64 (max 1 (min y3 64)),.int .i64 (max 1 (min y4 256)),.int .i64 (y5%16777216),.slice (some ⟨g,0,none⟩) 5 5],e1,⟨g,c0,c1,c2,c3,c4,rfl,e2,e3⟩,e4⟩
 have HLX:Hid (([.int .i64 x0,.int .i64 x1,.int .i64 x2,.int .i64 x3,.int .i64 x4,.int .i64 x5,.slice A L.length c]:List Value).length=7/\([.int .i64 y0,.int .i64 y1,.int .i64 y2,.int .i64 y3,.int .i64 y4,.int .i64 y5,.slice A2 L2.length c2]:List Value).length=7):=⟨rfl,rfl⟩
 have HRX:Hid (∀ W,Fresh w1 W->W.rangeAt bx 0 [.int .i64 x0,.int .i64 x1,.int .i64 x2,.int .i64 x3,.int .i64 x4,.int .i64 x5,.slice A L.length c]/\W.rangeAt bx 7 [.int .i64 y0,.int .i64 y1,.int .i64 y2,.int .i64 y3,.int .i64 y4,.int .i64 y5,.slice A2 L2.length c2]):=fun W hW=>by
  have hb:=hW.blk HBX.out (fun e=>e)
  refine ⟨hb.range_at 0 fun j v hv=>?_,hb.range_at 7 fun j v hv=>?_⟩
  ·rw [Nat.zero_add,List.append_assoc,List.getElem?_append_left (List.getElem?_eq_some_iff.1 hv).1]
   exact hv
  ·have e7:([.int .i64 x0,.int .i64 x1,.int .i64 x2,.int .i64 x3,.int .i64 x4,.int .i64 x5,.slice A L.length c]:List Value).length=7:=rfl
   rw [List.append_assoc,List.getElem?_append_right (by rw [e7];omega),e7,Nat.add_sub_cancel_left,List.getElem?_append_left (List.getElem?_eq_some_iff.1 hv).1]
   exact hv
 have HM:Hid (∀ W,Fresh w1 W->W.cell? ⟨bx,14,none⟩=some (.int .i64 m)):=fun W hW=>(hW.blk HBX.out (fun e=>e)).cell 14
 have HSB:Hid (bx+1<w1.heap.size):=HB2.out.lt
 have HWB:Hid (w.heap.size<=bx):=by rw [hbx];exact Nat.le_refl _
 clear h h2 hf1 HBX
 go_enter Tryz.func10,Tryz.ntmps10
 go_upto_region 1 with (fail)
 rw [<- hw1]
 rw [<- hbx]
 clear hw1 hbx
 generalize ([.int .i64 x0,.int .i64 x1,.int .i64 x2,.int .i64 x3,.int .i64 x4,.int .i64 x5,.slice A L.length c]:List Value)=xs at *
 generalize ([.int .i64 y0,.int .i64 y1,.int .i64 y2,.int .i64 y3,.int .i64 y4,.int .i64 y5,.slice A2 L2.length c2]:List Value)=ys at *
 have HINJ:Hid (∀ i,i<10->∀ j,j<10->g2slot i=g2slot j->i=j):=by
  show ∀ i,i<10->∀ j,j<10->g2slot i=g2slot j->i=j
  decide +kernel
 have HFD:Hid (∀ k,k ∈ g2D->g2idx k<10/\g2slot (g2idx k)=k):=by
  show ∀ k,k ∈ g2D->g2idx k<10/\g2slot (g2idx k)=k
  decide +kernel
 have K1:Hid (∀ r W W',RC x0 x1 x2 x3 x4 x5 r W->Fresh W W'->RC x0 x1 x2 x3 x4 x5 r W'):=fun r W W' h hf=>h.fresh hf
 have K2:Hid (∀ r W W',RC y0 y1 y2 y3 y4 y5 r W->Fresh W W'->RC y0 y1 y2 y3 y4 y5 r W'):=fun r W W' h hf=>h.fresh hf
 have P1:Hid (∀ r W W' p cs,RC x0 x1 x2 x3 x4 x5 r W->Blk W p 24 cs->Touch (· = p) W W'->RC x0 x1 x2 x3 x4 x5 r W'):=fun r W W' p cs h hb hf=>h.put hb hf
 have P2:Hid (∀ r W W' p cs,RC y0 y1 y2 y3 y4 y5 r W->Blk W p 24 cs->Touch (· = p) W W'->RC y0 y1 y2 y3 y4 y5 r W'):=fun r W W' p cs h hb hf=>h.put hb hf
 refine Dag.detP (by kernel_rfl) 10 g2D g2slot (g2val bx xs ys) (W2 w1 (RC x0 x1 x2 x3 x4 x5) (RC y0 y1 y2 y3 y4 y5)) ⟨[],[],0,0⟩ (fun b k=>g2val bx xs ys b (g2idx k)) (by rfl) (fun i j hi hj=>HINJ.out i hi j hj) (by decide +kernel)
  ⟨(Touch.refl _ _).drew,fun e=>(by cases e),fun e=>(by cases e),fun e=>(by cases e),fun e=>(by cases e),fun e=>(by cases e)⟩ (by decide +kernel) ⟨?_,?_,?_,?_,?_,?_,?_,?_,?_,?_,trivial⟩ (fun b k hk=>⟨g2idx k,(HFD.out k hk).1,(HFD.out k hk).2,rfl⟩) ?_
 ·refine ⟨rfl,fun s hs=>(by cases hs;exact ⟨rfl,by decide⟩),fun b dn R W hi hp hcl hm hW=>?_⟩
  have q1:R.eval (.tmp 1)=.pointer (some ⟨bx,0,none⟩):=(hm.old 1 (by decide)).trans rfl
  refine .value 5 rfl (.pointer (some ⟨bx,0,none⟩)) W ?_ ⟨b,rfl,fun _ _ _=>rfl,hW.step (by decide)⟩
  clear hi hp hcl hm hW
  unfold execOp
  generalize R.eval=ρ at *
  go_simp
 ·refine ⟨rfl,fun s hs=>(by cases hs;exact ⟨rfl,by decide⟩),fun b dn R W hi hp hcl hm hW=>.value 6 rfl _ W (exec_loadB (b:=bx) (k:=0) (cs:=xs) rfl (hm.got 0 (by decide) (hp 0 (by decide +kernel)) (by decide) (by show (5:Nat)<21;decide)) (HRX.out W hW.fr).1 Tryz.underlying24 rfl (by rw [HLX.out.1];exact cf16I)) ⟨b,rfl,fun _ _ _=>rfl,hW.step (by decide)⟩⟩
 ·refine ⟨rfl,fun s hs=>(by cases hs;exact ⟨rfl,by decide⟩),fun b dn R W hi hp hcl hm hW=>?_⟩
  have q6:R.eval (.tmp 6)=.agg xs.toArray:=hm.got 1 (by decide) (hp 1 (by decide +kernel)) (by decide) (by show (6:Nat)<21;decide)
  have qf:R.eval (.func 27)=.func (.func 27) #[] #[]:=hm.cst _ (fun k e=>by cases e)
  have h8:dn 8=false:=by
   cases hx:dn 8 with
   |false=>rfl
   |true=>have:=hcl 8 2 (by decide +kernel) hx;rw [hi] at this;cases this
  refine .call 7 rfl 27 #[.agg xs.toArray] ?_ ((HC1.out W hW.fr).mono ?_)
  ·clear hi hp hcl hm hW h8
   unfold execOp
   generalize R.eval=ρ at *
   go_simp
  ·rintro e W' ⟨r,rfl,hr,hf⟩
   refine ⟨_,rfl,{ b with r1:=r },rfl,fun j hj hdj=>?_,hW.call1 K2.out hf hr h8⟩
   rcases (show j=0\/j=1\/j=2\/j=3\/j=4\/j=5\/j=6\/j=7\/j=8\/j=9 by omega) with rfl | rfl | rfl | rfl | rfl | rfl | rfl | rfl | rfl | rfl <;> first | rfl | (rw [hi] at hdj;cases hdj)
 ·refine ⟨rfl,fun s hs=>(by cases hs;exact ⟨rfl,by decide⟩),fun b dn R W hi hp hcl hm hW=>?_⟩
  have q1:R.eval (.tmp 1)=.pointer (some ⟨bx,0,none⟩):=(hm.old 1 (by decide)).trans rfl
  refine .value 8 rfl (.pointer (some ⟨bx,7,none⟩)) W ?_ ⟨b,rfl,fun _ _ _=>rfl,hW.step (by decide)⟩
  clear hi hp hcl hm hW
  unfold execOp
  generalize R.eval=ρ at *
  go_simp
 ·refine ⟨rfl,fun s hs=>(by cases hs;exact ⟨rfl,by decide⟩),fun b dn R W hi hp hcl hm hW=>.value 9 rfl _ W (exec_loadB (b:=bx) (k:=7) (cs:=ys) rfl (hm.got 3 (by decide) (hp 3 (by decide +kernel)) (by decide) (by show (8:Nat)<21;decide)) (HRX.out W hW.fr).2 Tryz.underlying24 rfl (by rw [HLX.out.2];exact cf16I)) ⟨b,rfl,fun _ _ _=>rfl,hW.step (by decide)⟩⟩
 ·refine ⟨rfl,fun s hs=>(by cases hs;exact ⟨rfl,by decide⟩),fun b dn R W hi hp hcl hm hW=>?_⟩
  have q9:R.eval (.tmp 9)=.agg ys.toArray:=hm.got 4 (by decide) (hp 4 (by decide +kernel)) (by decide) (by show (9:Nat)<21;decide)
  have qf:R.eval (.func 27)=.func (.func 27) #[] #[]:=hm.cst _ (fun k e=>by cases e)
  have h9:dn 9=false:=by
   cases hx:dn 9 with
   |false=>rfl
   |true=>have:=hcl 9 5 (by decide +kernel) hx;rw [hi] at this;cases this
  refine .call 10 rfl 27 #[.agg ys.toArray] ?_ ((HC2.out W hW.fr).mono ?_)
  ·clear hi hp hcl hm hW h9
   unfold execOp
   generalize R.eval=ρ at *
   go_simp
  ·rintro e W' ⟨r,rfl,hr,hf⟩
   refine ⟨_,rfl,{ b with r2:=r },rfl,fun j hj hdj=>?_,hW.call2 K1.out hf hr h9⟩
   rcases (show j=0\/j=1\/j=2\/j=3\/j=4\/j=5\/j=6\/j=7\/j=8\/j=9 by omega) with rfl | rfl | rfl | rfl | rfl | rfl | rfl | rfl | rfl | rfl <;> first | rfl | (rw [hi] at hdj;cases hdj)
 ·refine ⟨rfl,fun s hs=>(by cases hs;exact ⟨rfl,by decide⟩),fun b dn R W hi hp hcl hm hW=>?_⟩
  have h8:dn 8=false:=by
   cases hx:dn 8 with
   |false=>rfl
   |true=>have:=hcl 8 6 (by decide +kernel) hx;rw [hi] at this;cases this
  refine .value 3 rfl (.pointer (some ⟨W.heap.size,0,none⟩)) (W.alloc (.cells cf16Z.toArray 24)) ?_ ⟨{ b with p:=W.heap.size },rfl,fun j hj hdj=>?_,hW.box1 K1.out K2.out cf16Z rfl h8⟩
  ·clear hi hp hcl hm hW h8
   unfold execOp
   generalize R.eval=ρ at *
   go_simp
   try rfl
  ·rcases (show j=0\/j=1\/j=2\/j=3\/j=4\/j=5\/j=6\/j=7\/j=8\/j=9 by omega) with rfl | rfl | rfl | rfl | rfl | rfl | rfl | rfl | rfl | rfl <;> first | rfl | (rw [hi] at hdj;cases hdj)
 ·refine ⟨rfl,fun s hs=>(by cases hs;exact ⟨rfl,by decide⟩),fun b dn R W hi hp hcl hm hW=>?_⟩
  have h9:dn 9=false:=by
   cases hx:dn 9 with
   |false=>rfl
   |true=>have:=hcl 9 7 (by decide +kernel) hx;rw [hi] at this;cases this
  refine .value 4 rfl (.pointer (some ⟨W.heap.size,0,none⟩)) (W.alloc (.cells cf16Z.toArray 24)) ?_ ⟨{ b with q:=W.heap.size },rfl,fun j hj hdj=>?_,hW.box2 K1.out K2.out cf16Z rfl h9⟩
  ·clear hi hp hcl hm hW h9
   unfold execOp
   generalize R.eval=ρ at *
   go_simp
   try rfl
  ·rcases (show j=0\/j=1\/j=2\/j=3\/j=4\/j=5\/j=6\/j=7\/j=8\/j=9 by omega) with rfl | rfl | rfl | rfl | rfl | rfl | rfl | rfl | rfl | rfl <;> first | rfl | (rw [hi] at hdj;cases hdj)
 ·refine ⟨rfl,fun s hs=>(by cases hs),fun b dn R W hi hp hcl hm hW=>?_⟩
  have d6:=hp 6 (by decide +kernel)
  obtain ⟨g1,old,hb,hl,-⟩:=hW.e3 d6
  obtain ⟨l7,o7⟩:=(hW.e1 (hp 2 (by decide +kernel))).len
  have hp':old.take 0++b.r1++old.drop (0+b.r1.length)=b.r1:=by rw [List.take_zero,List.nil_append,Nat.zero_add,List.drop_of_length_le (by omega),List.append_nil]
  exact .skip rfl undef _ (exec_storeB (cs:=b.r1) (b:=b.p) (k:=0) rfl (hm.got 6 (by decide) d6 (by decide) (by show (3:Nat)<21;decide)) (hm.got 2 (by decide) (hp 2 (by decide +kernel)) (by decide) (by show (7:Nat)<21;decide)) (hb.there_at 0 (by omega)) (by rw [l7];exact cf16I) o7) ⟨b,rfl,fun _ _ _=>rfl,hW.put1 P1.out P2.out d6 l7 ((Blk.setCells_at b.r1 0 hb (by omega)).eq_cells hp') (Touch.setCells (S:=(· = b.p)) rfl b.r1 0 (Touch.refl _ _))⟩
 ·refine ⟨rfl,fun s hs=>(by cases hs),fun b dn R W hi hp hcl hm hW=>?_⟩
  have d7:=hp 7 (by decide +kernel)
  obtain ⟨g1,old,hb,hl,-⟩:=hW.e4 d7
  obtain ⟨l7,o7⟩:=(hW.e2 (hp 5 (by decide +kernel))).len
  have hp':old.take 0++b.r2++old.drop (0+b.r2.length)=b.r2:=by rw [List.take_zero,List.nil_append,Nat.zero_add,List.drop_of_length_le (by omega),List.append_nil]
  exact .skip rfl undef _ (exec_storeB (cs:=b.r2) (b:=b.q) (k:=0) rfl (hm.got 7 (by decide) d7 (by decide) (by show (4:Nat)<21;decide)) (hm.got 5 (by decide) (hp 5 (by decide +kernel)) (by decide) (by show (10:Nat)<21;decide)) (hb.there_at 0 (by omega)) (by rw [l7];exact cf16I) o7) ⟨b,rfl,fun _ _ _=>rfl,hW.put2 P1.out P2.out d7 l7 ((Blk.setCells_at b.r2 0 hb (by omega)).eq_cells hp') (Touch.setCells (S:=(· = b.q)) rfl b.r2 0 (Touch.refl _ _))⟩
 ·intro b dn w4 hd hW
  obtain ⟨g1,old1,hb1,hl1,ho1⟩:=hW.e3 (hd 6 (by decide))
  obtain ⟨g2,old2,hb2,hl2,ho2⟩:=hW.e4 (hd 7 (by decide))
  have hne:=hW.ne (hd 6 (by decide)) (hd 7 (by decide))
  have hq1:=ho1 (hd 8 (by decide))
  have hq2:=ho2 (hd 9 (by decide))
  clear ho1 ho2
  have hr1:=hW.e1 (hd 2 (by decide))
  have hr2:=hW.e2 (hd 5 (by decide))
  have hfr:=hW.fr
  clear hW hd
  obtain ⟨r1,r2,p,q⟩:=b
  dsimp only at g1 hb1 hq1 g2 hb2 hq2 hne hr1 hr2
  subst hq1 hq2
  obtain ⟨a1,c0,c1,c2,c3,c4,rfl,s1,k1⟩:=hr1
  obtain ⟨a2,d0,d1,d2,d3,d4,rfl,s2,k2⟩:=hr2
  have v5:w4.cell? ⟨p,5,none⟩=some (.int .i64 (x5%16777216)):=hb1.cell 5
  have v6:w4.cell? ⟨q,5,none⟩=some (.int .i64 (y5%16777216)):=hb2.cell 5
  have f6:=hb2.frozen 5
  have T5:=Touch.set1 w4 q 5 (.int .i64 (x5%16777216))
  have HB1:=lh (T5.blk hb1 hne)
  have HQ1:=lh (hb2.set 5 (.int .i64 (x5%16777216)))
  have HS1:=lh (s1.touch T5 (fun ad ha e=>s1.blk_ne hb2 (by decide) ad ha e))
  have HS2:=lh (s2.touch T5 (fun ad ha e=>s2.blk_ne hb2 (by decide) ad ha e))
  have HF5:Hid (Fresh w1 (w4.setCell ⟨q,5,none⟩ (.int .i64 (x5%16777216)))):=hfr.trans T5 (fun k hk e=>by have e:k=q:=e;omega)
  have HKK:Hid (GoodC c0 c1 c2 c3 c4/\GoodC d0 d1 d2 d3 d4):=⟨k1,k2⟩
  clear hb1 hb2 hne hl1 hl2 s1 s2 k1 k2 hfr T5 g1 g2 HC1 HC2 HLX HRX HINJ HFD K1 K2 P1 P2
  simp only [g2D,Dag.actOf,List.foldl_cons,List.foldl_nil,g2val,g2idx]
  go_upto_region 3 with (fail)
  generalize w4.setCell ⟨q,5,none⟩ (.int .i64 (x5%16777216))=w5 at *
  have z0:=HB1.out.cell 0
  have z1:=HB1.out.cell 1
  have z2:=HB1.out.cell 2
  have z3:=HB1.out.cell 3
  have z4:=HB1.out.cell 4
  have z5:=HB1.out.cell 5
  have z6:=HB1.out.cell 6
  have t0:=HQ1.out.cell 0
  have t1:=HQ1.out.cell 1
  have t2:=HQ1.out.cell 2
  have t3:=HQ1.out.cell 3
  have t4:=HQ1.out.cell 4
  have t5:=HQ1.out.cell 5
  have t6:=HQ1.out.cell 6
  have m0:=HM.out _ HF5.out
  have HBR:=lh (HF5.out.blk HB2.out (fun e=>e))
  have HW:Hid (w.heap.size<bx+1/\bx+1<w1.heap.size):=⟨by have:=HWB.out;omega,HSB.out⟩
  clear HB1 HQ1 HM HB2 HSB HWB
  have HRI:=lh r18I
  obtain ⟨m1,hm1⟩:=qx ((if 256<m then 256 else m))
  obtain ⟨m2,hm2⟩:=qx ((if 1<m1 then m1 else 1))
  have HMM:Hid (max 1 (min m 256)=m2):=by
   unfold Hid
   rw [<- hm2,<- hm1];(split <;> (try split) <;> omega)
  go_wp2_with (refine wpList_storeB rfl _ (.tmp 2) (.tmp 20) rfl (bx+1) 0 (by rfl) [.int .i64 (max 1 (min x0 16)),.int .i64 (max 1 (min x1 64)),.int .i64 (max 1 (min x2 256)),.int .i64 (max 1 (min x3 64)),.int .i64 (max 1 (min x4 256)),.int .i64 (x5%16777216),.slice (some ⟨a1,0,none⟩) 5 5,.int .i64 (max 1 (min y0 16)),.int .i64 (max 1 (min y1 64)),.int .i64 (max 1 (min y2 256)),.int .i64 (max 1 (min y3 64)),.int .i64 (max 1 (min y4 256)),.int .i64 (x5%16777216),.slice (some ⟨a2,0,none⟩) 5 5,.int .i64 (max 1 (min m 256))] (by rfl) HBR.out (Nat.le_of_ble_eq_true rfl) HRI.out (by simp [Value.oneCell']) ?_;intro w6 hB ht)
  have HE:Hid (Right18 w x0 x1 x2 x3 x4 x5 y0 y1 y2 y3 y4 m (.returned (.agg #[.int .i64 (max 1 (min x0 16)),.int .i64 (max 1 (min x1 64)),.int .i64 (max 1 (min x2 256)),.int .i64 (max 1 (min x3 64)),.int .i64 (max 1 (min x4 256)),.int .i64 (x5%16777216),.slice (some ⟨a1,0,none⟩) 5 5,.int .i64 (max 1 (min y0 16)),.int .i64 (max 1 (min y1 64)),.int .i64 (max 1 (min y2 256)),.int .i64 (max 1 (min y3 64)),.int .i64 (max 1 (min y4 256)),.int .i64 (x5%16777216),.slice (some ⟨a2,0,none⟩) 5 5,.int .i64 (max 1 (min m 256))])) w6):=
   ⟨a1,a2,c0,c1,c2,c3,c4,d0,d1,d2,d3,d4,rfl,HS1.out.touch ht (fun ad ha e=>HS1.out.blk_ne HBR.out (by decide) ad ha e),HKK.out.1,HS2.out.touch ht (fun ad ha e=>HS2.out.blk_ne HBR.out (by decide) ad ha e),HKK.out.2,(HF1.out.trans HF5.out (fun _ _ e=>e)).trans ht (fun k hk e=>by have e:k=bx+1:=e;have:=HW.out;omega)⟩
  refine bodyPost_ret (v:=_) (results_c rfl _ rfl hB.range Tryz.underlying26 rfl HRI.out) rfl ?_
  exact HE.out
end Go.Proofs.YtlbopdfobgjjaaaGreatDoor

/-
  polliwogtop.PolliwogSetUp, out of the row's reading. No conditions.
-/
import Derived.Test.YtlbopdfobgjjaaaGreatDoorLkL
import Derived.Test.YtlbopdfobgjjaaaGreatDoorOpen2
import Derived.Lib.SmallJoins
namespace Go.Proofs.YtlbopdfobgjjaaaGreatDoor
open Go.RowKit Go.ChangeShapes Go.WideShapes Go.ChangeAt
set_option linter.constructorNameAsVariable false
theorem len7 {α:Type} {cs:List α} (h:cs.length=7):∃ c0 c1 c2 c3 c4 c5 c6,cs=[c0,c1,c2,c3,c4,c5,c6]:=by
 match cs,h with
 |[c0,c1,c2,c3,c4,c5,c6],_=>exact ⟨c0,c1,c2,c3,c4,c5,c6,rfl⟩
theorem len1 {α:Type} {cs:List α} (h:cs.length=1):∃ c0,cs=[c0]:=by
 match cs,h with
 |[c0],_=>exact ⟨c0,rfl⟩
set_option maxRecDepth 100000 in
theorem open_cfg {w:World} {H:Type} {enc:TypeId × Value->H} {n:Nat} {cs:List Value} {y:DataW H × List MemPlace} (h:DataW.trod enc Tryz.prog w 0 (fun _=>true) true n 24 cs=some y) :
  ∃ x0 x1 x2 x3 x4 x5 A c L,cs=[.int .i64 x0,.int .i64 x1,.int .i64 x2,.int .i64 x3,.int .i64 x4,.int .i64 x5,.slice A (List.length L) c]/\Rd intE w A c L:=by
 obtain ⟨hl,m,hm⟩:=open_fields Tryz.underlying24 (by kernel_rfl) (by kernel_rfl) h
 obtain ⟨v0,v1,v2,v3,v4,v5,v6,rfl⟩:=len7 (hl.trans (by rfl))
 obtain ⟨y0,h0⟩:=hm 0 _ rfl
 obtain ⟨y1,h1⟩:=hm 1 _ rfl
 obtain ⟨y2,h2⟩:=hm 2 _ rfl
 obtain ⟨y3,h3⟩:=hm 3 _ rfl
 obtain ⟨y4,h4⟩:=hm 4 _ rfl
 obtain ⟨y5,h5⟩:=hm 5 _ rfl
 obtain ⟨y6,h6⟩:=hm 6 _ rfl
 obtain ⟨x0,e0,_,_⟩:=DataW.trod_int Tryz.underlying3 h0
 obtain ⟨x1,e1,_,_⟩:=DataW.trod_int Tryz.underlying3 h1
 obtain ⟨x2,e2,_,_⟩:=DataW.trod_int Tryz.underlying3 h2
 obtain ⟨x3,e3,_,_⟩:=DataW.trod_int Tryz.underlying3 h3
 obtain ⟨x4,e4,_,_⟩:=DataW.trod_int Tryz.underlying3 h4
 obtain ⟨x5,e5,_,_⟩:=DataW.trod_int Tryz.underlying3 h5
 obtain ⟨A,c,L,rfl,r6,_⟩:=open_rd_cell intE Tryz.underlying22 (by kernel_rfl) (Good:=fun _=>True) (fun n cs y hy=>by
  obtain ⟨x,rfl,_,_⟩:=DataW.trod_int Tryz.underlying3 hy
  exact ⟨x,rfl,trivial⟩) h6
 injection e0 with e0
 injection e1 with e1
 injection e2 with e2
 injection e3 with e3
 injection e4 with e4
 injection e5 with e5
 subst e0 e1 e2 e3 e4 e5
 exact ⟨_,_,_,_,_,_,A,c,L,rfl,r6⟩
set_option maxRecDepth 100000 in
theorem open_config18 (v:Value) (w:World) {H:Type} {enc:TypeId × Value->H} {base:Nat} {d:DataW H} {p:List MemPlace} (hv:Value.okWide Tryz.prog w .any base 26 v) (h:DataW.Trod enc Tryz.prog w 0 (fun _=>true) true 26 v d p) :
  ∃ x0 x1 x2 x3 x4 x5 A c L y0 y1 y2 y3 y4 y5 A2 c2 L2 m,v=.agg #[.int .i64 x0,.int .i64 x1,.int .i64 x2,.int .i64 x3,.int .i64 x4,.int .i64 x5,.slice A (List.length L) c,.int .i64 y0,.int .i64 y1,.int .i64 y2,.int .i64 y3,.int .i64 y4,.int .i64 y5,.slice A2 (List.length L2) c2,.int .i64 m]/\Rd intE w A c L/\Rd intE w A2 c2 L2:=by
 obtain ⟨cs,rfl,hsz⟩:=okWide_struct Tryz.underlying26 hv
 have hsz:cs.size=15:=hsz.trans (by kernel_rfl)
 obtain ⟨fuel,hf⟩:=h
 obtain ⟨xs,n,_,_,hl,hlen,hq⟩:=DataW.trod_struct Tryz.underlying26 hf
 have hlen:xs.length=3:=hlen
 have h0:=hq 0 _ rfl
 have h1:=hq 1 _ rfl
 have h2:=hq 2 _ rfl
 rw [List.getElem?_eq_getElem (by omega)] at h0 h1 h2
 obtain ⟨l⟩:=cs
 have hl15:l.length=15:=hsz
 have k7:Tryz.prog.cellsOf 24=7:=by kernel_rfl
 have k1:Tryz.prog.cellsOf 3=1:=by kernel_rfl
 have h0:DataW.trod enc Tryz.prog w 0 (fun _=>true) true n 24 (List.take (Tryz.prog.cellsOf 24) (List.drop 0 l))=some xs[0]:=h0
 have h1:DataW.trod enc Tryz.prog w 0 (fun _=>true) true n 24 (List.take (Tryz.prog.cellsOf 24) (List.drop 7 l))=some xs[1]:=h1
 have h2:DataW.trod enc Tryz.prog w 0 (fun _=>true) true n 3 (List.take (Tryz.prog.cellsOf 3) (List.drop 14 l))=some xs[2]:=h2
 rw [k7] at h0 h1
 rw [k1] at h2
 obtain ⟨x0,x1,x2,x3,x4,x5,A,c,L,e0,r0⟩:=open_cfg h0
 obtain ⟨y0,y1,y2,y3,y4,y5,A2,c2,L2,e1,r1⟩:=open_cfg h1
 obtain ⟨v14,e2⟩:∃ v14,List.take 1 (List.drop 14 l)=[v14]:=len1 (by rw [List.length_take,List.length_drop,hl15];rfl)
 rw [e2] at h2
 obtain ⟨m,em,_,_⟩:=DataW.trod_int Tryz.underlying3 h2
 injection em with em
 subst em
 refine ⟨x0,x1,x2,x3,x4,x5,A,c,L,y0,y1,y2,y3,y4,y5,A2,c2,L2,m,?_,r0,r1⟩
 have el:l=List.take 7 (List.drop 0 l)++(List.take 7 (List.drop 7 l)++List.take 1 (List.drop 14 l)):=by
  rw [List.drop_zero,show List.drop 14 l=List.drop 7 (List.drop 7 l) by rw [List.drop_drop],List.take_of_length_le (l:=List.drop 7 (List.drop 7 l)) (by rw [List.drop_drop,List.length_drop,hl15];decide),List.take_append_drop,List.take_append_drop]
 rw [el,e0,e1,e2]
 rfl
set_option maxRecDepth 100000 in
theorem polliwogSetUp.walk (v v2 v3:Value) (w:World) {H:Type} {enc:TypeId × Value->H} {base:Nat} {d d2 d3:DataW H} {p p2 p3:List MemPlace} (hv:Value.okWide Tryz.prog w .any base 26 v) (h:DataW.Trod enc Tryz.prog w 0 (fun _=>true) true 26 v d p)
  (hv2:Value.okWide Tryz.prog w .any base 27 v2) (h2:DataW.Trod enc Tryz.prog w 0 (fun _=>true) true 27 v2 d2 p2) (hv3:Value.okWide Tryz.prog w .any base 3 v3) (h3:DataW.Trod enc Tryz.prog w 0 (fun _=>true) true 3 v3 d3 p3) :
  Calls Tryz.prog 3 #[v,v2,v3] w fun e w'=>e=.returned (.bool true)/\Below w.heap.size w w':=by
 obtain ⟨x0,x1,x2,x3,x4,x5,A,c,L,y0,y1,y2,y3,y4,y5,A2,c2,L2,m,rfl,r1,r2⟩:=open_config18 v w hv h
 obtain ⟨A3,c3,M,rfl,r3,_⟩:=open_rd lostE Tryz.underlying27 (by kernel_rfl) (Good:=fun _=>True) (fun n cs y hy=>by
  obtain ⟨x,rfl,_⟩:=DataW.trod_bool Tryz.underlying4 hy
  exact ⟨x,rfl,trivial⟩) hv2 h2
 obtain ⟨x,rfl,_,_,_⟩:=open_int Tryz.underlying3 hv3 h3
 exact (polliwogSetUp.core x0 x1 x2 x3 x4 x5 y0 y1 y2 y3 y4 y5 m A A2 A3 c c2 c3 L L2 M x w r1 r2 r3).mono fun e w' ⟨he,ht⟩=>⟨he,ht.below (Nat.le_refl _) (fun _ _ e=>e)⟩
end Go.Proofs.YtlbopdfobgjjaaaGreatDoor

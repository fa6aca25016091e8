/-
  rules: what is done with a unit, and which requests may be · rules: the two tables, Of, May · polliwogref13: the document's answers for rules; Letter, Name · Maps whose keys are seq.Num.
-/
import Derived.Test.YtlbopdfobgjjaaaGreatDoorEvD
import Derived.Test.YtlbopdfobgjjaaaGreatDoorMapD
import Derived.Deep.DeepCutAuto
import Derived.Deep.CutBlock
import Derived.PlainAid
import Derived.Test.YtlbopdfobgjjaaaGreatDoorRows
set_option maxHeartbeats 4000000
namespace Go.Proofs.YtlbopdfobgjjaaaGreatDoor
open Go.RowKit
theorem placeI:∃ i,Tryz.prog.info? 3=some i/\i.size=1:=by
 obtain ⟨i,h1,_,h2,_⟩:=info_parts Tryz.infoInt
 exact ⟨i,h1,h2⟩
def placeK:KT Tryz.prog (Int × Int):=KT.pair 191 3 .i64 Tryz.underlying191 Tryz.underlying3 placeI
namespace Ru
abbrev Tbl:=List ((Int × Int) × Int)
def row (m:Tbl) (s x:Int) (ks:List Int):Tbl:=ks.foldl (fun m k=>mset m (s,k) x) m
def lift (m:Tbl):MList (Int × Int):=m.map fun p=>(p.1,Value.int .i64 p.2)
def tblS (m:Tbl) (s:Int):Tbl:=
 let m:=row m s 1 [1,13,14]
 let m:=if s=2 then m else row m s 1 [3]
 let m:=if 5<=s then row (row m s 1 [5]) s 4 [4,7] else m
 if 7<=s then row m s 1 [9] else m
def tblTo:Nat->Tbl
 |0=>[]
 |k+1=>tblS (tblTo k) ((k:Int)+1)
def tbl:Tbl:=
 row (row (row (row (row (row (row (row (tblTo 10) 1 3 [2,5,6,8,9,10,11,12,15]) 1 2 [7]) 2 1 [2,7]) 3 2 [2,4,5,6,7,8,9,10,11,12,15]) 4 1 [4,7]) 5 1 [6]) 7 1 [15]) 10 1 [8,10,11,12]
def reqS (m:Tbl) (s:Int):Tbl:=
 let m:=row m s 1 [8,9,10,11]
 if s=1\/s=4 then m else row m s 1 [3]
def reqTo:Nat->Tbl
 |0=>[]
 |k+1=>reqS (reqTo k) ((k:Int)+1)
def req:Tbl:=
 row (row (row (row (row (row (row (reqTo 10) 1 1 [1]) 4 1 [1]) 3 1 [2]) 6 1 [5]) 8 1 [4,6]) 9 1 [6]) 10 1 [4,7]
def of_ (s k:Int):Int:=(mget tbl (s,k)).getD 0
def may (s k:Int):Bool:=(mget req (s,k)).getD 0==1
theorem lift_get (m:Tbl) (p:Int × Int):(mget (lift m) p).getD (.int .i64 0)=.int .i64 ((mget m p).getD 0):=by
 unfold lift
 rw [mget_lift]
 cases mget m p <;> rfl
end Ru
theorem Rd.map_ne {α κ:Type} [DecidableEq κ] {P:Program} {K:KT P κ} {E:El α} {w:World} {A:Option Addr} {c b:Nat} {l:List α} {m:MList κ} (h:Rd E w A c l) (hm:MapAt K w b m) (hl:0<l.length):∀ ad,A=some ad->ad.block ≠ b:=by
 intro ad ha e
 have h0:=h.2.2.2 ad ha 0 _ (List.getElem?_eq_getElem (show 0<(E.all l).length by rw [E.all_len];exact Nat.mul_pos hl E.pos))
 obtain ⟨_,es,cl,hb,_⟩:=hm
 subst e
 have hb2:w.heap[(ad.add 0).block]?=some (.map es cl):=by rw [block_of_add];exact hb
 simp [World.cell?,hb2] at h0
theorem row_any (b c:Nat) (A:Option Addr) (m:Ru.Tbl) (s x:Int) (ks:List Int) (w:World) (hm:MapAt placeK w b (Ru.lift m)) (hr:Rd intE w A c ks) :
  Calls Tryz.prog 118 #[.map (some b),.int .i64 s,.int .i64 x,.slice A ks.length c] w fun e w'=>e=.returned (.tuple #[])/\MapAt placeK w' b (Ru.lift (Ru.row m s x ks))/\Touch (· = b) w w':=by
 have hlc:=hr.1
 have hcm:=hr.2.1
 unfold maxLen at hcm
 have HR:=lh hr
 have HM:=lh hm
 clear hr hm
 go_enter Tryz.func118,Tryz.ntmps118
 go_wp2_with fail
 go_loopw [12] (fun i wr=>∃ k:Nat,k<=ks.length/\i=.int .i64 k/\MapAt placeK wr b (Ru.lift (Ru.row m s x (ks.take k)))/\Touch (· = b) w wr) (fun i _=>ks.length-(intOf i).toNat)
 case atStart=>exact ⟨0,by omega,rfl,HM.out,Touch.refl _ _⟩
 case round =>
  obtain ⟨k,hk,rfl,hmr,ht⟩:=hrel
  by_cases hlt:k<ks.length
  ·obtain ⟨g,o,rfl,hg,hc⟩:=(HR.out.touch ht (fun ad ha hl=>HR.out.map_ne HM.out (by omega) ad ha)).int_at k hlt
   have hstep:Ru.row m s x (ks.take (k+1))=mset (Ru.row m s x (ks.take k)) (s,ks.getD k 0) x:=by
    unfold Ru.row
    rw [List.take_succ_eq_append_getElem hlt,List.foldl_append]
    simp [List.getD,List.getElem?_eq_getElem hlt]
   have HS:=lh hstep
   have HMR:=lh hmr
   have HT:=lh ht
   clear hstep hmr ht
   generalize ks.getD k 0=y at *
   go_wp2_with (refine wpList_storeM rfl rfl (k:=(s,y)) rfl rfl HMR.out Tryz.underlying188 ?_;intro w' hm' ht')
   go_roundw
   case rel =>
    refine ⟨k+1,by omega,by go_num,?_,HT.out.trans ht' (fun _ _ h=>h)⟩
    rw [HS.out]
    unfold Ru.lift
    rw [<- mset_lift]
    exact hm'
   case measure=>simp [intOf];omega
  ·have hkk:k=ks.length:=by omega
   subst hkk
   have HX:Hid (MapAt placeK wr b (Ru.lift (Ru.row m s x ks))/\Touch (· = b) w wr):=by
    rw [List.take_length] at hmr
    exact ⟨hmr,ht⟩
   clear hmr ht
   go_wp2
   go_end0
   exact ⟨rfl,HX.out.1,HX.out.2⟩
theorem row_lit {b:Nat} {m:Ru.Tbl} {s x:Int} {ks:List Int} {cs:Array Value} {w w0:World} {g n:Nat} (hm:MapAt placeK w b (Ru.lift m)) (ht:Touch (fun k=>w0.heap.size<=k) w0 w) (hb:w0.heap.size<=b)
  (hcs:cs.toList=intE.all ks) (hg:w.heap.size=g) (hn:n=ks.length) (hs:ks.length<=100) :
  Calls Tryz.prog 118 #[.map (some b),.int .i64 s,.int .i64 x,.slice (some ⟨g,0,none⟩) n n] (w.alloc (.cells cs 3)) fun e w'=>e=.returned (.tuple #[])/\MapAt placeK w' b (Ru.lift (Ru.row m s x ks))/\Touch (fun k=>w0.heap.size<=k) w0 w':=by
 subst hn
 refine (row_any b _ _ m s x ks _ (hm.alloc _) (Sl.rd (Sl.lit intE w g hg cs ks hcs _ rfl (by simp only [maxLen];omega)))).mono ?_
 rintro e w' ⟨he,hm',ht'⟩
 refine ⟨he,hm',(ht.alloc _).trans ht' ?_⟩
 intro k hk e
 have:k=b:=e
 omega
theorem table_any (w:World) :
  Calls Tryz.prog 222 #[] w fun e w'=>∃ b,e=.returned (.map (some b))/\MapAt placeK w' b (Ru.lift Ru.tbl)/\Fresh w w':=by
 have hmm:=@run_makeMap Tryz.prog
 go_enter Tryz.func222,Tryz.ntmps222
 go_wp2_with fail
 go_loopw [2] (fun i wr=>∃ k:Nat,k<=10/\i=.int .i64 ((k:Int)+1)/\MapAt placeK wr w.heap.size (Ru.lift (Ru.tblTo k))/\Touch (fun k=>w.heap.size<=k) w wr) (fun i _=>11-(intOf i).toNat)
 case atStart=>exact ⟨0,by omega,rfl,MapAt.made placeK w,(Touch.refl _ _).alloc _⟩
 case round =>
  obtain ⟨k,hk,rfl,hm,ht⟩:=hrel
  by_cases hlt:k<10
  ·have HS:Hid (Ru.tblTo (k+1)=Ru.tblS (Ru.tblTo k) ((k:Int)+1)):=rfl
   generalize Ru.tblTo k=m at *
   go_wp2_with fail
   refine (row_lit (ks:=[1,13,14]) hm ht (Nat.le_refl _) rfl rfl rfl (by decide)).mono ?_
   rintro e wn ⟨rfl,hm1,t1⟩
   replace hm:=hm1
   replace ht:=t1
   clear hm1 t1
   by_cases h2:(k:Int)+1=2
   ·have hb2:((k:Int)+1 != 2)=false:=by simp [h2]
    have HX:Hid (Ru.tblS m ((k:Int)+1)=Ru.row m ((k:Int)+1) 1 [1,13,14]):=by
     show _=_;unfold Ru.tblS;dsimp only;rw [if_pos h2,if_neg (by omega),if_neg (by omega)]
    have H2:=lh h2
    have hlt5:(k:Int)+1<5:=by omega
    clear h2
    have HM:=lh hm
    have HT:=lh ht
    clear hm ht
    go_wp2
    go_roundw
    case rel=>exact ⟨k+1,by omega,by go_num,by rw [HS.out,HX.out];exact HM.out,HT.out⟩
    case measure=>simp [intOf];omega
   ·have hb2:((k:Int)+1 != 2)=true:=by simp [h2]
    go_wp2_with fail
    refine (row_lit (ks:=[3]) hm ht (Nat.le_refl _) rfl rfl rfl (by decide)).mono ?_
    rintro e wn ⟨rfl,hm1,t1⟩
    replace hm:=hm1
    replace ht:=t1
    clear hm1 t1
    by_cases h5:5<=(k:Int)+1
    ·go_wp2_with fail
     refine (row_lit (ks:=[5]) hm ht (Nat.le_refl _) rfl rfl rfl (by decide)).mono ?_
     rintro e wn ⟨rfl,hm1,t1⟩
     replace hm:=hm1
     replace ht:=t1
     clear hm1 t1
     go_wp2_with fail
     refine (row_lit (ks:=[4,7]) hm ht (Nat.le_refl _) rfl rfl rfl (by decide)).mono ?_
     rintro e wn ⟨rfl,hm1,t1⟩
     replace hm:=hm1
     replace ht:=t1
     clear hm1 t1
     by_cases h7:7<=(k:Int)+1
     ·go_wp2_with fail
      refine (row_lit (ks:=[9]) hm ht (Nat.le_refl _) rfl rfl rfl (by decide)).mono ?_
      rintro e wn ⟨rfl,hm1,t1⟩
      have HX:Hid (Ru.tblS m ((k:Int)+1)=Ru.row (Ru.row (Ru.row (Ru.row (Ru.row m ((k:Int)+1) 1 [1,13,14]) ((k:Int)+1) 1 [3]) ((k:Int)+1) 1 [5]) ((k:Int)+1) 4 [4,7]) ((k:Int)+1) 1 [9]):=by
       show _=_;unfold Ru.tblS;dsimp only;rw [if_neg h2,if_pos h5,if_pos h7]
      have HM:=lh hm1
      have HT:=lh t1
      clear hm ht hm1 t1
      go_wp2
      go_roundw
      case rel=>exact ⟨k+1,by omega,by go_num,by rw [HS.out,HX.out];exact HM.out,HT.out⟩
      case measure=>simp [intOf];omega
     ·have HX:Hid (Ru.tblS m ((k:Int)+1)=Ru.row (Ru.row (Ru.row (Ru.row m ((k:Int)+1) 1 [1,13,14]) ((k:Int)+1) 1 [3]) ((k:Int)+1) 1 [5]) ((k:Int)+1) 4 [4,7]):=by
       show _=_;unfold Ru.tblS;dsimp only;rw [if_neg h2,if_pos h5,if_neg h7]
      have HM:=lh hm
      have HT:=lh ht
      clear hm ht
      go_wp2
      go_roundw
      case rel=>exact ⟨k+1,by omega,by go_num,by rw [HS.out,HX.out];exact HM.out,HT.out⟩
      case measure=>simp [intOf];omega
    ·have h7:¬ 7<=(k:Int)+1:=by omega
     have HX:Hid (Ru.tblS m ((k:Int)+1)=Ru.row (Ru.row m ((k:Int)+1) 1 [1,13,14]) ((k:Int)+1) 1 [3]):=by
      show _=_;unfold Ru.tblS;dsimp only;rw [if_neg h2,if_neg h5,if_neg h7]
     have HM:=lh hm
     have HT:=lh ht
     clear hm ht
     go_wp2
     go_roundw
     case rel=>exact ⟨k+1,by omega,by go_num,by rw [HS.out,HX.out];exact HM.out,HT.out⟩
     case measure=>simp [intOf];omega
  ·have e10:k=10:=by omega
   subst e10
   generalize hT0:Ru.tblTo 10=m0 at *
   have HT0:=lh hT0
   clear hT0
   go_wp2_with fail
   refine (row_lit (ks:=[2,5,6,8,9,10,11,12,15]) hm ht (Nat.le_refl _) rfl rfl rfl (by decide)).mono ?_
   rintro e wn ⟨rfl,hm1,t1⟩
   replace hm:=hm1
   replace ht:=t1
   clear hm1 t1
   go_wp2_with fail
   refine (row_lit (ks:=[7]) hm ht (Nat.le_refl _) rfl rfl rfl (by decide)).mono ?_
   rintro e wn ⟨rfl,hm1,t1⟩
   replace hm:=hm1
   replace ht:=t1
   clear hm1 t1
   go_wp2_with fail
   refine (row_lit (ks:=[2,7]) hm ht (Nat.le_refl _) rfl rfl rfl (by decide)).mono ?_
   rintro e wn ⟨rfl,hm1,t1⟩
   replace hm:=hm1
   replace ht:=t1
   clear hm1 t1
   go_wp2_with fail
   refine (row_lit (ks:=[2,4,5,6,7,8,9,10,11,12,15]) hm ht (Nat.le_refl _) rfl rfl rfl (by decide)).mono ?_
   rintro e wn ⟨rfl,hm1,t1⟩
   replace hm:=hm1
   replace ht:=t1
   clear hm1 t1
   go_wp2_with fail
   refine (row_lit (ks:=[4,7]) hm ht (Nat.le_refl _) rfl rfl rfl (by decide)).mono ?_
   rintro e wn ⟨rfl,hm1,t1⟩
   replace hm:=hm1
   replace ht:=t1
   clear hm1 t1
   go_wp2_with fail
   refine (row_lit (ks:=[6]) hm ht (Nat.le_refl _) rfl rfl rfl (by decide)).mono ?_
   rintro e wn ⟨rfl,hm1,t1⟩
   replace hm:=hm1
   replace ht:=t1
   clear hm1 t1
   go_wp2_with fail
   refine (row_lit (ks:=[15]) hm ht (Nat.le_refl _) rfl rfl rfl (by decide)).mono ?_
   rintro e wn ⟨rfl,hm1,t1⟩
   replace hm:=hm1
   replace ht:=t1
   clear hm1 t1
   go_wp2_with fail
   refine (row_lit (ks:=[8,10,11,12]) hm ht (Nat.le_refl _) rfl rfl rfl (by decide)).mono ?_
   rintro e wn ⟨rfl,hm1,t1⟩
   have HF:Hid (MapAt placeK wn w.heap.size (Ru.lift Ru.tbl)/\Fresh w wn):=by
    refine ⟨?_,t1.mono (fun k hk h=>by omega)⟩
    unfold Ru.tbl
    rw [HT0.out]
    exact hm1
   clear hm ht hm1 t1
   go_wp2
   go_ret
   exact ⟨_,rfl,HF.out.1,HF.out.2⟩
theorem requests_any (w:World) :
  Calls Tryz.prog 69 #[] w fun e w'=>∃ b,e=.returned (.map (some b))/\MapAt placeK w' b (Ru.lift Ru.req)/\Fresh w w':=by
 have hmm:=@run_makeMap Tryz.prog
 go_enter Tryz.func69,Tryz.ntmps69
 go_wp2_with fail
 go_loopw [2] (fun i wr=>∃ k:Nat,k<=10/\i=.int .i64 ((k:Int)+1)/\MapAt placeK wr w.heap.size (Ru.lift (Ru.reqTo k))/\Touch (fun k=>w.heap.size<=k) w wr) (fun i _=>11-(intOf i).toNat)
 case atStart=>exact ⟨0,by omega,rfl,MapAt.made placeK w,(Touch.refl _ _).alloc _⟩
 case round =>
  obtain ⟨k,hk,rfl,hm,ht⟩:=hrel
  by_cases hlt:k<10
  ·have HS:Hid (Ru.reqTo (k+1)=Ru.reqS (Ru.reqTo k) ((k:Int)+1)):=rfl
   generalize Ru.reqTo k=m at *
   go_wp2_with fail
   refine (row_lit (ks:=[8,9,10,11]) hm ht (Nat.le_refl _) rfl rfl rfl (by decide)).mono ?_
   rintro e wn ⟨rfl,hm1,t1⟩
   replace hm:=hm1
   replace ht:=t1
   clear hm1 t1
   by_cases h1:(k:Int)+1=1
   ·have hb1:((k:Int)+1 != 1)=false:=by simp [h1]
    have HX:Hid (Ru.reqS m ((k:Int)+1)=Ru.row m ((k:Int)+1) 1 [8,9,10,11]):=by
     show _=_;unfold Ru.reqS;dsimp only;rw [if_pos (.inl h1)]
    clear h1
    have HM:=lh hm
    have HT:=lh ht
    clear hm ht
    go_wp2
    go_roundw
    case rel=>exact ⟨k+1,by omega,by go_num,by rw [HS.out,HX.out];exact HM.out,HT.out⟩
    case measure=>simp [intOf];omega
   ·have hb1:((k:Int)+1 != 1)=true:=by rw [bne_iff_ne];exact h1
    by_cases h4:(k:Int)+1=4
    ·have hb4:((k:Int)+1 != 4)=false:=by simp [h4]
     have HX:Hid (Ru.reqS m ((k:Int)+1)=Ru.row m ((k:Int)+1) 1 [8,9,10,11]):=by
      show _=_;unfold Ru.reqS;dsimp only;rw [if_pos (.inr h4)]
     clear h1 h4
     have HM:=lh hm
     have HT:=lh ht
     clear hm ht
     go_wp2
     go_roundw
     case rel=>exact ⟨k+1,by omega,by go_num,by rw [HS.out,HX.out];exact HM.out,HT.out⟩
     case measure=>simp [intOf];omega
    ·have hb4:((k:Int)+1 != 4)=true:=by rw [bne_iff_ne];exact h4
     have HX:Hid (Ru.reqS m ((k:Int)+1)=Ru.row (Ru.row m ((k:Int)+1) 1 [8,9,10,11]) ((k:Int)+1) 1 [3]):=by
      show _=_;unfold Ru.reqS;dsimp only;rw [if_neg (by omega)]
     clear h1 h4
     go_wp2_with fail
     refine (row_lit (ks:=[3]) hm ht (Nat.le_refl _) rfl rfl rfl (by decide)).mono ?_
     rintro e wn ⟨rfl,hm1,t1⟩
     have HM:=lh hm1
     have HT:=lh t1
     clear hm ht hm1 t1
     go_wp2
     go_roundw
     case rel=>exact ⟨k+1,by omega,by go_num,by rw [HS.out,HX.out];exact HM.out,HT.out⟩
     case measure=>simp [intOf];omega
  ·have e10:k=10:=by omega
   subst e10
   generalize hT0:Ru.reqTo 10=m0 at *
   have HT0:=lh hT0
   clear hT0
   go_wp2_with fail
   refine (row_lit (ks:=[1]) hm ht (Nat.le_refl _) rfl rfl rfl (by decide)).mono ?_
   rintro e wn ⟨rfl,hm1,t1⟩
   replace hm:=hm1
   replace ht:=t1
   clear hm1 t1
   go_wp2_with fail
   refine (row_lit (ks:=[1]) hm ht (Nat.le_refl _) rfl rfl rfl (by decide)).mono ?_
   rintro e wn ⟨rfl,hm1,t1⟩
   replace hm:=hm1
   replace ht:=t1
   clear hm1 t1
   go_wp2_with fail
   refine (row_lit (ks:=[2]) hm ht (Nat.le_refl _) rfl rfl rfl (by decide)).mono ?_
   rintro e wn ⟨rfl,hm1,t1⟩
   replace hm:=hm1
   replace ht:=t1
   clear hm1 t1
   go_wp2_with fail
   refine (row_lit (ks:=[5]) hm ht (Nat.le_refl _) rfl rfl rfl (by decide)).mono ?_
   rintro e wn ⟨rfl,hm1,t1⟩
   replace hm:=hm1
   replace ht:=t1
   clear hm1 t1
   go_wp2_with fail
   refine (row_lit (ks:=[4,6]) hm ht (Nat.le_refl _) rfl rfl rfl (by decide)).mono ?_
   rintro e wn ⟨rfl,hm1,t1⟩
   replace hm:=hm1
   replace ht:=t1
   clear hm1 t1
   go_wp2_with fail
   refine (row_lit (ks:=[6]) hm ht (Nat.le_refl _) rfl rfl rfl (by decide)).mono ?_
   rintro e wn ⟨rfl,hm1,t1⟩
   replace hm:=hm1
   replace ht:=t1
   clear hm1 t1
   go_wp2_with fail
   refine (row_lit (ks:=[4,7]) hm ht (Nat.le_refl _) rfl rfl rfl (by decide)).mono ?_
   rintro e wn ⟨rfl,hm1,t1⟩
   have HF:Hid (MapAt placeK wn w.heap.size (Ru.lift Ru.req)/\Fresh w wn):=by
    refine ⟨?_,t1.mono (fun k hk h=>by omega)⟩
    unfold Ru.req
    rw [HT0.out]
    exact hm1
   clear hm ht hm1 t1
   go_wp2
   go_ret
   exact ⟨_,rfl,HF.out.1,HF.out.2⟩
theorem zeroInt (w:World):(zeroValue 3).run Tryz.prog w=.ok (.int .i64 0) w:=by kernel_rfl
theorem ruleof_any (s k:Int) (w:World) :
  Calls Tryz.prog 195 #[.int .i64 s,.int .i64 k] w fun e w'=>e=.returned (.int .i64 (Ru.of_ s k))/\Fresh w w':=by
 go_enter Tryz.func195,Tryz.ntmps195
 go_wp2_with fail
 refine (table_any w).mono ?_
 rintro e w1 ⟨b,rfl,hm,ht⟩
 have HT:=lh ht
 have HM:=lh hm
 have HV:Hid ((mget (Ru.lift Ru.tbl) (s,k)).getD (.int .i64 0)=.int .i64 (Ru.of_ s k)):=Ru.lift_get _ _
 clear ht hm
 go_wp2_with (refine wpList_lookM rfl rfl (k:=(s,k)) rfl rfl HM.out Tryz.underlying188 (zeroInt _) ?_;rw [if_neg (by decide),HV.out])
 go_ret
 exact ⟨rfl,HT.out⟩
theorem may_any (s k:Int) (w:World) :
  Calls Tryz.prog 35 #[.int .i64 s,.int .i64 k] w fun e w'=>e=.returned (.bool (Ru.may s k))/\Fresh w w':=by
 go_enter Tryz.func35,Tryz.ntmps35
 go_wp2_with fail
 refine (requests_any w).mono ?_
 rintro e w1 ⟨b,rfl,hm,ht⟩
 have HT:=lh ht
 have HM:=lh hm
 have HV:Hid ((mget (Ru.lift Ru.req) (s,k)).getD (.int .i64 0)=.int .i64 ((mget Ru.req (s,k)).getD 0)):=Ru.lift_get _ _
 clear ht hm
 go_wp2_with (refine wpList_lookM rfl rfl (k:=(s,k)) rfl rfl HM.out Tryz.underlying188 (zeroInt _) ?_;rw [if_neg (by decide),HV.out])
 go_ret
 exact ⟨rfl,HT.out⟩
open Go.RowKit Go.PlainAid
namespace Ru
def orderB:ByteArray:={ data:=#[66,67,69,70,74,75,68,65,76,71,72,73,0,0,77] }
def letter (k:Int):Int:=if 1<=k/\k<=15 then bt orderB (k.toNat-1) else 0
end Ru
theorem letter_any (k:Int) (w:World):Calls Tryz.prog 197 #[.int .i64 k] w fun e w'=>e=.returned (.int .u8 (Ru.letter k))/\w=w':=by
 by_cases h:1<=k/\k<=15
 ·obtain ⟨h1,h2⟩:=h
  have hl:Hid (Ru.letter k=bt Ru.orderB (k.toNat-1)):=by show _=_;unfold Ru.letter;rw [if_pos ⟨h1,h2⟩]
  have hg:=get_bt Ru.orderB
  have hs:Ru.orderB.size=15:=by decide +kernel
  have he:({ data:=#[66,67,69,70,74,75,68,65,76,71,72,73,0,0,77] }:ByteArray)=Ru.orderB:=rfl
  generalize Ru.orderB=X at *
  go_enter Tryz.func197,Tryz.ntmps197
  go_wp2
  go_ret
  exact ⟨by rw [hl.out];rfl,rfl⟩
 ·have hl:Hid (Ru.letter k=0):=by show _=_;unfold Ru.letter;rw [if_neg h]
  by_cases h1:k<1
  ·clear h
   go_enter Tryz.func197,Tryz.ntmps197
   go_wp2
   go_ret
   exact ⟨by rw [hl.out];rfl,rfl⟩
  ·have h2:15<k:=by omega
   clear h
   go_enter Tryz.func197,Tryz.ntmps197
   go_wp2
   go_ret
   exact ⟨by rw [hl.out];rfl,rfl⟩
def numK:KT Tryz.prog Int:=KT.int 46 .u32 Tryz.underlying46
theorem len_map {P:Program} {w:World} {t ty kt e:TypeId} (hu:P.underlying t=some (.map kt e)) {κ:Type} [DecidableEq κ] {K:KT P κ} {b:Nat} {m:MList κ} (h:MapAt K w b m) :
  (Builtin.len_ #[t] ty #[.map (some b)]).run P w=.ok (.int .i64 (m.length:Int)) w:=by
 obtain ⟨es,cl,hb,hn⟩:=mlen h
 rw [<- hn]
 exact run_len_map w t ty b es cl (by simp [Program.mapKeyOf,Program.mapElemOf,hu]) hb
end Go.Proofs.YtlbopdfobgjjaaaGreatDoor

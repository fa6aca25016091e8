/-
  pdu.Bytes of a unit that may be · pdu.told: a unit is what its bytes say · pdu.Parse of a unit's bytes.
-/
import Derived.Test.YtlbopdfobgjjaaaGreatDoorChk6b
import Derived.Test.YtlbopdfobgjjaaaGreatDoorFrm
import Derived.Deep.RegionHeld3
import Derived.Lib.Repeat
import Derived.Test.YtlbopdfobgjjaaaGreatDoorRev6
set_option maxHeartbeats 4000000
namespace Go.Proofs.YtlbopdfobgjjaaaGreatDoor
open Go.RowKit
theorem rep6_any (k:Nat) (hk:k<=1000) (W:World):Calls Tryz.prog 141 #[.string ⟨#[0]⟩,.int .i64 (k:Int)] W fun e w'=>e=.returned (.string (Wh.B (List.replicate k 0)))/\Fresh W w':=by
 refine (Tryz.strings_Repeat ⟨#[0]⟩ k W (by omega) (by show 1*_<=_;omega)).mono ?_
 rintro e w' ⟨rfl,hb⟩
 refine ⟨?_,Touch.of_below hb fun _ hk _=>hk⟩
 have:=Lib.repeatL_replicate 0 1 k
 rw [Nat.mul_one] at this
 show Ending.returned (Value.string ⟨(Lib.repeatL (List.replicate 1 0) k).toArray⟩)=_
 rw [this]
 rfl
set_option maxRecDepth 10000 in
theorem bytes6_any (p:Wh.P) (A:Option Addr) (c:Nat) (w:World) (hr:Rd numE w A c p.l) (hck:Wh.ck p=0) :
  Calls Tryz.prog 87 #[pV p A c] w fun e w'=>e=.returned (.string (Wh.B (Wh.bytesS (Wh.shape p.kind) p)))/\Fresh w w':=by
 have hm:=hr.1
 have hm2:=hr.2.1
 unfold maxLen at hm2
 have hok:=Wh.ok_of _ _ hck
 have hds:=hok.dsize (Wh.shape_ok p.kind)
 have hki:=Wh.shape_is _ hok.is
 have hn:=hok.n
 have hps:=hok.ps
 have hmr:=hok.mr
 have HLL:=lh hok.l
 have hll:=hok.ll
 have hq0:=hok.sq0
 have hq1:=hok.sq1
 clear hok
 have HCK:Hid (∀ W,Rd numE W A c p.l->Calls Tryz.prog 86 #[pV p A c] W fun e w'=>e=.returned (.int .i64 0)/\Fresh W w'):=fun W h=>by
  have:=check6_any p A c W h (by omega)
  rw [hck] at this
  exact this
 have HWD:Hid (∀ W,Rd numE W A c p.l->Calls Tryz.prog 142 #[pV p A c] W fun e w'=>∃ A' c',e=.returned (.slice A' (Wh.wordsS (Wh.shape p.kind) p).length c')/\Mine u32E W w' A' c' (Wh.wordsS (Wh.shape p.kind) p)):=fun W h=>words6_any p A c W h hq0 hq1 hll
 have HWL:Hid (∀ x ∈ Wh.wordsS (Wh.shape p.kind) p,0<=x/\x<=4294967295):=by
  intro x hx
  unfold Wh.wordsS at hx
  simp only [List.mem_append] at hx
  rcases hx with hx | hx | hx | hx
  ·split at hx
   ·rw [List.mem_singleton.1 hx];omega
   ·cases hx
  ·have:=HLL.out x hx;omega
  ·split at hx
   ·rw [List.mem_singleton.1 hx];omega
   ·cases hx
  ·split at hx
   ·rw [List.mem_singleton.1 hx];omega
   ·cases hx
 have hwl:(Wh.wordsS (Wh.shape p.kind) p).length<=200:=by
  unfold Wh.wordsS
  simp only [List.length_append]
  have e:∀ (b:Bool) (x:Int),(if b=true then [x] else []).length<=1:=by intro b x;cases b <;> simp
  have e1:=e (Wh.shape p.kind).sq p.sq
  have e2:=e (Wh.shape p.kind).ps p.ps
  have e3:=e (Wh.shape p.kind).mr p.mr
  omega
 have HBS:Hid (Wh.bytesS (Wh.shape p.kind) p=(p.data.data.toList++List.replicate (Wh.pad p) 0)++((Wh.wordsS (Wh.shape p.kind) p).flatMap Wh.four++Wh.four (Wh.lastW p))):=rfl
 have hlast:Wh.lastW p=(Wh.pad p:Int)*1073741824+(if p.self then 536870912 else 0)+p.kind*16777216+p.n:=rfl
 have hpad:(4-(p.data.size:Int)%4)%4=(Wh.pad p:Int):=by unfold Wh.pad;omega
 have hpad2:-((p.data.size:Int)%4)%4=(Wh.pad p:Int):=by unfold Wh.pad;omega
 have hpl:=Wh.pad_lt p
 have hlw:0<=Wh.lastW p/\Wh.lastW p<=4294967295:=by
  rw [hlast]
  split <;> omega
 have HRP:=lh (rep6_any (Wh.pad p) (by omega))
 generalize Wh.bytesS (Wh.shape p.kind) p=R at *
 generalize Wh.wordsS (Wh.shape p.kind) p=ws at *
 generalize Wh.lastW p=lw at *
 generalize Wh.pad p=pd at *
 obtain ⟨kind,sq,n,ps,mr,l,self,data⟩:=p
 unfold pV at *
 simp only at hm hm2 hds hki hn hps hmr HLL hll hq0 hq1 HCK HWD HBS hlast hpad hpad2 hr ⊢
 clear hck HLL hmr hps
 have HR:=lh hr
 clear hr
 have HF:Hid (Fresh w (w.alloc (.cells #[.int .i64 kind,.int .i64 sq,.int .u32 n,.int .u32 ps,.int .u32 mr,.slice A l.length c,.bool self,.string data] 49))):=(Touch.refl _ w).alloc _
 have HB:Hid (Blk (w.alloc (.cells #[.int .i64 kind,.int .i64 sq,.int .u32 n,.int .u32 ps,.int .u32 mr,.slice A l.length c,.bool self,.string data] 49)) w.heap.size 49 [.int .i64 kind,.int .i64 sq,.int .u32 n,.int .u32 ps,.int .u32 mr,.slice A l.length c,.bool self,.string data]):=Blk.new _ _ _
 go_enter Tryz.func87,Tryz.ntmps87
 go_wp2_with fail
 refine (HCK.out _ (HR.out.touch HF.out (fun _ _ _ h=>h))).mono ?_
 rintro e w2 ⟨rfl,f2⟩
 have HB2:Hid (Blk w2 w.heap.size 49 [.int .i64 kind,.int .i64 sq,.int .u32 n,.int .u32 ps,.int .u32 mr,.slice A l.length c,.bool self,.string data]):=f2.blk HB.out (fun h=>h)
 have HF2:Hid (Fresh w w2):=HF.out.trans f2 (fun _ _ h=>h)
 clear HB HF f2
 have hgw:∃ g,g=w.heap.size:=⟨_,rfl⟩
 obtain ⟨g,hg⟩:=hgw
 rw [<- hg] at HB2 ⊢
 have HG:=lh hg
 clear hg
 go_upto_region 4 with (fail)
 have HBD:Hid (Bd w2.heap.size w2.heap.size [] (w2.alloc (.cells #[.pointer none,.slice none 0 0] 256))):=Bd.new w2
 have HB3:Hid (Blk (w2.alloc (.cells #[.pointer none,.slice none 0 0] 256)) g 49 [.int .i64 kind,.int .i64 sq,.int .u32 n,.int .u32 ps,.int .u32 mr,.slice A l.length c,.bool self,.string data]):=HB2.out.alloc _
 have HLA:=lh hlast
 have HBL:w2.heap.size<(w2.alloc (.cells #[.pointer none,.slice none 0 0] 256)).heap.size:=by simp
 have HF3:Hid (Fresh w (w2.alloc (.cells #[.pointer none,.slice none 0 0] 256))):=HF2.out.alloc _
 have hgb:g<w2.heap.size:=HB2.out.lt
 have hwb:w.heap.size<=w2.heap.size:=HF2.out.size
 have HMB:Hid (w2.heap.size+1<=(w2.alloc (.cells #[.pointer none,.slice none 0 0] 256)).heap.size):=by show _<=_;simp
 clear hlast HB2 HF2 HBL
 generalize (w2.alloc (.cells #[.pointer none,.slice none 0 0] 256))=w3 at *
 generalize w2.heap.size=b at *
 have d7:w3.cell? ⟨g,7,none⟩=some (.string data):=HB3.out.cell 7
 have hzr:(Wh.B (List.replicate pd 0)).size=pd:=by rw [Wh.B_size,List.length_replicate]
 have hcat:data++Wh.B (List.replicate pd 0)=Wh.B (data.data.toList++List.replicate pd 0):=by
  rw [<- Wh.B_app,Wh.B_of]
 have hfl:(data.data.toList++List.replicate pd (0:UInt8)).length<=300:=by
  rw [List.length_append,List.length_replicate,<- Lib.size_eq]
  omega
 obtain ⟨fr,hfr⟩:=xq (data.data.toList++List.replicate pd (0:UInt8))
 rw [<- hfr] at hcat hfl HBS
 clear hfr
 go_upto_region 5 with (fail)
 rw [hpad]
 have HGB:=lh hgb
 have HWB:=lh hwb
 have hcs:(9223372036854775807<data.size+pd)=False:=eq_false (by omega)
 have hcs2:data.size+pd<=9223372036854775807:=by omega
 clear hgb hwb hpad hpad2 hm hm2
 go_region_held3 (fun wx=>wx.cell? ⟨g,7,none⟩=some (.string data))
  (first
   |assumption
   |exact FK.out.1.cell 7)
  (first
   |(go_simp;go_at_call 141;refine (HRP.out _).mono ?_;rintro e w4 ⟨rfl,f4⟩;have FK:Hid (Blk w4 g 49 [.int .i64 kind,.int .i64 sq,.int .u32 n,.int .u32 ps,.int .u32 mr,.slice A l.length c,.bool self,.string data]/\Fresh w w4/\Bd b b [] w4/\b<w4.heap.size):=⟨(f4.blk HB3.out (fun h=>h)),HF3.out.drew.trans f4 (fun _ _ h=>h),Bd.fresh HBD.out ((Touch.refl _ _).drew.trans f4 (fun _ _ h=>h)),Nat.lt_of_lt_of_le (Nat.lt_of_succ_le HMB.out) f4.size⟩;clear f4)
   |(go_simp;go_at_call 140;refine (wrs_any b b [] fr _ FK.out.2.2.1 (by rw [List.length_nil];omega) (Nat.le_of_lt FK.out.2.2.2)).mono ?_;rintro e w5 ⟨rfl,hbd,hkp⟩;have FK5:Hid (Blk w5 g 49 [.int .i64 kind,.int .i64 sq,.int .u32 n,.int .u32 ps,.int .u32 mr,.slice A l.length c,.bool self,.string data]/\Fresh w w5/\Bd b b fr w5/\b<w5.heap.size):=⟨hkp.blk FK.out.1 (Nat.ne_of_lt HGB.out) (by decide),hkp.fresh FK.out.2.1 HWB.out,hbd,Nat.lt_of_lt_of_le FK.out.2.2.2 hkp.below.size⟩;clear FK hbd hkp;have FK:=FK5;clear FK5))
 obtain ⟨hb5,hf5,hd5,hlt5⟩:=FK.out
 have HB5:=lh hb5
 have HF5:=lh hf5
 have HD5:=lh hd5
 clear FK hb5 hf5 hd5 HRP hcat hzr hcs hcs2 d7 HBD HB3 HF3 HMB
 have e0:w5.cell? ⟨g,0,none⟩=some (.int .i64 kind):=HB5.out.cell 0
 have e1:w5.cell? ⟨g,1,none⟩=some (.int .i64 sq):=HB5.out.cell 1
 have e2:w5.cell? ⟨g,2,none⟩=some (.int .u32 n):=HB5.out.cell 2
 have e3:w5.cell? ⟨g,3,none⟩=some (.int .u32 ps):=HB5.out.cell 3
 have e4:w5.cell? ⟨g,4,none⟩=some (.int .u32 mr):=HB5.out.cell 4
 have e5:w5.cell? ⟨g,5,none⟩=some (.slice A l.length c):=HB5.out.cell 5
 have e6:w5.cell? ⟨g,6,none⟩=some (.bool self):=HB5.out.cell 6
 have e7:w5.cell? ⟨g,7,none⟩=some (.string data):=HB5.out.cell 7
 go_wp2_with fail
 refine (HWD.out _ (HR.out.touch HF5.out (fun _ _ _ h=>h))).mono ?_
 rintro e w6 ⟨A1,c1,rfl,m6⟩
 have HB6:Hid (Blk w6 g 49 [.int .i64 kind,.int .i64 sq,.int .u32 n,.int .u32 ps,.int .u32 mr,.slice A l.length c,.bool self,.string data]):=m6.fresh.blk HB5.out (fun h=>h)
 have HD6:Hid (Bd b b fr w6):=Bd.fresh HD5.out m6.fresh
 have HF6:Hid (Fresh w w6):=HF5.out.trans m6.fresh (fun _ _ h=>h)
 have HS6:=lh m6.sl
 have HA6:Hid (∀ ad,A1=some ad->ad.block ≠ b):=fun ad e h=>by have:=m6.base ad e;omega
 have hlt6:b<w6.heap.size:=Nat.lt_of_lt_of_le hlt5 m6.fresh.size
 have hwl2:ws.length<=9223372036854775807:=by omega
 clear m6 e0 e1 e2 e3 e4 e5 e6 e7 HB5 HD5 HF5 hlt5 HCK HWD HR
 go_wp2_with fail
 go_loopw [25] (fun i wr=>∃ k:Nat,k<=ws.length/\i=.int .i64 k/\Hid (Bd b b (fr++(ws.take k).flatMap Wh.four) wr)/\Hid (Sl u32E wr A1 c1 ws)/\Hid (Blk wr g 49 [.int .i64 kind,.int .i64 sq,.int .u32 n,.int .u32 ps,.int .u32 mr,.slice A l.length c,.bool self,.string data])/\Hid (Fresh w wr)/\Hid (b<wr.heap.size)) (fun i _=>ws.length-(intOf i).toNat)
 case atStart=>exact ⟨0,Nat.zero_le _,rfl,by simpa using HD6,HS6,HB6,HF6,hlt6⟩
 case round =>
  obtain ⟨k,hk,rfl,HD,HS,HB,HF,HL⟩:=hrel
  by_cases hlt:k<ws.length
  ·obtain ⟨gb,o,hA,hgb,hcl⟩:=HS.out.u32_at k hlt
   have hx:=HWL.out (ws.getD k 0) (by rw [show ws.getD k 0=ws[k] by simp [List.getD,List.getElem?_eq_getElem hlt]];exact List.getElem_mem hlt)
   have HTK:Hid (fr++(ws.take (k+1)).flatMap Wh.four=(fr++(ws.take k).flatMap Wh.four)++Wh.four (ws.getD k 0)):=by
    show _=_
    rw [List.take_succ_eq_append_getElem hlt,List.flatMap_append,List.append_assoc]
    simp [List.getD,List.getElem?_eq_getElem hlt]
   have HCL:Hid ((fr++(ws.take k).flatMap Wh.four).length<=2000):=by
    show _<=_
    rw [List.length_append,Wh.fours_len,List.length_take]
    omega
   obtain ⟨x,hxe⟩:=xq (ws.getD k 0)
   rw [<- hxe] at hcl hx HTK
   clear hxe
   obtain ⟨x0,x1⟩:=hx
   subst hA
   go_wp2_with fail
   refine (four_pdu x _ x0 x1).mono ?_
   rintro e w7 ⟨rfl,f7⟩
   have HD7:Hid (Bd b b (fr++(ws.take k).flatMap Wh.four) w7):=Bd.fresh HD.out f7
   have HS7:Hid (Sl u32E w7 (some ⟨gb,o,none⟩) c1 ws):=HS.out.touch f7 (fun _ _ h=>h)
   have HB7:Hid (Blk w7 g 49 [.int .i64 kind,.int .i64 sq,.int .u32 n,.int .u32 ps,.int .u32 mr,.slice A l.length c,.bool self,.string data]):=f7.blk HB.out (fun h=>h)
   have HF7:Hid (Fresh w w7):=HF.out.trans f7 (fun _ _ h=>h)
   have HL7:Hid (b<w7.heap.size):=Nat.lt_of_lt_of_le HL.out f7.size
   clear f7 HD HS HB HF HL hcl
   go_wp2_with fail
   refine (wrs_any b b _ (Wh.four x) _ HD7.out (by have:=HCL.out;rw [Wh.four_len];omega) (Nat.le_of_lt HL7.out)).mono ?_
   rintro e w8 ⟨rfl,hbd,hkp⟩
   have HD8:=lh hbd
   have HS8:Hid (Sl u32E w8 (some ⟨gb,o,none⟩) c1 ws):=hkp.sl HS7.out HA6.out (by decide)
   have HB8:Hid (Blk w8 g 49 [.int .i64 kind,.int .i64 sq,.int .u32 n,.int .u32 ps,.int .u32 mr,.slice A l.length c,.bool self,.string data]):=hkp.blk HB7.out (Nat.ne_of_lt HGB.out) (by decide)
   have HF8:Hid (Fresh w w8):=hkp.fresh HF7.out HWB.out
   have HL8:Hid (b<w8.heap.size):=Nat.lt_of_lt_of_le HL7.out hkp.below.size
   clear hbd hkp HD7 HS7 HB7 HF7 HL7
   go_wp2_with fail
   go_roundw
   case rel=>exact ⟨k+1,by omega,by go_num,by rw [HTK.out];exact HD8,HS8,HB8,HF8,HL8⟩
   case measure=>simp [intOf];omega
  ·have hke:k=ws.length:=by omega
   have HTW:Hid (ws.take k=ws):=List.take_of_length_le (by omega)
   rw [HTW.out] at HD
   clear HS HWL HS6 HB6 HD6 HF6 hlt6 HA6 hke HTW
   obtain ⟨hn1,hn2⟩:=hn
   obtain ⟨hk1,hk2⟩:=hki
   obtain ⟨hlw0,hlw1⟩:=hlw
   have HCL:Hid ((fr++ws.flatMap Wh.four).length+(Wh.four lw).length<=1000000):=by
    show _<=_
    rw [List.length_append,Wh.fours_len,Wh.four_len]
    omega
   have r1:IntKind.u32.wrap ((pd:Int)*1073741824)=(pd:Int)*1073741824:=IntWalk.u32_in _ (by omega)
   have r2:IntKind.u32.wrap (pd:Int)=(pd:Int):=IntWalk.u32_in _ (by omega)
   have r3:IntKind.u32.wrap (kind*16777216)=kind*16777216:=IntWalk.u32_in _ (by omega)
   have r4:IntKind.u32.wrap kind=kind:=IntWalk.u32_in _ (by omega)
   have r5:(pd:Int)%4294967296=(pd:Int):=by omega
   have r6:kind%4294967296=kind:=by omega
   have r7:(pd:Int)*1073741824%4294967296=(pd:Int)*1073741824:=by omega
   have r8:kind*16777216%4294967296=kind*16777216:=by omega
   have r9:IntKind.u32.wrap 0=0:=rfl
   have r10:IntKind.u32.wrap 536870912=536870912:=rfl
   go_upto_region 11 with (fail)
   cases self
   ·as_aux_lemma =>
    have o1:bits .or .u32 ((pd:Int)*1073741824) 0=(pd:Int)*1073741824:=by
     rw [Wh.or_add _ _ 30 (by omega) (by omega) (by omega) (by omega) (by omega) (by omega)]
     omega
    have o2:bits .or .u32 ((pd:Int)*1073741824) (kind*16777216)=(pd:Int)*1073741824+kind*16777216:=by
     rw [Wh.or_add _ _ 29 (by omega) (by omega) (by omega) (by omega) (by omega) (by omega)]
    have o3:bits .or .u32 ((pd:Int)*1073741824+kind*16777216) n=lw:=by
     rw [Wh.or_add _ _ 24 (by omega) (by omega) (by omega) (by omega) (by omega) (by omega),HLA.out]
     simp
    have HBIT:Hid (∀ W,Calls Tryz.prog 144 #[.bool false] W fun e w'=>e=.returned (.int .u32 0)/\W=w'):=bit6_any false
    have c0:wr.cell? ⟨g,0,none⟩=some (.int .i64 kind):=HB.out.cell 0
    have c2:wr.cell? ⟨g,2,none⟩=some (.int .u32 n):=HB.out.cell 2
    have c6:wr.cell? ⟨g,6,none⟩=some (.bool false):=HB.out.cell 6
    clear hn1 hn2 hk1 hk2 hpl
    go_region_held3 (fun wx=>wx.cell? ⟨g,0,none⟩=some (.int .i64 kind)/\wx.cell? ⟨g,2,none⟩=some (.int .u32 n)/\wx.cell? ⟨g,6,none⟩=some (.bool false))
     (first
      |exact ⟨c0,c2,c6⟩
      |assumption
      |exact ⟨FK.out.1.cell 0,FK.out.1.cell 2,FK.out.1.cell 6⟩)
     (first
      |(go_simp;go_at_call 144;refine (HBIT.out _).mono ?_;rintro e w4 ⟨rfl,rfl⟩)
      |(go_simp;go_at_call 143;refine (four_pdu lw _ hlw0 hlw1).mono ?_;rintro e w9 ⟨rfl,f4⟩;have FK:Hid (Blk w9 g 49 [.int .i64 kind,.int .i64 sq,.int .u32 n,.int .u32 ps,.int .u32 mr,.slice A l.length c,.bool false,.string data]/\Fresh w w9/\Bd b b (fr++ws.flatMap Wh.four) w9/\b<w9.heap.size):=⟨(f4.blk HB.out (fun h=>h)),HF.out.drew.trans f4 (fun _ _ h=>h),Bd.fresh HD.out ((Touch.refl _ _).drew.trans f4 (fun _ _ h=>h)),Nat.lt_of_lt_of_le HL.out f4.size⟩;clear f4)
      |(go_simp;go_at_call 140;refine (wrs_any b b _ (Wh.four lw) _ FK.out.2.2.1 HCL.out (Nat.le_of_lt FK.out.2.2.2)).mono ?_;rintro e w10 ⟨rfl,hbd,hkp⟩;have FK5:Hid (Blk w10 g 49 [.int .i64 kind,.int .i64 sq,.int .u32 n,.int .u32 ps,.int .u32 mr,.slice A l.length c,.bool false,.string data]/\Fresh w w10/\Bd b b (fr++ws.flatMap Wh.four++Wh.four lw) w10/\b<w10.heap.size):=⟨hkp.blk FK.out.1 (Nat.ne_of_lt HGB.out) (by decide),hkp.fresh FK.out.2.1 HWB.out,hbd,Nat.lt_of_lt_of_le FK.out.2.2.2 hkp.below.size⟩;clear FK hbd hkp;have FK:=FK5;clear FK5))
    all_goals
     have HRE:Hid (fr++ws.flatMap Wh.four++Wh.four lw=R):=by
      show _=_
      rw [HBS.out,List.append_assoc]
     rw [HRE.out] at FK
     go_wp2_with fail
     refine (bstr_any b b R _ FK.out.2.2.1 (Nat.le_of_lt FK.out.2.2.2)).mono ?_
     rintro e w11 ⟨rfl,hkp⟩
     have HFE:Hid (Fresh w w11):=hkp.fresh FK.out.2.1 HWB.out
     clear hkp FK
     go_wp2
     go_ret
     exact ⟨rfl,HFE.out⟩
   ·as_aux_lemma =>
    have o1:bits .or .u32 ((pd:Int)*1073741824) 536870912=(pd:Int)*1073741824+536870912:=by
     rw [Wh.or_add _ _ 30 (by omega) (by omega) (by omega) (by omega) (by omega) (by omega)]
    have o2:bits .or .u32 ((pd:Int)*1073741824+536870912) (kind*16777216)=(pd:Int)*1073741824+536870912+kind*16777216:=by
     rw [Wh.or_add _ _ 29 (by omega) (by omega) (by omega) (by omega) (by omega) (by omega)]
    have o3:bits .or .u32 ((pd:Int)*1073741824+536870912+kind*16777216) n=lw:=by
     rw [Wh.or_add _ _ 24 (by omega) (by omega) (by omega) (by omega) (by omega) (by omega),HLA.out]
     simp
    have HBIT:Hid (∀ W,Calls Tryz.prog 144 #[.bool true] W fun e w'=>e=.returned (.int .u32 1)/\W=w'):=bit6_any true
    have c0:wr.cell? ⟨g,0,none⟩=some (.int .i64 kind):=HB.out.cell 0
    have c2:wr.cell? ⟨g,2,none⟩=some (.int .u32 n):=HB.out.cell 2
    have c6:wr.cell? ⟨g,6,none⟩=some (.bool true):=HB.out.cell 6
    clear hn1 hn2 hk1 hk2 hpl
    go_region_held3 (fun wx=>wx.cell? ⟨g,0,none⟩=some (.int .i64 kind)/\wx.cell? ⟨g,2,none⟩=some (.int .u32 n)/\wx.cell? ⟨g,6,none⟩=some (.bool true))
     (first
      |exact ⟨c0,c2,c6⟩
      |assumption
      |exact ⟨FK.out.1.cell 0,FK.out.1.cell 2,FK.out.1.cell 6⟩)
     (first
      |(go_simp;go_at_call 144;refine (HBIT.out _).mono ?_;rintro e w4 ⟨rfl,rfl⟩)
      |(go_simp;go_at_call 143;refine (four_pdu lw _ hlw0 hlw1).mono ?_;rintro e w9 ⟨rfl,f4⟩;have FK:Hid (Blk w9 g 49 [.int .i64 kind,.int .i64 sq,.int .u32 n,.int .u32 ps,.int .u32 mr,.slice A l.length c,.bool true,.string data]/\Fresh w w9/\Bd b b (fr++ws.flatMap Wh.four) w9/\b<w9.heap.size):=⟨(f4.blk HB.out (fun h=>h)),HF.out.drew.trans f4 (fun _ _ h=>h),Bd.fresh HD.out ((Touch.refl _ _).drew.trans f4 (fun _ _ h=>h)),Nat.lt_of_lt_of_le HL.out f4.size⟩;clear f4)
      |(go_simp;go_at_call 140;refine (wrs_any b b _ (Wh.four lw) _ FK.out.2.2.1 HCL.out (Nat.le_of_lt FK.out.2.2.2)).mono ?_;rintro e w10 ⟨rfl,hbd,hkp⟩;have FK5:Hid (Blk w10 g 49 [.int .i64 kind,.int .i64 sq,.int .u32 n,.int .u32 ps,.int .u32 mr,.slice A l.length c,.bool true,.string data]/\Fresh w w10/\Bd b b (fr++ws.flatMap Wh.four++Wh.four lw) w10/\b<w10.heap.size):=⟨hkp.blk FK.out.1 (Nat.ne_of_lt HGB.out) (by decide),hkp.fresh FK.out.2.1 HWB.out,hbd,Nat.lt_of_lt_of_le FK.out.2.2.2 hkp.below.size⟩;clear FK hbd hkp;have FK:=FK5;clear FK5))
    all_goals
     have HRE:Hid (fr++ws.flatMap Wh.four++Wh.four lw=R):=by
      show _=_
      rw [HBS.out,List.append_assoc]
     rw [HRE.out] at FK
     go_wp2_with fail
     refine (bstr_any b b R _ FK.out.2.2.1 (Nat.le_of_lt FK.out.2.2.2)).mono ?_
     rintro e w11 ⟨rfl,hkp⟩
     have HFE:Hid (Fresh w w11):=hkp.fresh FK.out.2.1 HWB.out
     clear hkp FK
     go_wp2
     go_ret
     exact ⟨rfl,HFE.out⟩
def pC (p:Wh.P) (A:Option Addr) (c:Nat):List Value:=[.int .i64 p.kind,.int .i64 p.sq,.int .u32 p.n,.int .u32 p.ps,.int .u32 p.mr,.slice A p.l.length c,.bool p.self,.string p.data]
set_option maxRecDepth 10000 in
theorem told6_any (b:Nat) (p:Wh.P) (A:Option Addr) (c:Nat) (w:World) (hb:Blk w b 49 (pC p A c)) (hr:Rd numE w A c p.l) (hck:Wh.ck p=0) :
  Calls Tryz.prog 154 #[.pointer (some ⟨b,0,none⟩),.string (Wh.B (Wh.bytesS (Wh.shape p.kind) p))] w fun e w'=>e=.returned (.int .i64 0)/\Fresh w w':=by
 have hok:=Wh.ok_of _ _ hck
 have hds:=hok.dsize (Wh.shape_ok p.kind)
 have HCK:Hid (∀ W,Rd numE W A c p.l->Calls Tryz.prog 86 #[pV p A c] W fun e w'=>e=.returned (.int .i64 0)/\Fresh W w'):=fun W h=>by
  have:=check6_any p A c W h (by omega)
  rw [hck] at this
  exact this
 have HBY:Hid (∀ W,Rd numE W A c p.l->Calls Tryz.prog 87 #[pV p A c] W fun e w'=>e=.returned (.string (Wh.B (Wh.bytesS (Wh.shape p.kind) p)))/\Fresh W w'):=fun W h=>bytes6_any p A c W h hck
 have hne:((Wh.B (Wh.bytesS (Wh.shape p.kind) p)).toList != (Wh.B (Wh.bytesS (Wh.shape p.kind) p)).toList)=false:=by simp
 generalize Wh.B (Wh.bytesS (Wh.shape p.kind) p)=s at *
 clear hok hck
 obtain ⟨kind,sq,n,ps,mr,l,self,data⟩:=p
 unfold pV at *
 unfold pC at hb
 simp only at hds hb hr HCK HBY
 have HR:=lh hr
 have HB:=lh hb
 clear hr hb
 have e0:w.cell? ⟨b,0,none⟩=some (.int .i64 kind):=HB.out.cell 0
 have e1:w.cell? ⟨b,1,none⟩=some (.int .i64 sq):=HB.out.cell 1
 have e2:w.cell? ⟨b,2,none⟩=some (.int .u32 n):=HB.out.cell 2
 have e3:w.cell? ⟨b,3,none⟩=some (.int .u32 ps):=HB.out.cell 3
 have e4:w.cell? ⟨b,4,none⟩=some (.int .u32 mr):=HB.out.cell 4
 have e5:w.cell? ⟨b,5,none⟩=some (.slice A l.length c):=HB.out.cell 5
 have e6:w.cell? ⟨b,6,none⟩=some (.bool self):=HB.out.cell 6
 have e7:w.cell? ⟨b,7,none⟩=some (.string data):=HB.out.cell 7
 go_enter Tryz.func154,Tryz.ntmps154
 go_wp2_with fail
 refine (HCK.out _ HR.out).mono ?_
 rintro e w2 ⟨rfl,f2⟩
 have HB2:=lh (f2.blk HB.out (fun h=>h))
 have HF2:=lh f2
 clear e0 e1 e2 e3 e4 e5 e6 e7 f2 HB
 have e0:w2.cell? ⟨b,0,none⟩=some (.int .i64 kind):=HB2.out.cell 0
 have e1:w2.cell? ⟨b,1,none⟩=some (.int .i64 sq):=HB2.out.cell 1
 have e2:w2.cell? ⟨b,2,none⟩=some (.int .u32 n):=HB2.out.cell 2
 have e3:w2.cell? ⟨b,3,none⟩=some (.int .u32 ps):=HB2.out.cell 3
 have e4:w2.cell? ⟨b,4,none⟩=some (.int .u32 mr):=HB2.out.cell 4
 have e5:w2.cell? ⟨b,5,none⟩=some (.slice A l.length c):=HB2.out.cell 5
 have e6:w2.cell? ⟨b,6,none⟩=some (.bool self):=HB2.out.cell 6
 have e7:w2.cell? ⟨b,7,none⟩=some (.string data):=HB2.out.cell 7
 go_wp2_with fail
 refine (HBY.out _ (HR.out.touch HF2.out (fun _ _ _ h=>h))).mono ?_
 rintro e w3 ⟨rfl,f3⟩
 have HF3:Hid (Fresh w w3):=HF2.out.trans f3 (fun _ _ h=>h)
 clear f3 e0 e1 e2 e3 e4 e5 e6 e7
 go_wp2
 go_ret
 exact ⟨rfl,HF3.out⟩
def zC:List Value:=[.int .i64 0,.int .i64 0,.int .u32 0,.int .u32 0,.int .u32 0,.slice none 0 0,.bool false,.string ⟨#[]⟩]
def shC (s:Wh.Sh):List Value:=[.int .i64 s.data,.bool s.sq,.bool s.n,.int .i64 s.list,.bool s.ps,.bool s.mr,.bool s.self,.bool s.is]
structure P6s (w:World) (rb tb pb sb:Nat) (sh:Wh.Sh) (wx:World) (tl:List UInt8) (cs:List Value):Prop where
 t:Blk wx tb 271 [.string (Wh.B tl)]
 p:Blk wx pb 49 cs
 r:Blk wx rb 49 zC
 s:Blk wx sb 250 (shC sh)
 f:Fresh w wx
structure PN (w:World) (rb tb pb sb:Nat):Prop where
 tp:tb ≠ pb
 tr:tb ≠ rb
 ts:tb ≠ sb
 rp:rb ≠ pb
 sp:sb ≠ pb
 t:w.heap.size<=tb
 p:w.heap.size<=pb
 r:w.heap.size<=rb
section
variable {w wx wy:World} {rb tb pb sb:Nat} {sh:Wh.Sh} {tl tl':List UInt8} {cs cs':List Value}
theorem P6s.take (n:PN w rb tb pb sb) (h:P6s w rb tb pb sb sh wx tl cs) (hb:Blk wy tb 271 [.string (Wh.B tl')]) (ht:Touch (· = tb) wx wy):P6s w rb tb pb sb sh wy tl' cs:=
 ⟨hb,ht.blk h.p n.tp.symm,ht.blk h.r n.tr.symm,ht.blk h.s n.ts.symm,h.f.trans ht (fun k hk e=>by have:=n.t;have e:k=tb:=e;omega)⟩
theorem P6s.set (n:PN w rb tb pb sb) (h:P6s w rb tb pb sb sh wx tl cs) (i:Nat) (v:Value):P6s w rb tb pb sb sh (wx.setCell ⟨pb,i,none⟩ v) tl (cs.set i v):=
 ⟨h.t.far n.tp v,h.p.set i v,h.r.far n.rp v,h.s.far n.sp v,h.f.setCell (fun hk=>by have:=n.p;simp at hk;omega) _⟩
theorem P6s.fresh (h:P6s w rb tb pb sb sh wx tl cs) (f:Fresh wx wy):P6s w rb tb pb sb sh wy tl cs:=
 ⟨f.blk h.t (fun e=>e),f.blk h.p (fun e=>e),f.blk h.r (fun e=>e),f.blk h.s (fun e=>e),h.f.trans f (fun _ _ e=>e)⟩
theorem P6s.far {S:Nat->Prop} (h:P6s w rb tb pb sb sh wx tl cs) (ht:Touch S wx wy) (nt:¬ S tb) (np:¬ S pb) (nr:¬ S rb) (ns:¬ S sb) (hf:∀ k,S k->w.heap.size<=k):P6s w rb tb pb sb sh wy tl cs:=
 ⟨ht.blk h.t nt,ht.blk h.p np,ht.blk h.r nr,ht.blk h.s ns,h.f.trans ht (fun k hk e=>by have:=hf k e;omega)⟩
theorem P6s.list {A:Option Addr} {c:Nat} {L:List Int} (h:P6s w rb tb pb sb sh wx tl cs) (m:Mine numE w wx A c L) (ht:Touch (fun k=>A.map Addr.block=some k) wx wy):P6s w rb tb pb sb sh wy tl cs:=by
 have e:∀ g t cs,Blk wx g t cs->numE.e ≠ t->¬ A.map Addr.block=some g:=by
  intro g t cs hb hne h
  cases A with
  |none=>cases h
  |some ad =>
   injection h with h
   exact m.sl.blk_ne hb hne ad rfl h
 refine h.far ht (e _ _ _ h.t (by decide)) (e _ _ _ h.p (by decide)) (e _ _ _ h.r (by decide)) (e _ _ _ h.s (by decide)) (fun k hk=>?_)
 cases A with
 |none=>cases hk
 |some ad =>
  injection hk with hk
  have:=m.base ad rfl
  omega
end
theorem wpList_move {P:Program} {ops:Array Oper} {rest:List Oper} {o:Oper} {a:Act} {w:World} {Q:Exit->Act->World->Prop} (hg:o.guard=none) (x:Operand) (ho:o.op=.move x)
  (h:wpList P ops Q rest (a.put o.dst (a.eval x)) w):wpList P ops Q (o::rest) a w:=
 wpList_plain hg fun K hK=>by
  unfold Oper.wp execOp
  simp only [ho,Sem.run_pure]
  exact hK _ _ h
namespace Wh
def opt (b:Bool) (x:Int):List Int:=if b then [x] else []
theorem opt_len (b:Bool) (x:Int):((opt b x).length:Int)=one b:=by cases b <;> rfl
theorem wordsS_eq (s:Sh) (p:P):wordsS s p=opt s.sq p.sq++(p.l++(opt s.ps p.ps++opt s.mr p.mr)):=rfl
end Wh
set_option maxRecDepth 10000 in
theorem parse6_any (p:Wh.P) (_A:Option Addr) (_c:Nat) (w:World) (hck:Wh.ck p=0) :
  Calls Tryz.prog 93 #[.string (Wh.B (Wh.bytesS (Wh.shape p.kind) p))] w fun e w'=>∃ A' c',e=.returned (.tuple #[pV p A' c',.int .i64 0])/\Fresh w w'/\Mine numE w w' A' c' p.l:=by
 have hok:=Wh.ok_of _ _ hck
 have hsk:=Wh.shape_ok p.kind
 have hds:=hok.dsize hsk
 have hki:=Wh.shape_is _ hok.is
 have hn:=hok.n
 have hps:=hok.ps
 have hmr:=hok.mr
 have HLL:=lh hok.l
 have hll:=hok.ll
 have hq0:=hok.sq0
 have hq1:=hok.sq1
 have his:=hok.is
 have HPSN:=lh hok.psn
 have HMRN:=lh hok.mrn
 have HSQN:=lh hok.sqn
 have HDN:=lh hok.dnil
 have HLN:=lh hok.ln
 have HSL:=lh hsk.list
 clear hok hsk
 have HTL:Hid (∀ b A c w,Blk w b 49 (pC p A c)->Rd numE w A c p.l->Calls Tryz.prog 154 #[.pointer (some ⟨b,0,none⟩),.string (Wh.B (Wh.bytesS (Wh.shape p.kind) p))] w fun e w'=>e=.returned (.int .i64 0)/\Fresh w w'):=fun b A c w h1 h2=>told6_any b p A c w h1 h2 hck
 have HSH:Hid (∀ W,Calls Tryz.prog 136 #[.int .i64 p.kind] W fun e w'=>e=.returned (shV (Wh.shape p.kind))/\Fresh W w'):=fun W=>shape6_any p.kind W
 have HBL:=lh (Wh.bytesS_len (Wh.shape p.kind) p)
 have HBS:Hid (Wh.bytesS (Wh.shape p.kind) p=(Wh.front p++(Wh.opt (Wh.shape p.kind).sq p.sq++(p.l++(Wh.opt (Wh.shape p.kind).ps p.ps++Wh.opt (Wh.shape p.kind).mr p.mr))).flatMap Wh.four)++Wh.four (Wh.lastW p)):=by
  show _=_
  unfold Wh.bytesS
  rw [Wh.wordsS_eq,List.append_assoc]
 have hwl:(Wh.wordsS (Wh.shape p.kind) p).length=(Wh.opt (Wh.shape p.kind).sq p.sq).length+(p.l.length+((Wh.opt (Wh.shape p.kind).ps p.ps).length+(Wh.opt (Wh.shape p.kind).mr p.mr).length)):=by
  rw [Wh.wordsS_eq]
  simp only [List.length_append]
 have HWL:=lh hwl
 have HFL:=lh (Wh.front_len p)
 have HF4:=lh (Wh.front_4 p)
 have hlast:Wh.lastW p=(Wh.pad p:Int)*1073741824+(if p.self then 536870912 else 0)+p.kind*16777216+p.n:=rfl
 have hpl:=Wh.pad_lt p
 have HFR:Hid (Wh.front p=p.data.data.toList++List.replicate (Wh.pad p) 0):=rfl
 clear hwl hck
 generalize Wh.bytesS (Wh.shape p.kind) p=R at *
 generalize Wh.wordsS (Wh.shape p.kind) p=ws at *
 generalize Wh.lastW p=lw at *
 generalize Wh.front p=fr at *
 generalize Wh.pad p=pd at *
 generalize Wh.shape p.kind=sh at *
 obtain ⟨kind,sq,n,ps,mr,l,self,data⟩:=p
 unfold pC at HTL
 simp only at hds hki hn hps hmr HLL hll hq0 hq1 HPSN HMRN HSQN HDN HLN HTL HSH HBL HBS HWL HFL HFR hlast ⊢
 obtain ⟨hn0,hn1⟩:=hn
 obtain ⟨hk0,hk1⟩:=hki
 have hlw0:0<=lw:=by rw [hlast];split <;> omega
 have hlw1:lw<=4294967295:=by rw [hlast];split <;> omega
 have hR4:R.length%4=0:=by
  rw [HBS.out,List.length_append,List.length_append,Wh.fours_len,Wh.four_len]
  have:=HF4.out
  omega
 have hRs:R.length<=2000:=by
  rw [HBL.out,HWL.out]
  have e:∀ (b:Bool) (x:Int),(Wh.opt b x).length<=1:=by intro b x;cases b <;> simp [Wh.opt]
  have e1:=e sh.sq sq
  have e2:=e sh.ps ps
  have e3:=e sh.mr mr
  omega
 have HR1:Hid (4<=R.length):=by
  show _<=_
  rw [HBL.out]
  omega
 have HFX:Hid (Wh.fixedS sh*4<=(R.length:Int)):=by
  show _<=_
  rw [HBL.out,HWL.out]
  have e1:=Wh.opt_len sh.sq sq
  have e2:=Wh.opt_len sh.ps ps
  have e3:=Wh.opt_len sh.mr mr
  unfold Wh.fixedS
  rcases HSL.out with h | h | h
  ·rw [h];omega
  ·rw [h.1];omega
  ·have:=HLN.out (by omega)
   rw [h] at this ⊢
   omega
 have hz:(Wh.B R).size=R.length:=Wh.B_size R
 have hne:(Wh.B R).toList.isEmpty=false:=by
  rw [Lib.toList_data,Wh.B_list]
  cases h:R with
  |nil=>have:=HR1.out;rw [h] at this;simp at this
  |cons=>rfl
 have hR4i:(R.length:Int)%4=0:=by omega
 have a1:bits .and .u32 (lw / 16777216) 15=kind:=by
  have:=and_mask32 (lw / 16777216) 4 15 rfl (by omega)
  have e:lw / 16777216%16=kind:=by rw [hlast];split <;> omega
  rw [show ((15+1:Nat):Int)=16 from rfl,e] at this
  exact this
 have a2:lw%16777216=n:=by rw [hlast];split <;> omega
 have a3:(bits .and .u32 (lw / 536870912) 1==1)=self:=by
  have:=and_mask32 (lw / 536870912) 1 1 rfl (by omega)
  have e:lw / 536870912%2=(if self then 1 else 0):=by rw [hlast];split <;> omega
  rw [show ((1+1:Nat):Int)=2 from rfl,e] at this
  rw [show ((1:Nat):Int)=1 from rfl] at this
  rw [this]
  cases self <;> rfl
 have a4:lw / 1073741824=(pd:Int):=by rw [hlast];split <;> omega
 have HLW:=lh hlast
 have HLO:=lh (low_any lw)
 rw [a2] at HLO
 clear hlast a2 hR4
 have HBS1:Hid (Wh.B R=Wh.B ((fr++(Wh.opt sh.sq sq++(l++(Wh.opt sh.ps ps++Wh.opt sh.mr mr))).flatMap Wh.four)++Wh.four lw)):=by rw [HBS.out];rfl
 have HFC:Hid (∀ W,Calls Tryz.prog 152 #[shV sh] W fun e w'=>e=.returned (.int .i64 (Wh.fixedS sh))/\Fresh W w'):=fun W=>fixed6_any sh W (by rcases HSL.out with h | h | h <;> omega) (by rcases HSL.out with h | h | h <;> omega)
 obtain ⟨fx,hfx⟩:=xq (Wh.fixedS sh)
 rw [<- hfx] at HFC HFX
 have hfx1:fx*4<=(R.length:Int):=HFX.out
 have hfx0:0<=fx:=by
  rw [hfx]
  unfold Wh.fixedS
  have e:∀ b,0<=Wh.one b:=by intro b;cases b <;> simp [Wh.one]
  have e1:=e sh.sq
  have e2:=e sh.ps
  have e3:=e sh.mr
  omega
 clear hfx HFX
 obtain ⟨sd,ssq,sn,sl,sps,smr,sself,sis⟩:=sh
 unfold shV at HSH HFC
 simp only at his HSL HPSN HMRN HSQN HDN HLN HSH HWL HBS HBS1 HFC
 subst his
 go_enter Tryz.func93,Tryz.ntmps93
 go_upto_region 4 with (fail)
 obtain ⟨T0,hT0⟩:=xq (fr++(Wh.opt ssq sq++(l++(Wh.opt sps ps++Wh.opt smr mr))).flatMap Wh.four)
 rw [<- hT0] at HBS HBS1
 have HT0:=lh hT0
 have hT0l:T0.length<=1000000:=by
  have:=congrArg List.length HBS.out
  rw [List.length_append,Wh.four_len] at this
  omega
 clear hT0
 have HZ1:Hid (Blk ((w.alloc (.cells #[.int .i64 0,.int .i64 0,.int .u32 0,.int .u32 0,.int .u32 0,.slice none 0 0,.bool false,.string ⟨#[]⟩] 49)).alloc (.cells #[.string (Wh.B R)] 271)) w.heap.size 49 zC):=(Blk.new w 49 zC).alloc _
 have HT1:Hid (Blk ((w.alloc (.cells #[.int .i64 0,.int .i64 0,.int .u32 0,.int .u32 0,.int .u32 0,.slice none 0 0,.bool false,.string ⟨#[]⟩] 49)).alloc (.cells #[.string (Wh.B R)] 271)) (w.heap.size+1) 271 [.string (Wh.B (T0++Wh.four lw))]):=by
  have:=Blk.new (w.alloc (.cells #[.int .i64 0,.int .i64 0,.int .u32 0,.int .u32 0,.int .u32 0,.slice none 0 0,.bool false,.string ⟨#[]⟩] 49)) 271 [.string (Wh.B R)]
  rw [show (w.alloc (.cells #[.int .i64 0,.int .i64 0,.int .u32 0,.int .u32 0,.int .u32 0,.slice none 0 0,.bool false,.string ⟨#[]⟩] 49)).heap.size=w.heap.size+1 by simp] at this
  rw [<- HBS1.out]
  exact this
 have HF1:Hid (Fresh w ((w.alloc (.cells #[.int .i64 0,.int .i64 0,.int .u32 0,.int .u32 0,.int .u32 0,.slice none 0 0,.bool false,.string ⟨#[]⟩] 49)).alloc (.cells #[.string (Wh.B R)] 271))):=((Touch.refl _ _).alloc _).alloc _
 generalize ((w.alloc (.cells #[.int .i64 0,.int .i64 0,.int .u32 0,.int .u32 0,.int .u32 0,.slice none 0 0,.bool false,.string ⟨#[]⟩] 49)).alloc (.cells #[.string (Wh.B R)] 271))=w1 at *
 obtain ⟨rb,hrb⟩:=xq w.heap.size
 obtain ⟨tb,htb⟩:=xq (w.heap.size+1)
 rw [<- htb] at HT1 ⊢
 rw [<- hrb] at HZ1 ⊢
 have HNB:Hid (rb=w.heap.size/\tb=w.heap.size+1):=⟨hrb,htb⟩
 clear hrb htb HBS1
 go_wp2_with fail
 refine (take6_any tb T0 lw _ HT1.out hlw0 hlw1 hT0l).mono ?_
 rintro e w2 ⟨rfl,hb2,ht2⟩
 have HT2:=lh hb2
 have HZ2:Hid (Blk w2 rb 49 zC):=ht2.blk HZ1.out (fun e=>by have:=HNB.out;have e:rb=tb:=e;omega)
 have HF2:Hid (Fresh w w2):=HF1.out.trans ht2 (fun k hk e=>by have:=HNB.out;have e:k=tb:=e;omega)
 clear hb2 ht2 HT1 HZ1 HF1
 go_wp2_with fail
 refine (HLO.out _).mono ?_
 rintro e w3 ⟨rfl,rfl⟩
 go_wp2_with fail
 have HPN:Hid (PN w rb tb w3.heap.size w3.heap.size)->True:=fun _=>trivial
 clear HPN
 obtain ⟨pb,hpb⟩:=xq w3.heap.size
 have HP3:Hid (Blk (w3.alloc (.cells #[.int .i64 kind,.int .i64 0,.int .u32 n,.int .u32 0,.int .u32 0,.slice none 0 0,.bool self,.string ⟨#[]⟩] 49)) pb 49 [.int .i64 kind,.int .i64 0,.int .u32 n,.int .u32 0,.int .u32 0,.slice none 0 0,.bool self,.string ⟨#[]⟩]):=by
  rw [hpb]
  exact Blk.new w3 _ _
 have HT3:Hid (Blk (w3.alloc (.cells #[.int .i64 kind,.int .i64 0,.int .u32 n,.int .u32 0,.int .u32 0,.slice none 0 0,.bool self,.string ⟨#[]⟩] 49)) tb 271 [.string (Wh.B T0)]):=HT2.out.alloc _
 have HZ3:Hid (Blk (w3.alloc (.cells #[.int .i64 kind,.int .i64 0,.int .u32 n,.int .u32 0,.int .u32 0,.slice none 0 0,.bool self,.string ⟨#[]⟩] 49)) rb 49 zC):=HZ2.out.alloc _
 have HF3:Hid (Fresh w (w3.alloc (.cells #[.int .i64 kind,.int .i64 0,.int .u32 n,.int .u32 0,.int .u32 0,.slice none 0 0,.bool self,.string ⟨#[]⟩] 49))):=HF2.out.alloc _
 have HLT:Hid (tb<pb/\rb<pb):=by
  rw [hpb]
  exact ⟨HT2.out.lt,HZ2.out.lt⟩
 rw [<- hpb]
 clear HT2 HZ2 HF2 hpb
 generalize (w3.alloc (.cells #[.int .i64 kind,.int .i64 0,.int .u32 n,.int .u32 0,.int .u32 0,.slice none 0 0,.bool self,.string ⟨#[]⟩] 49))=w4 at *
 refine (HSH.out _).mono ?_
 rintro e w5 ⟨rfl,f5⟩
 have HS:Hid (P6s w rb tb pb w5.heap.size ⟨sd,ssq,sn,sl,sps,smr,sself,true⟩ (w5.alloc (.cells #[.int .i64 sd,.bool ssq,.bool sn,.int .i64 sl,.bool sps,.bool smr,.bool sself,.bool true] 250)) T0 [.int .i64 kind,.int .i64 0,.int .u32 n,.int .u32 0,.int .u32 0,.slice none 0 0,.bool self,.string ⟨#[]⟩]):=
  ⟨(f5.blk HT3.out (fun e=>e)).alloc _,(f5.blk HP3.out (fun e=>e)).alloc _,(f5.blk HZ3.out (fun e=>e)).alloc _,Blk.new w5 _ _,(HF3.out.trans f5 (fun _ _ e=>e)).alloc _⟩
 have HPB:Hid (pb<w5.heap.size):=Nat.lt_of_lt_of_le HP3.out.lt f5.size
 clear f5 HP3 HT3 HZ3 HF3
 go_upto_region 7 with (fail)
 generalize (w5.alloc (.cells #[.int .i64 sd,.bool ssq,.bool sn,.int .i64 sl,.bool sps,.bool smr,.bool sself,.bool true] 250))=w6 at *
 generalize w5.heap.size=sb at *
 have HN:Hid (PN w rb tb pb sb):=by
  have h1:=HNB.out
  have h2:=HLT.out
  have h3:pb<sb:=HPB.out
  exact ⟨by omega,by omega,by omega,by omega,by omega,by omega,by omega,by omega⟩
 clear HNB HLT HPB HSH HLO hz hne hR4i a1 a3
 have s0:w6.cell? ⟨sb,0,none⟩=some (.int .i64 sd):=HS.out.s.cell 0
 have s1:w6.cell? ⟨sb,1,none⟩=some (.bool ssq):=HS.out.s.cell 1
 have s2:w6.cell? ⟨sb,2,none⟩=some (.bool sn):=HS.out.s.cell 2
 have s3:w6.cell? ⟨sb,3,none⟩=some (.int .i64 sl):=HS.out.s.cell 3
 have s4:w6.cell? ⟨sb,4,none⟩=some (.bool sps):=HS.out.s.cell 4
 have s5:w6.cell? ⟨sb,5,none⟩=some (.bool smr):=HS.out.s.cell 5
 have s6:w6.cell? ⟨sb,6,none⟩=some (.bool sself):=HS.out.s.cell 6
 have s7:w6.cell? ⟨sb,7,none⟩=some (.bool true):=HS.out.s.cell 7
 have hz:(Wh.B R).size=R.length:=Wh.B_size R
 go_wp2_with fail
 refine (HFC.out _).mono ?_
 rintro e w7 ⟨rfl,f7⟩
 have HS7:Hid (P6s w rb tb pb sb ⟨sd,ssq,sn,sl,sps,smr,sself,true⟩ w7 T0 [.int .i64 kind,.int .i64 0,.int .u32 n,.int .u32 0,.int .u32 0,.slice none 0 0,.bool self,.string ⟨#[]⟩]):=HS.out.fresh f7
 clear f7 HS s0 s1 s2 s3 s4 s5 s6 s7 HFC
 have s5:w7.cell? ⟨sb,5,none⟩=some (.bool smr):=HS7.out.s.cell 5
 go_upto_if 54 with (fail)
 obtain ⟨T2,hT2⟩:=xq (fr++(Wh.opt ssq sq++l).flatMap Wh.four)
 obtain ⟨T1,hT1⟩:=xq (T2++(Wh.opt sps ps).flatMap Wh.four)
 have HT01:Hid (T0=T1++(Wh.opt smr mr).flatMap Wh.four):=by
  show _=_
  rw [HT0.out,hT1,hT2]
  simp only [List.flatMap_append,List.append_assoc]
 have HT12:=lh hT1
 have HT2:=lh hT2
 have hT1l:T1.length<=1000000:=by
  have:=congrArg List.length HT01.out
  rw [List.length_append] at this
  omega
 have hT2l:T2.length<=1000000:=by
  have:=congrArg List.length hT1
  rw [List.length_append] at this
  omega
 clear hT1 hT2
 go_cut [8] (fun v wx=>v=.int .i64 (pd:Int)/\Hid (P6s w rb tb pb sb ⟨sd,ssq,sn,sl,sps,smr,sself,true⟩ wx T1 [.int .i64 kind,.int .i64 0,.int .u32 n,.int .u32 0,.int .u32 mr,.slice none 0 0,.bool self,.string ⟨#[]⟩]))
 case first =>
  cases smr
  ·have h0:mr=0:=HMRN.out rfl
   subst h0
   have HE:Hid (T0=T1):=by
    show _=_
    rw [HT01.out]
    simp [Wh.opt]
   go_wp2
   go_meet
   case rel=>exact ⟨rfl,by rw [<- HE.out];exact HS7⟩
  ·have HE:Hid (T0=T1++Wh.four mr):=by
    show _=_
    rw [HT01.out]
    simp [Wh.opt]
   go_wp2_with fail
   refine (take6_any tb T1 mr _ (by rw [<- HE.out];exact HS7.out.t) (by omega) (by omega) hT1l).mono ?_
   rintro e w8 ⟨rfl,hb8,ht8⟩
   have HS8:=lh (HS7.out.take HN.out hb8 ht8)
   clear hb8 ht8
   have c4:w8.cell? ⟨pb,4,none⟩=some (.int .u32 0):=HS8.out.p.cell 4
   have z4:w8.frozen? ⟨pb,4,none⟩=false:=HS8.out.p.frozen 4
   have HS9:=lh (HS8.out.set HN.out 4 (.int .u32 mr))
   go_wp2_with fail
   go_meet
   case rel=>exact ⟨rfl,HS9⟩
 case rest =>
  obtain ⟨rfl,HA⟩:=hcut
  clear HS7 s5 HT01 HT0 HMRN
  have s4:wc.cell? ⟨sb,4,none⟩=some (.bool sps):=HA.out.s.cell 4
  go_upto_if 59 with (fail)
  go_cut [8] (fun v wx=>v=.int .i64 (pd:Int)/\Hid (P6s w rb tb pb sb ⟨sd,ssq,sn,sl,sps,smr,sself,true⟩ wx T2 [.int .i64 kind,.int .i64 0,.int .u32 n,.int .u32 ps,.int .u32 mr,.slice none 0 0,.bool self,.string ⟨#[]⟩]))
  case first =>
   cases sps
   ·have h0:ps=0:=HPSN.out rfl
    subst h0
    have HE:Hid (T1=T2):=by
     show _=_
     rw [HT12.out]
     simp [Wh.opt]
    go_wp2
    go_meet
    case rel=>exact ⟨rfl,by rw [<- HE.out];exact HA⟩
   ·have HE:Hid (T1=T2++Wh.four ps):=by
     show _=_
     rw [HT12.out]
     simp [Wh.opt]
    go_wp2_with fail
    refine (take6_any tb T2 ps _ (by rw [<- HE.out];exact HA.out.t) (by omega) (by omega) hT2l).mono ?_
    rintro e w8 ⟨rfl,hb8,ht8⟩
    have HS8:=lh (HA.out.take HN.out hb8 ht8)
    clear hb8 ht8
    have c3:w8.cell? ⟨pb,3,none⟩=some (.int .u32 0):=HS8.out.p.cell 3
    have z3:w8.frozen? ⟨pb,3,none⟩=false:=HS8.out.p.frozen 3
    have HS9:=lh (HS8.out.set HN.out 3 (.int .u32 ps))
    go_wp2_with fail
    go_meet
    case rel=>exact ⟨rfl,HS9⟩
  case rest =>
   obtain ⟨rfl,HB⟩:=hcut
   clear s4 HA HT12 HPSN
   have s3:wc.cell? ⟨sb,3,none⟩=some (.int .i64 sl):=HB.out.s.cell 3
   have t0:wc.cell? ⟨tb,0,none⟩=some (.string (Wh.B T2)):=HB.out.t.cell 0
   have hzt:(Wh.B T2).size=T2.length:=Wh.B_size T2
   go_upto_if 66 with (fail)
   go_cut [8,9] (fun u v wx=>u=.int .i64 (pd:Int)/\v=.int .i64 (l.length:Int)/\wx=wc)
   case first =>
    by_cases hsl:sl<0
    ·have h4:(T2.length:Int) / 4=(l.length:Int):=by
      have h1:=HT2.out
      have h2:=congrArg List.length h1
      rw [List.length_append,Wh.fours_len,List.length_append] at h2
      rcases HSL.out with h | h | h
      ·omega
      ·have h3:=HDN.out h.2.1
       have h5:=HFL.out
       have h6:=HF4.out
       have h7:(Wh.opt ssq sq).length=0:=by rw [h.2.2];rfl
       omega
      ·omega
     go_wp2
     go_meet
     case rel=>exact ⟨rfl,rfl,rfl⟩
    ·have h4:sl=(l.length:Int):=(HLN.out (by omega)).symm
     go_wp2
     go_meet
     case rel=>exact ⟨rfl,by first | rfl | rw [h4],rfl⟩
   case rest =>
    obtain ⟨rfl,rfl,rfl⟩:=hcut
    clear s3 t0 hzt HSL HDN HLN
    go_wp2_with fail
    go_loopw [74] (fun i wx=>∃ (k:Nat) (A':Option Addr) (c':Nat) (L:List Int),k<=l.length/\i=.int .i64 k/\Hid (L=(l.drop (l.length-k)).reverse)/\Hid (P6s w rb tb pb sb ⟨sd,ssq,sn,sl,sps,smr,sself,true⟩ wx (fr++(Wh.opt ssq sq++l.take (l.length-k)).flatMap Wh.four) [.int .i64 kind,.int .i64 0,.int .u32 n,.int .u32 ps,.int .u32 mr,.slice A' L.length c',.bool self,.string ⟨#[]⟩])/\Hid (Mine numE w wx A' c' L)) (fun i _=>l.length-(intOf i).toNat)
    case atStart =>
     refine ⟨0,none,0,[],Nat.zero_le _,rfl,?_,?_,?_⟩
     ·show _=_
      simp
     ·rw [Nat.sub_zero,List.take_length,<- HT2.out]
      exact HB
     ·exact ⟨Sl.nil _ _,HB.out.f,fun _ h=>nomatch h⟩
    case round =>
     obtain ⟨k,A2,c2,L2,hk,rfl,HL2,HP,HM⟩:=hrel
     by_cases hlt:k<l.length
     ·obtain ⟨m,hm⟩:∃ m,l.length-k=m+1:=⟨l.length-k-1,by omega⟩
      have hml:m<l.length:=by omega
      have hx:=HLL.out l[m] (List.getElem_mem hml)
      have HTK:Hid (fr++(Wh.opt ssq sq++l.take (l.length-k)).flatMap Wh.four=(fr++(Wh.opt ssq sq++l.take m).flatMap Wh.four)++Wh.four l[m]):=by
       show _=_
       rw [hm,List.take_succ_eq_append_getElem hml]
       simp only [List.flatMap_append,List.append_assoc,List.flatMap_cons,List.flatMap_nil,List.append_nil]
      have HLK:Hid ((l.drop (l.length-(k+1))).reverse=L2++[l[m]]):=by
       show _=_
       rw [HL2.out,hm,show l.length-(k+1)=m by omega,List.drop_eq_getElem_cons hml,List.reverse_cons]
      have HMK:Hid (l.length-(k+1)=m):=by
       show _=_
       omega
      have hTl:(fr++(Wh.opt ssq sq++l.take m).flatMap Wh.four).length<=1000000:=by
       have h1:=congrArg List.length HT2.out
       rw [List.length_append,Wh.fours_len,List.length_append] at h1
       rw [List.length_append,Wh.fours_len,List.length_append,List.length_take]
       omega
      have h2l:L2.length<=200:=by
       rw [HL2.out]
       simp
       omega
      rw [HTK.out] at HP
      obtain ⟨x,hxe⟩:=xq (l[m])
      rw [<- hxe] at hx HP HLK
      clear hxe HTK HL2 hm hml
      obtain ⟨hx0,hx1⟩:=hx
      obtain ⟨Tk,hTk⟩:=xq (fr++(Wh.opt ssq sq++l.take m).flatMap Wh.four)
      rw [<- hTk] at HP hTl
      have HTk:=lh hTk
      clear hTk
      have c5:wr.cell? ⟨pb,5,none⟩=some (.slice A2 L2.length c2):=HP.out.p.cell 5
      have z5:wr.frozen? ⟨pb,5,none⟩=false:=HP.out.p.frozen 5
      go_upto_region 21 with (fail)
      have HPd:Hid (P6s w rb tb pb sb ⟨sd,ssq,sn,sl,sps,smr,sself,true⟩ wr.drew (Tk++Wh.four x) [.int .i64 kind,.int .i64 0,.int .u32 n,.int .u32 ps,.int .u32 mr,.slice A2 L2.length c2,.bool self,.string ⟨#[]⟩]):=HP.out.fresh ((Touch.refl _ _).drew)
      have HMd:Hid (Mine numE w wr.drew A2 c2 L2):=HM.out.old ((Touch.refl _ _).drew)
      clear HP HM HB HT2
      go_region_law (first
       |(go_simp;go_at_call 151;refine (take6_any tb Tk x _ HPd.out.t hx0 (by omega) hTl).mono ?_;rintro e w8 ⟨rfl,hb8,ht8⟩;have HP8:=lh (HPd.out.take HN.out hb8 ht8);have HM8:Hid (Mine numE w w8 A2 c2 L2):=HMd.out.own ht8 (fun k e=>by have:=HN.out.t;have e:k=tb:=e;omega) (fun ad e=>HMd.out.sl.blk_ne HPd.out.t (by decide) ad e);have c8:w8.cell? ⟨pb,5,none⟩=some (.slice A2 L2.length c2):=HP8.out.p.cell 5;have d8:(w8.alloc (.cells #[.int .u32 x] 46)).cell? ⟨pb,5,none⟩=some (.slice A2 L2.length c2):=(HP8.out.p.alloc _).cell 5;clear hb8 ht8)
       |(refine stp_num rfl (by rfl) (l:=L2) (l2:=[x]) (by rfl) (by rfl) (HM8.out.sl.alloc _) (Sl.lit numE w8 _ rfl #[.int .u32 x] [x] rfl 1 rfl (by unfold maxLen;omega)).rd (by simp;omega) ?_;intro A' c' L w9 hL hs ht hA;have HM9:=lh ((HM8.out.alloc _).app hs ht hA);have HP9:=lh ((HP8.out.fresh ((Touch.refl _ _).alloc _)).list (HM8.out.alloc _) ht);have c9:w9.cell? ⟨pb,5,none⟩=some (.slice A2 L2.length c2):=HP9.out.p.cell 5;have z9:w9.frozen? ⟨pb,5,none⟩=false:=HP9.out.p.frozen 5;have HL9:=lh hL.out;clear hs ht hA hL))
      all_goals
       have HPE:=lh (HP9.out.set HN.out 5 (.slice A' L.length c'))
       have HME:Hid (Mine numE w (w9.setCell ⟨pb,5,none⟩ (.slice A' L.length c')) A' c' L):=HM9.out.own (Touch.set1 w9 pb 5 _) (fun k e=>by have:=HN.out.p;have e:k=pb:=e;omega) (fun ad e=>HM9.out.sl.blk_ne HP9.out.p (by decide) ad e)
       have HLE:Hid (L=(l.drop (l.length-(k+1))).reverse):=by
        show _=_
        rw [HLK.out]
        exact HL9.out
       go_wp2_with fail
       go_roundw
       case rel=>exact ⟨k+1,A',c',L,by omega,by go_num,HLE,by rw [HMK.out,<- HTk.out];first | exact HPE | exact HPE.out.fresh ((Touch.refl _ _).drew),by first | exact HME | exact HME.out.old ((Touch.refl _ _).drew)⟩
       case measure=>simp [intOf];omega
     ·have hkl:k=l.length:=by omega
      have HL3:Hid (L2=l.reverse):=by
       show _=_
       rw [HL2.out,hkl,Nat.sub_self,List.drop_zero]
      have HP3:Hid (P6s w rb tb pb sb ⟨sd,ssq,sn,sl,sps,smr,sself,true⟩ wr (fr++(Wh.opt ssq sq).flatMap Wh.four) [.int .i64 kind,.int .i64 0,.int .u32 n,.int .u32 ps,.int .u32 mr,.slice A2 L2.length c2,.bool self,.string ⟨#[]⟩]):=by
       have:=HP.out
       rw [hkl,Nat.sub_self,List.take_zero,List.append_nil] at this
       exact this
      clear hkl HL2 HP HB HT2
      have h2l:L2.length<=200:=by rw [HL3.out,List.length_reverse];omega
      have c5:wr.cell? ⟨pb,5,none⟩=some (.slice A2 L2.length c2):=HP3.out.p.cell 5
      go_wp2_with fail
      refine (rev6_any A2 c2 L2 _ HM.out.sl (by omega)).mono ?_
      rintro e w8 ⟨rfl,hs8,ht8⟩
      have HP8:=lh (HP3.out.list HM.out ht8)
      have HM8:Hid (Mine numE w w8 A2 c2 l):=by
       have e:L2.reverse=l:=by rw [HL3.out,List.reverse_reverse]
       rw [e] at hs8
       exact ⟨hs8,HP8.out.f,HM.out.base⟩
      have HLL2:Hid (L2.length=l.length):=by
       show _=_
       rw [HL3.out,List.length_reverse]
      rw [HLL2.out] at HP8
      clear hs8 ht8 c5 HP3 HM HL3
      have s1:w8.cell? ⟨sb,1,none⟩=some (.bool ssq):=HP8.out.s.cell 1
      go_upto_if 88 with (fail)
      go_cut [8] (fun v wx=>v=.int .i64 (pd:Int)/\Hid (P6s w rb tb pb sb ⟨sd,ssq,sn,sl,sps,smr,sself,true⟩ wx fr [.int .i64 kind,.int .i64 sq,.int .u32 n,.int .u32 ps,.int .u32 mr,.slice A2 l.length c2,.bool self,.string ⟨#[]⟩])/\Hid (Mine numE w wx A2 c2 l))
      case first=>as_aux_lemma =>
       cases ssq
       ·have h0:sq=0:=HSQN.out rfl
        subst h0
        have HE:Hid (fr++(Wh.opt false 0).flatMap Wh.four=fr):=by
         show _=_
         simp [Wh.opt]
        rw [HE.out] at HP8
        go_wp2
        go_meet
        case rel=>exact ⟨rfl,HP8,HM8⟩
       ·have HE:Hid (fr++(Wh.opt true sq).flatMap Wh.four=fr++Wh.four sq):=by
         show _=_
         simp [Wh.opt]
        rw [HE.out] at HP8
        have hfl:fr.length<=1000000:=by rw [HFL.out];omega
        go_wp2_with fail
        refine (take6_any tb fr sq _ HP8.out.t hq0 (by omega) hfl).mono ?_
        rintro e w9 ⟨rfl,hb9,ht9⟩
        have HP9:=lh (HP8.out.take HN.out hb9 ht9)
        have HM9:Hid (Mine numE w w9 A2 c2 l):=HM8.out.own ht9 (fun k e=>by have:=HN.out.t;have e:k=tb:=e;omega) (fun ad e=>HM8.out.sl.blk_ne HP8.out.t (by decide) ad e)
        clear hb9 ht9
        have c1:w9.cell? ⟨pb,1,none⟩=some (.int .i64 0):=HP9.out.p.cell 1
        have z1:w9.frozen? ⟨pb,1,none⟩=false:=HP9.out.p.frozen 1
        have HPE:=lh (HP9.out.set HN.out 1 (.int .i64 sq))
        have HME:Hid (Mine numE w (w9.setCell ⟨pb,1,none⟩ (.int .i64 sq)) A2 c2 l):=HM9.out.own (Touch.set1 w9 pb 1 _) (fun k e=>by have:=HN.out.p;have e:k=pb:=e;omega) (fun ad e=>HM9.out.sl.blk_ne HP9.out.p (by decide) ad e)
        go_wp2_with fail
        go_meet
        case rel=>exact ⟨rfl,HPE,HME⟩
      case rest=>as_aux_lemma =>
       obtain ⟨rfl,HQ,HO⟩:=hcut
       clear HP8 HM8 s1 HSQN
       have t0:wc.cell? ⟨tb,0,none⟩=some (.string (Wh.B fr)):=HQ.out.t.cell 0
       have c7:wc.cell? ⟨pb,7,none⟩=some (.string ⟨#[]⟩):=HQ.out.p.cell 7
       have z7:wc.frozen? ⟨pb,7,none⟩=false:=HQ.out.p.frozen 7
       have hzf:(Wh.B fr).size=data.size+pd:=by rw [Wh.B_size,HFL.out]
       have hxf:(Wh.B fr).extract 0 data.size=data:=by
        rw [HFR.out,Lib.size_eq data,Wh.B_front,Wh.B_of]
       have b1:(0:Int)<=(data.size:Int):=by omega
       have b2:(data.size:Int)<=(data.size:Int)+(pd:Int):=by omega
       have HPE:=lh (HQ.out.set HN.out 7 (.string data))
       have HME:Hid (Mine numE w (wc.setCell ⟨pb,7,none⟩ (.string data)) A2 c2 l):=HO.out.own (Touch.set1 wc pb 7 _) (fun k e=>by have:=HN.out.p;have e:k=pb:=e;omega) (fun ad e=>HO.out.sl.blk_ne HQ.out.p (by decide) ad e)
       go_upto_region 28 with (fail)
       clear b1 b2
       go_region
       all_goals
        have HPF:Hid (P6s w rb tb pb sb ⟨sd,ssq,sn,sl,sps,smr,sself,true⟩ (wc.setCell ⟨pb,7,none⟩ (.string data)).drew fr [.int .i64 kind,.int .i64 sq,.int .u32 n,.int .u32 ps,.int .u32 mr,.slice A2 l.length c2,.bool self,.string data]):=HPE.out.fresh ((Touch.refl _ _).drew)
        have HMF:Hid (Mine numE w (wc.setCell ⟨pb,7,none⟩ (.string data)).drew A2 c2 l):=HME.out.old ((Touch.refl _ _).drew)
        clear HPE HME t0 c7 z7 hzf hxf HQ HO
        generalize (wc.setCell ⟨pb,7,none⟩ (.string data)).drew=w9 at *
        go_wp2_with fail
        refine (HTL.out pb A2 c2 _ HPF.out.p HMF.out.sl.rd).mono ?_
        rintro e w10 ⟨rfl,f10⟩
        have HPG:=lh (HPF.out.fresh f10)
        have HMG:=lh (HMF.out.old f10)
        clear f10 HPF HMF
        have e0:w10.cell? ⟨pb,0,none⟩=some (.int .i64 kind):=HPG.out.p.cell 0
        have e1:w10.cell? ⟨pb,1,none⟩=some (.int .i64 sq):=HPG.out.p.cell 1
        have e2:w10.cell? ⟨pb,2,none⟩=some (.int .u32 n):=HPG.out.p.cell 2
        have e3:w10.cell? ⟨pb,3,none⟩=some (.int .u32 ps):=HPG.out.p.cell 3
        have e4:w10.cell? ⟨pb,4,none⟩=some (.int .u32 mr):=HPG.out.p.cell 4
        have e5:w10.cell? ⟨pb,5,none⟩=some (.slice A2 l.length c2):=HPG.out.p.cell 5
        have e6:w10.cell? ⟨pb,6,none⟩=some (.bool self):=HPG.out.p.cell 6
        have e7:w10.cell? ⟨pb,7,none⟩=some (.string data):=HPG.out.p.cell 7
        have HI:Hid ((Tryz.prog.info? 49).map (·.size)=some (#[.int .i64 kind,.int .i64 sq,.int .u32 n,.int .u32 ps,.int .u32 mr,.slice A2 l.length c2,.bool self,.string data]:Array Value).size):=by
         show _=_
         kernel_rfl
        have HO1:Hid ((#[.int .i64 kind,.int .i64 sq,.int .u32 n,.int .u32 ps,.int .u32 mr,.slice A2 l.length c2,.bool self,.string data]:Array Value).all (·.oneCell')=true):=by
         show _=_
         simp [Value.oneCell']
        have HZR:=lh HPG.out.r
        have HPP:=lh HPG.out.p
        have HB11:Hid (Blk (w10.setRow rb #[.int .i64 kind,.int .i64 sq,.int .u32 n,.int .u32 ps,.int .u32 mr,.slice A2 l.length c2,.bool self,.string data]) rb 49 [.int .i64 kind,.int .i64 sq,.int .u32 n,.int .u32 ps,.int .u32 mr,.slice A2 l.length c2,.bool self,.string data]):=setRow_heap w10 rb _ _ _ _ HZR.out
        have HTT:Hid (Touch (· = rb) w10 (w10.setRow rb #[.int .i64 kind,.int .i64 sq,.int .u32 n,.int .u32 ps,.int .u32 mr,.slice A2 l.length c2,.bool self,.string data])):=⟨rfl,rfl,rfl,by simp,fun k _ hk=>setRow_other w10 rb k _ hk⟩
        have HFE:Hid (Fresh w (w10.setRow rb #[.int .i64 kind,.int .i64 sq,.int .u32 n,.int .u32 ps,.int .u32 mr,.slice A2 l.length c2,.bool self,.string data])):=HPG.out.f.trans HTT.out (fun k hk e=>by have:=HN.out.r;have e:k=rb:=e;omega)
        have HRE:Hid (Mine numE w (w10.setRow rb #[.int .i64 kind,.int .i64 sq,.int .u32 n,.int .u32 ps,.int .u32 mr,.slice A2 l.length c2,.bool self,.string data]) A2 c2 l):=⟨HMG.out.sl.touch HTT.out (fun ad e=>HMG.out.sl.blk_ne HPG.out.r (by decide) ad e),HFE.out,HMG.out.base⟩
        clear HTT HMG HPG
        have HU:=lh Tryz.underlying49
        go_upto_region 30 with (fail)
        refine wp_region_lit ?_
        refine wpList_load_row rfl 49 (.tmp 6) rfl pb (by rfl) 49 #[.int .i64 kind,.int .i64 sq,.int .u32 n,.int .u32 ps,.int .u32 mr,.slice A2 l.length c2,.bool self,.string data] (0,0) _ HPP.out HU.out rfl HI.out ?_
        refine wpList_move rfl (.tmp 10) rfl ?_
        refine wpList_store_row rfl 49 (.tmp 2) (.tmp 116) rfl rb #[.int .i64 kind,.int .i64 sq,.int .u32 n,.int .u32 ps,.int .u32 mr,.slice A2 l.length c2,.bool self,.string data] (by rfl) (by rfl) 49 zC.toArray HZR.out HI.out (by rfl) HO1.out ?_
        clear e0 e1 e2 e3 e4 e5 e6 e7
        generalize (w10.setRow rb #[.int .i64 kind,.int .i64 sq,.int .u32 n,.int .u32 ps,.int .u32 mr,.slice A2 l.length c2,.bool self,.string data])=w11 at *
        have r0:w11.cell? ⟨rb,0,none⟩=some (.int .i64 kind):=HB11.out.cell 0
        have r1:w11.cell? ⟨rb,1,none⟩=some (.int .i64 sq):=HB11.out.cell 1
        have r2:w11.cell? ⟨rb,2,none⟩=some (.int .u32 n):=HB11.out.cell 2
        have r3:w11.cell? ⟨rb,3,none⟩=some (.int .u32 ps):=HB11.out.cell 3
        have r4:w11.cell? ⟨rb,4,none⟩=some (.int .u32 mr):=HB11.out.cell 4
        have r5:w11.cell? ⟨rb,5,none⟩=some (.slice A2 l.length c2):=HB11.out.cell 5
        have r6:w11.cell? ⟨rb,6,none⟩=some (.bool self):=HB11.out.cell 6
        have r7:w11.cell? ⟨rb,7,none⟩=some (.string data):=HB11.out.cell 7
        go_wp2_with fail
        refine bodyPost_ret (v:=.tuple #[.agg #[.int .i64 kind,.int .i64 sq,.int .u32 n,.int .u32 ps,.int .u32 mr,.slice A2 l.length c2,.bool self,.string data],.int .i64 0]) (by simp [results,Tryz.results93,go_sem,r0,r1,r2,r3,r4,r5,r6,r7]) rfl ⟨A2,c2,rfl,HFE.out,HRE.out⟩
end Go.Proofs.YtlbopdfobgjjaaaGreatDoor

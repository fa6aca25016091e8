/-
  node.Node: ready, idle, over, report, again, credit. No conditions but where the end lies · node.Node: bring: what a connection's result brings. Conditions: an epoch that ends is there · node.Node: what a connection's call brings; fail, Garbled. Conditions: an epoch that ends is there.
-/
import Derived.Test.YtlbopdfobgjjaaaGreatDoorEnZk
import Derived.Test.YtlbopdfobgjjaaaGreatDoorSndD
import Derived.RegionTactic
import Derived.StillTailTactics
import Derived.Deep.DeepCutAuto
import Derived.Deep.CutBlock
import Derived.Deep.RegionLaw
import Derived.Deep.RegionHeld3
import Derived.Test.YtlbopdfobgjjaaaGreatDoorPdw
import Derived.Test.YtlbopdfobgjjaaaGreatDoorEvD
import Derived.Test.YtlbopdfobgjjaaaGreatDoorMapD
import Derived.Test.YtlbopdfobgjjaaaGreatDoorRev6
import Derived.Deep.QuietTactic
import Derived.BigQuiet
set_option maxHeartbeats 8000000
namespace Go.Proofs.YtlbopdfobgjjaaaGreatDoor
open Go.RowKit
set_option maxRecDepth 20000
section
variable {k:Nat} {D D':Nat->Nat} {w w':World} {n cn pc un:Nat} {sp rp:Option Nat} {A B:Option Addr} {ca cb:Nat} {x:En.X}
theorem EndIn.ep_none (h:EndIn k D w n cn pc un sp rp A ca B cb x) (he:x.ep=none):sp=none/\rp=none:=by
 have:=h.e
 rw [he] at this
 exact this
theorem EndIn.ep_some {e:Sf.S × Rf.S} (h:EndIn k D w n cn pc un sp rp A ca B cb x) (he:x.ep=some e):∃ p q,sp=some p/\rp=some q/\PS k D w p e.1/\PR k D w q e.2:=by
 have:=h.e
 rw [he] at this
 exact this
theorem nready_any (h:EndIn k D w n cn pc un sp rp A ca B cb x) :
  Calls Tryz.prog 22 #[.pointer (some ⟨n,0,none⟩)] w fun e w'=>e=.returned (.bool x.ep.isSome)/\w=w':=by
 cases he:x.ep with
 |none =>
  obtain ⟨rfl,rfl⟩:=h.ep_none he
  have c13:w.cell? ⟨n,13,none⟩=some (.pointer none):=h.b.1.cell 13
  clear h he
  go_enter Tryz.func22,Tryz.ntmps22
  go_wp2
  go_ret
  exact ⟨rfl,rfl⟩
 |some e =>
  obtain ⟨p,q,rfl,rfl,-,-⟩:=h.ep_some he
  have c13:w.cell? ⟨n,13,none⟩=some (.pointer (some ⟨p,0,none⟩)):=h.b.1.cell 13
  clear h he
  go_enter Tryz.func22,Tryz.ntmps22
  go_wp2
  go_ret
  exact ⟨rfl,rfl⟩
theorem prog_idle {s:Sf.S} (hs:s.last.length=s.kept.length):(decide ((Sf.prog s).q.length=0) && decide ((Sf.prog s).m.length=0))=En.sIdle s:=by
 unfold En.sIdle Sf.prog
 simp only
 rw [Sf.pm_len _ _ _ hs]
theorem nidle_any (h:EndIn k D w n cn pc un sp rp A ca B cb x) (hl:∀ e,x.ep=some e->e.1.last.length=e.1.kept.length) :
  Calls Tryz.prog 84 #[.pointer (some ⟨n,0,none⟩)] w fun e w'=>e=.returned (.bool (En.idle x))/\∃ m,w'=w.drewN m:=by
 have HRD:=lh (nready_any h)
 cases he:x.ep with
 |none =>
  have hi:En.idle x=true:=by unfold En.idle;rw [he]
  rw [he] at HRD
  rw [hi]
  clear h he hi
  go_enter Tryz.func84,Tryz.ntmps84
  go_wp2_with (go_at_call 22;(with_reducible refine HRD.out.mono ?_);rintro e w1 ⟨rfl,rfl⟩)
  go_ret
  exact ⟨rfl,0,rfl⟩
 |some e =>
  obtain ⟨p,q,rfl,rfl,⟨F,hs,-⟩,-⟩:=h.ep_some he
  have hi:En.idle x=En.sIdle e.1:=by unfold En.idle;rw [he]
  have HID:=lh (sidle_any p F _ w hs)
  rw [prog_idle (hl e he)] at HID
  rw [he] at HRD
  rw [hi]
  have c13:w.cell? ⟨n,13,none⟩=some (.pointer (some ⟨p,0,none⟩)):=h.b.1.cell 13
  clear h he hi hs hl
  generalize En.sIdle e.1=z at *
  go_enter Tryz.func84,Tryz.ntmps84
  go_wp2_with (first
   |(go_at_call 22;(with_reducible refine HRD.out.mono ?_);rintro e w1 ⟨rfl,rfl⟩)
   |(go_at_call 134;(with_reducible refine HID.out.mono ?_);rintro e w2 ⟨rfl,m,rfl⟩))
  go_ret
  exact ⟨rfl,m,rfl⟩
theorem nrep_any (c m:Int) (w:World) :
  Calls Tryz.prog 76 #[.int .u8 c,.int .i64 m] w fun e w'=>∃ A,e=.returned (.slice (some A) 1 1)/\Mine sigE w w' (some A) 1 [En.rep c m]:=by
 go_enter Tryz.func76,Tryz.ntmps76
 go_wp2
 go_ret
 exact ⟨_,rfl,Mine.lit sigE w _ [En.rep c m] rfl 1 rfl (by decide)⟩
theorem nagain_any (m:Int) (w:World) :
  Calls Tryz.prog 192 #[.int .i64 m] w fun e w'=>∃ A c,e=.returned (.slice A (En.again m).length c)/\Mine sigE w w' A c (En.again m):=by
 unfold En.again
 by_cases hm:m=0
 ·subst hm
  go_enter Tryz.func192,Tryz.ntmps192
  go_wp2
  go_ret
  exact ⟨none,0,rfl,Mine.nil _ _⟩
 ·have h1:(m==0)=false:=by simpa using hm
  rw [if_neg hm]
  go_enter Tryz.func192,Tryz.ntmps192
  go_wp2_with (go_at_call 76;refine (nrep_any 86 m _).mono ?_;rintro e w1 ⟨A,rfl,h1⟩)
  go_ret
  exact ⟨_,_,rfl,h1⟩
theorem nover_any (h:EndIn k D w n cn pc un sp rp A ca B cb x) :
  Calls Tryz.prog 101 #[.pointer (some ⟨n,0,none⟩)] w fun e w'=>e=.returned (.tuple #[])/\EndIn k D w' n cn pc un sp rp A ca B cb (En.over x)/\Touch (· = n) w w':=by
 have c17:w.cell? ⟨n,17,none⟩=some (.bool x.poll):=h.b.1.cell 17
 have f17:=h.b.1.frozen 17
 have c18:w.cell? ⟨n,18,none⟩=some (.bool x.stat):=h.b.1.cell 18
 have f18:=h.b.1.frozen 18
 have H1:=h.put (x':={ x with poll:=false }) 17 (.bool false) rfl rfl ⟨rfl,rfl⟩ rfl h.l h.f h.e
 have H2:=lh (H1.put (x':=En.over x) 18 (.bool false) rfl rfl ⟨rfl,rfl⟩ rfl H1.l H1.f H1.e)
 clear h H1
 go_enter Tryz.func101,Tryz.ntmps101
 go_wp2
 go_end0
 exact ⟨rfl,H2.out,((Touch.refl (· = n) w).st rfl).st rfl⟩
theorem prog_lack {s:Sf.S} {lo hi:Int} (h:Sf.Ok s lo hi):((Sf.prog s).s==(Sf.prog s).ms)=(s.s==s.ms):=by
 have h1:=h.sms
 have h2:=h.msa
 have h3:=h.klen
 rw [Bool.eq_iff_iff,beq_iff_eq,beq_iff_eq]
 show s.s%16777216=s.ms%16777216 ↔ _
 omega
structure SigsTo (w w':World) (A A':Option Addr) (c':Nat) (l:List Cn.Sig):Prop where
 sl:Sl sigE w' A' c' l
 at_:A'.map Addr.block=A.map Addr.block\/∀ ad,A'=some ad->w.heap.size<=ad.block
def CreditPost (k:Nat) (D:Nat->Nat) (w:World) (n cn pc un:Nat) (sp rp:Option Nat) (A:Option Addr) (ca:Nat) (B:Option Addr) (cb:Nat) (Al:Option Addr) (y:En.X × List Cn.Sig) (e:Ending) (w':World):Prop:=
 ∃ A' c',e=.returned (.slice A' y.2.length c')/\SigsTo w w' Al A' c' y.2/\EndIn k (lab D w.heap.size (k+8)) w' n cn pc un sp rp A ca B cb y.1/\Touch (fun b=>b=n\/Al.map Addr.block=some b) w w'
theorem ncredit_any (h:EndIn k D w n cn pc un sp rp A ca B cb x) (hso:∀ e,x.ep=some e->∃ lo hi,Sf.Ok e.1 lo hi) (Al:Option Addr) (cl:Nat) (l:List Cn.Sig) (hs:Sl sigE w Al cl l) (hl:l.length<=1000000) (hA:∀ ad,Al=some ad->¬ (k<=D ad.block/\D ad.block<k+8)) :
  Calls Tryz.prog 37 #[.pointer (some ⟨n,0,none⟩),.slice Al l.length cl] w (CreditPost k D w n cn pc un sp rp A ca B cb Al (En.credit x l)):=by
 obtain ⟨was,hwas⟩:=qx x.lacks
 obtain ⟨now,hnow⟩:=qx (En.lack x)
 have HRD:=lh (nready_any h)
 have HR2:Hid (∀ W,EndIn k D W n cn pc un sp rp A ca B cb { x with lacks:=now }->Calls Tryz.prog 22 #[.pointer (some ⟨n,0,none⟩)] W fun e w'=>e=.returned (.bool x.ep.isSome)/\W=w'):=fun W hW=>by
  have r:=nready_any hW
  exact r
 have c20:∀ m,(w.drewN m).cell? ⟨n,20,none⟩=some (.bool was):=fun m=>by rw [<- hwas];exact (h.b.1.drewN m).cell 20
 have f20:=fun m=>(h.b.1.drewN m).frozen 20
 have HNA:Hid (∀ ad,Al=some ad->ad.block ≠ n):=fun ad e e2=>hA ad e (by rw [e2];have:=h.b.2;omega)
 have HLA:Hid (∀ ad,Al=some ad->¬ (k<=D ad.block/\D ad.block<k+8)):=hA
 have HT2:Hid (∀ m,Touch (· = n) w ((w.drewN m).setCell ⟨n,20,none⟩ (.bool now))):=fun m=>((Touch.refl (· = n) w).drewN m).st rfl
 have HQ:Hid (∀ m,EndIn k D ((w.drewN m).setCell ⟨n,20,none⟩ (.bool now)) n cn pc un sp rp A ca B cb { x with lacks:=now }):=fun m =>
  have h0:=h.old ((Touch.refl _ w).drewN m) (fun _ _=>rfl)
  h0.put 20 (.bool now) rfl rfl ⟨rfl,rfl⟩ rfl h0.l h0.f h0.e
 have HSQ:Hid (∀ m,Sl sigE ((w.drewN m).setCell ⟨n,20,none⟩ (.bool now)) Al cl l):=fun m=>hs.touch (HT2.out m) (fun ad e=>HNA.out ad e)
 have HCR:Hid (∀ rd L,x.ep.isSome=rd->(if now && !was then l++[En.rep 87 0] else if (was && !now) && rd then l++[En.rep 88 0] else l)=L->En.credit x l=({ x with lacks:=now },L)):=fun rd L hr hL=>by unfold En.credit En.ready;rw [hnow,hwas,hr,hL]
 have HEND:Hid (∀ (w2 w3:World) (A3:Option Addr) (c3:Nat) (L:List Cn.Sig),Touch (· = n) w w2->w2.heap.size=w.heap.size->EndIn k D w2 n cn pc un sp rp A ca B cb { x with lacks:=now }->SigsTo w w3 Al A3 c3 L->Touch (fun b=>Al.map Addr.block=some b) w2 w3->En.credit x l=({ x with lacks:=now },L)->CreditPost k D w n cn pc un sp rp A ca B cb Al (En.credit x l) (.returned (.slice A3 L.length c3)) w3):=fun w2 w3 A3 c3 L t2 hz hq h1 h2 h3=>by
  rw [h3]
  refine ⟨A3,c3,rfl,h1,(hq.old (Touch.refl _ _) (fun _ _=>rfl)).keep h2 (fun b hb e=>?_) (fun b hb=>?_),(t2.mono (fun _ _ e=>.inl e)).trans h2 (fun _ _ e=>.inr e)⟩
  ·cases hAl:Al with
   |none=>rw [hAl] at hb;cases hb
   |some ad=>rw [hAl] at hb;injection hb with hb;exact HLA.out ad hAl (by rw [hb];exact e)
  ·exact lab_old (by omega)
 have HSZ:Hid (∀ m,((w.drewN m).setCell ⟨n,20,none⟩ (.bool now)).heap.size=w.heap.size):=fun m=>by show _=_;simp
 have CALLS:Hid (∀ (m:Nat) (v:Bool),x.ep.isSome=v->∀ w2,w2=(w.drewN m).setCell ⟨n,20,none⟩ (.bool now)->Touch (· = n) w w2/\w2.heap.size=w.heap.size/\EndIn k D w2 n cn pc un sp rp A ca B cb { x with lacks:=now }/\Sl sigE w2 Al cl l/\w2.cell? ⟨n,20,none⟩=some (.bool now)):=fun m v _ w2 e=>by
  subst e
  exact ⟨HT2.out m,HSZ.out m,HQ.out m,HSQ.out m,(HQ.out m).b.1.cell 20⟩
 cases he:x.ep with
 |none =>
  have hn:now=false:=by rw [<- hnow];unfold En.lack;rw [he]
  subst hn
  rw [he] at HRD
  have HC3:Hid (En.credit x l=({ x with lacks:=false },l)):=HCR.out false l (by rw [he];rfl) (by cases was <;> rfl)
  have a20:w.cell? ⟨n,20,none⟩=some (.bool was):=c20 0
  have b20:w.frozen? ⟨n,20,none⟩=false:=f20 0
  obtain ⟨w2,hw2⟩:=xq (w.setCell ⟨n,20,none⟩ (.bool false))
  obtain ⟨t2,z2,q2,s2,e20⟩:=CALLS.out 0 false (by rw [he];rfl) w2 hw2
  have R2:=HR2.out w2 q2
  rw [he] at R2
  have R2:=lh R2
  have T2:=lh t2
  have Z2:=lh z2
  have Q2:=lh q2
  have S2:=lh s2
  clear HCR he hnow hso c20 f20 h hs hwas hA CALLS HT2 HQ HSQ HSZ HR2 t2 z2 q2 s2
  cases was
  all_goals
   go_enter Tryz.func37,Tryz.ntmps37
   go_upto_block 0 with (go_at_call 22;(with_reducible refine HRD.out.mono ?_);rintro e w1 ⟨rfl,rfl⟩)
   rw [<- hw2]
   clear hw2 a20 b20
   go_wp2_with (go_at_call 22;(with_reducible refine R2.out.mono ?_);rintro e w1 ⟨rfl,rfl⟩)
   go_ret
   exact HEND.out w2 w2 _ _ l T2.out Z2.out Q2.out ⟨S2.out,.inl rfl⟩ (Touch.refl _ _) HC3.out
 |some e =>
  obtain ⟨lo,hi,hso⟩:=hso e he
  obtain ⟨p,q,rfl,rfl,⟨F,hF,-⟩,-⟩:=h.ep_some he
  have HLK:=lh (slacks_any p F _ w hF)
  rw [prog_lack hso,show (Sf.prog e.1).q=e.1.wait from rfl,show (decide (0<e.1.wait.length) && (e.1.s==e.1.ms))=now by rw [<- hnow];unfold En.lack;rw [he]] at HLK
  have c13:w.cell? ⟨n,13,none⟩=some (.pointer (some ⟨p,0,none⟩)):=h.b.1.cell 13
  have a20:w.cell? ⟨n,20,none⟩=some (.bool was):=c20 0
  have HA20:=lh c20
  have HF20:=lh f20
  rw [he] at HRD
  have HCT:Hid (∀ L,(if now && !was then l++[En.rep 87 0] else if (was && !now) && true then l++[En.rep 88 0] else l)=L->En.credit x l=({ x with lacks:=now },L)):=fun L hL=>HCR.out true L (by rw [he];rfl) hL
  clear HCR
  have HR3:Hid (∀ w2,EndIn k D w2 n cn pc un (some p) (some q) A ca B cb { x with lacks:=now }->Calls Tryz.prog 22 #[.pointer (some ⟨n,0,none⟩)] w2 fun e w'=>e=.returned (.bool true)/\w2=w'):=fun w2 h=>by
   have r:=HR2.out w2 h
   rw [he] at r
   exact r
  clear he hnow hso hF c20 f20 h hs hwas hA HT2 HQ HSQ HSZ HR2
  go_enter Tryz.func37,Tryz.ntmps37
  go_upto_block 0 with (first
   |(go_at_call 22;(with_reducible refine HRD.out.mono ?_);rintro e w1 ⟨rfl,rfl⟩)
   |(go_at_call 75;(with_reducible refine HLK.out.mono ?_);rintro e w1 ⟨rfl,m,rfl⟩;have m20:=HA20.out m;have g20:=HF20.out m))
  obtain ⟨w2,hw2⟩:=xq ((w.drewN m).setCell ⟨n,20,none⟩ (.bool now))
  obtain ⟨t2,z2,q2,s2,e20⟩:=CALLS.out m _ rfl w2 hw2
  have R2:=lh (HR3.out w2 q2)
  have T2:=lh t2
  have Z2:=lh z2
  have Q2:=lh q2
  have S2:=lh s2
  rw [<- hw2]
  clear hw2 m20 g20 HA20 HF20 a20 c13 HLK CALLS HR3 HRD t2 z2 q2 s2
  cases hb1:now <;> cases hb2:was <;> subst hb1 hb2
  ·as_aux_lemma =>
   have HC3:Hid (En.credit x l=({ x with lacks:=false },l)):=HCT.out _ rfl
   clear HCT
   go_wp2_with (go_at_call 22;(with_reducible refine R2.out.mono ?_);rintro e w1 ⟨rfl,rfl⟩)
   go_ret
   exact HEND.out w2 w2 _ _ l T2.out Z2.out Q2.out ⟨S2.out,.inl rfl⟩ (Touch.refl _ _) HC3.out
  ·as_aux_lemma =>
   have HC3:Hid (En.credit x l=({ x with lacks:=false },l++[En.rep 88 0])):=HCT.out _ rfl
   clear HCT
   go_wp2_with (first
    |(go_at_call 22;(with_reducible refine R2.out.mono ?_);rintro e w1 ⟨rfl,rfl⟩)
    |(go_at_call 76;(with_reducible refine (nrep_any 88 0 _).mono ?_);rintro e w3 ⟨A3,rfl,h3⟩)
    |(at_builtin
      refine app_sig rfl rfl (l:=l) (l2:=[En.rep 88 0]) rfl rfl (S2.out.touch h3.fresh (fun _ _ e=>e)) h3.sl.rd (by simp;omega) ?_
      intro A4 c4 L4 w4 hL4 s4 t4 a4))
   go_ret
   rw [hL4.out] at s4 ⊢
   refine HEND.out w2 w4 A4 c4 _ T2.out Z2.out Q2.out ⟨s4,a4.imp id (fun e ad e2=>?_)⟩ ((h3.fresh.mono (fun _ _ e=>e.elim)).trans t4 (fun _ _ e=>e)) HC3.out
   rw [e2] at e
   injection e with e
   have:=h3.fresh.size
   have:=Z2.out
   omega
  ·as_aux_lemma =>
   have HC3:Hid (En.credit x l=({ x with lacks:=true },l++[En.rep 87 0])):=HCT.out _ rfl
   clear HCT
   go_wp2_with (first
    |(go_at_call 22;(with_reducible refine R2.out.mono ?_);rintro e w1 ⟨rfl,rfl⟩)
    |(go_at_call 76;(with_reducible refine (nrep_any 87 0 _).mono ?_);rintro e w3 ⟨A3,rfl,h3⟩)
    |(at_builtin
      refine app_sig rfl rfl (l:=l) (l2:=[En.rep 87 0]) rfl rfl (S2.out.touch h3.fresh (fun _ _ e=>e)) h3.sl.rd (by simp;omega) ?_
      intro A4 c4 L4 w4 hL4 s4 t4 a4))
   go_ret
   rw [hL4.out] at s4 ⊢
   refine HEND.out w2 w4 A4 c4 _ T2.out Z2.out Q2.out ⟨s4,a4.imp id (fun e ad e2=>?_)⟩ ((h3.fresh.mono (fun _ _ e=>e.elim)).trans t4 (fun _ _ e=>e)) HC3.out
   rw [e2] at e
   injection e with e
   have:=h3.fresh.size
   have:=Z2.out
   omega
  ·as_aux_lemma =>
   have HC3:Hid (En.credit x l=({ x with lacks:=true },l)):=HCT.out _ rfl
   clear HCT
   go_wp2_with (go_at_call 22;(with_reducible refine R2.out.mono ?_);rintro e w1 ⟨rfl,rfl⟩)
   go_ret
   exact HEND.out w2 w2 _ _ l T2.out Z2.out Q2.out ⟨S2.out,.inl rfl⟩ (Touch.refl _ _) HC3.out
end
set_option maxRecDepth 20000
theorem timed_keeps (x:En.X) (t:Int):(En.timed x t).c=x.c/\(En.timed x t).ep=x.ep:=by
 unfold En.timed
 split
 ·exact ⟨rfl,rfl⟩
 ·split <;> exact ⟨rfl,rfl⟩
theorem ctls_snoc (l us:List Cn.Pd) (j:Nat) (hj:j<us.length):En.ctls l (us.take (j+1))=En.ctl1 (En.ctls l (us.take j)) us[j]:=by
 unfold En.ctls
 rw [List.take_succ_eq_append_getElem hj,List.foldl_append]
 rfl
theorem ctls_len (l us:List Cn.Pd) (j:Nat):(En.ctls l (us.take j)).length<=l.length+j:=by
 induction j with
 |zero=>simp [En.ctls]
 |succ j ih =>
  by_cases hj:j<us.length
  ·rw [ctls_snoc l us j hj]
   unfold En.ctl1
   have:=List.length_filter_le (fun x:Cn.Pd=>!(x.kind==us[j].kind)) (En.ctls l (us.take j))
   simp only [List.length_append,List.length_singleton]
   omega
  ·rw [List.take_of_length_le (by omega)] at ih ⊢
   omega
section
variable {k:Nat} {D D':Nat->Nat} {w w':World} {n cn pc un:Nat} {sp rp:Option Nat} {A B:Option Addr} {ca cb:Nat} {x:En.X}
theorem EndIn.place {sp' rp':Option Nat} {e:Option (Sf.S × Rf.S)} (h:EndIn k D w n cn pc un sp rp A ca B cb x) (he:PE k D w sp' rp' e):EndIn k D ((w.setCell ⟨n,13,none⟩ (En.ptr sp')).setCell ⟨n,14,none⟩ (En.ptr rp')) n cn pc un sp' rp' A ca B cb { x with ep:=e }/\Touch (· = n) w ((w.setCell ⟨n,13,none⟩ (En.ptr sp')).setCell ⟨n,14,none⟩ (En.ptr rp')):=by
 have hb:=(h.b.1.set 13 (En.ptr sp')).set 14 (En.ptr rp')
 have ht:Touch (· = n) w ((w.setCell ⟨n,13,none⟩ (En.ptr sp')).setCell ⟨n,14,none⟩ (En.ptr rp')):=((Touch.refl (· = n) w).st rfl).st rfl
 have hN:∀ j,j ≠ 0->∀ b,b=n->D b ≠ k+j:=fun j hj b hb e=>by subst hb;have:=h.b.2;omega
 exact ⟨⟨⟨hb,h.b.2⟩,h.c.keep ht (hN 1 (by omega)) (fun _ _=>rfl),h.p.keep ht (hN 2 (by omega)) (fun _ _=>rfl),h.u.keep ht (hN 3 (by omega)) (fun _ _=>rfl),h.l.keep ht (hN 4 (by omega)) (fun _ _=>rfl),h.f.keep ht (hN 7 (by omega)) (fun _ _=>rfl),he.keep ht (fun b hb=>⟨hN 5 (by omega) b hb,hN 6 (by omega) b hb⟩) (fun _ _=>rfl)⟩,ht⟩
theorem opn_mod (st:Sd.S) (x:Int):Sd.opn st x=Sd.opn st (x%16777216):=by
 unfold Sd.opn
 rw [show (x%16777216-st.a)%16777216=(x-st.a)%16777216 by omega,show x%16777216%16777216=x%16777216 by omega]
theorem new_ok (c:Nd.C):Sf.Ok (Sf.new c.start c.queue c.polls) (c.start%16777216) (c.start%16777216):=Sf.Ok.new _ _ _ _ (by omega) (by omega)
theorem made1 {ws wr:World} {p q:Nat} {Fr:Nat->Prop} {s:Sf.S} {r:Rf.S} (k:Nat) (D:Nat->Nat) (f1:Fresh w ws) (hs:SendAt ws p (fun x=>w.heap.size<=x) (Sf.prog s)) (f2:Fresh ws wr) (hr:RecvAt wr q Fr (Rf.prog r)) (lr:∀ x,Fr x->ws.heap.size<=x) :
  ∃ D2,Lab k D D2 w.heap.size/\PE k D2 wr (some p) (some q) (some (s,r)):=by
 refine ⟨lab (lab D w.heap.size (k+5)) ws.heap.size (k+6),(lab_lab k D _ 5 (by omega)).trans (lab_lab k _ _ 6 (by omega)) f1.size,p,q,rfl,rfl,⟨_,hs.cutE.old f2,fun b hb=>⟨?_,Nat.lt_of_lt_of_le hb.2 f2.size⟩⟩,⟨Fr,hr,fun b hb=>⟨lab_new (lr b hb),hr.lim b hb⟩⟩⟩
 rw [lab_old hb.2]
 exact lab_new hb.1
theorem made2 {ws wr:World} {p q:Nat} {Fr:Nat->Prop} {s:Sf.S} {r:Rf.S} (k:Nat) (D:Nat->Nat) (f1:Fresh w wr) (hr:RecvAt wr q Fr (Rf.prog r)) (lr:∀ x,Fr x->w.heap.size<=x) (f2:Fresh wr ws) (hs:SendAt ws p (fun x=>wr.heap.size<=x) (Sf.prog s)) :
  ∃ D2,Lab k D D2 w.heap.size/\PE k D2 ws (some p) (some q) (some (s,r)):=by
 refine ⟨lab (lab D w.heap.size (k+6)) wr.heap.size (k+5),(lab_lab k D _ 6 (by omega)).trans (lab_lab k _ _ 5 (by omega)) f1.size,p,q,rfl,rfl,⟨_,hs.cutE,fun b hb=>⟨lab_new hb.1,hb.2⟩⟩,⟨Fr,hr.old f2,fun b hb=>⟨?_,Nat.lt_of_lt_of_le (hr.lim b hb) f2.size⟩⟩⟩
 rw [lab_old (hr.lim b hb)]
 exact lab_new (lr b hb)
theorem PE.snd {k:Nat} {D:Nat->Nat} {w:World} {p q:Nat} {e:Sf.S × Rf.S} (h:PE k D w (some p) (some q) (some e)):PS k D w p e.1/\PR k D w q e.2:=by
 obtain ⟨p',q',e1,e2,h1,h2⟩:=h
 injection e1 with e1
 injection e2 with e2
 subst e1 e2
 exact ⟨h1,h2⟩
theorem new_opn (c:Nd.C) (ms:Int):Sd.opn (Sf.prog (Sf.new c.start c.queue c.polls)) ms=Sf.prog (En.epoch c ms).1:=by
 rw [opn_mod,(new_ok c).prog_opn]
 rfl
theorem nbring_any (h:EndIn k D w n cn pc un sp rp A ca B cb x) (r:Cn.R) (A1:Option Addr) (nl c1:Nat) (A2:Option Addr) (c2:Nat) (hs:Rd pduE w A2 c2 r.units) (hA2:∀ ad,A2=some ad->¬ (k<=D ad.block/\D ad.block<k+8)) (hu:r.units.length<=1000) (hc:x.ctl.length<=1000)
  (he:r.ends=true->∃ e lo hi,x.ep=some e/\Sf.Ok e.1 lo hi) :
  Calls Tryz.prog 51 #[.pointer (some ⟨n,0,none⟩),.agg #[.slice A1 nl c1,.slice A2 r.units.length c2,.bool r.begins,.bool r.ends,.int .u32 r.ms,.int .i64 r.timer]] w fun e w'=>∃ D',e=.returned (.slice A1 nl c1)/\EndTo k D D' w w' n (En.bring x r):=by
 obtain ⟨us,bg,en,ms,tm,hus,hbg,hen,hms,htm⟩:∃ us bg en ms tm,us=r.units/\bg=r.begins/\en=r.ends/\ms=r.ms/\tm=r.timer:=⟨_,_,_,_,_,rfl,rfl,rfl,rfl,rfl⟩
 have HBR:Hid (∀ x1 x2,x1=En.timed { x with ctl:=En.ctls x.ctl us } tm->x2=(if en then En.ended x1 else x1)->En.bring x r=if bg then En.begun x2 ms else x2):=fun x1 x2 h1 h2=>by
  unfold En.bring En.bring2 En.bring1
  rw [<- hus,<- hbg,<- hen,<- hms,<- htm,<- h1,<- h2]
 rw [<- hus] at hs hu ⊢
 rw [<- hen] at he
 rw [<- hbg,<- hen,<- hms,<- htm]
 generalize En.bring x r=Z at *
 clear hus hbg hen hms htm
 have HE:=lh he
 obtain ⟨w0,hw0⟩:=xq (w.alloc (.cells #[.slice A1 nl c1,.slice A2 us.length c2,.bool bg,.bool en,.int .u32 ms,.int .i64 tm] 170))
 have HF0:Hid (Fresh w w0):=by rw [hw0];exact (Touch.refl _ _).alloc _
 obtain ⟨b,hb⟩:=xq w.heap.size
 obtain ⟨D0,hD0⟩:=xq (lab D w.heap.size (k+8))
 have HLAB:Hid (Lab k D D0 w.heap.size):=by rw [hD0];exact lab_lab k D _ 8 (by omega)
 have hDb:D0 b=k+8:=by rw [hD0,hb];exact lab_new (Nat.le_refl _)
 have HBX:Hid (∀ W,Touch (All D0 k) w0 W->Blk W b 170 [.slice A1 nl c1,.slice A2 us.length c2,.bool bg,.bool en,.int .u32 ms,.int .i64 tm]):=fun W hW=>hW.blk (by rw [hw0,hb];exact Blk.new w _ _) (by unfold All;omega)
 have HS:Hid (∀ W,Touch (All D0 k) w0 W->Rd pduE W A2 c2 us):=fun W hW=>by
  refine Rd.touch (hs.touch HF0.out (fun _ _ _ e=>e)) hW (fun ad e hl e2=>?_)
  have:=hs.lt hl ad e
  unfold All at e2
  rw [HLAB.out.1 _ this] at e2
  exact hA2 ad e e2
 have HH:Hid (EndIn k D0 w0 n cn pc un sp rp A ca B cb x):=h.old HF0.out (fun b hb=>HLAB.out.1 b hb)
 have HFIN:Hid (∀ W X,EndMid k D0 w0 n cn pc un X W->∃ D',EndTo k D D' w W n X):=fun W X hW=>by
  obtain ⟨D',sp,rp,A,ca,B,cb,h1,h2,h3⟩:=hW
  exact ⟨D',⟨cn,pc,un,sp,rp,A,ca,B,cb,h1⟩,HLAB.out.trans h2 HF0.out.size,(HF0.out.mono (fun _ _ e=>e.elim)).trans h3 (fun b hb e=>by unfold All at *;rw [HLAB.out.1 b hb] at e;exact e)⟩
 have hLB0:Lab k D0 D0 w0.heap.size:=⟨fun _ _=>rfl,fun b hb=>HLAB.out.2 b (Nat.le_trans HF0.out.size hb)⟩
 have HM0:Hid (∀ us',us'=[]->EndMid k D0 w0 n cn pc un { x with ctl:=En.ctls x.ctl us' } w0):=fun us' e=>by subst e;exact ⟨D0,sp,rp,A,ca,B,cb,HH.out,hLB0,Touch.refl _ _⟩
 have HEP:Hid (∀ W X,EndMid k D0 w0 n cn pc un X W->∃ cn',X.ctl.length=X.ctl.length/\cn'=cn):=fun W X _=>⟨cn,rfl,rfl⟩
 have x1:w0.cell? ⟨b,1,none⟩=some (.slice A2 us.length c2):=(HBX.out w0 (Touch.refl _ _)).cell 1
 have HN0:Hid (All D0 k n):=HH.out.own
 clear h hs hA2 he HLAB hLB0 HF0 HEP hD0
 go_enter Tryz.func51,Tryz.ntmps51
 go_upto_region 1 with (fail)
 rw [<- hw0,<- hb]
 clear hw0 hb HH
 go_wp2_with fail
 go_loopw [10] (fun i wr=>∃ j:Nat,j<=us.length/\i=.int .i64 j/\Hid (∀ us',us'=us.take j->EndMid k D0 w0 n cn pc un { x with ctl:=En.ctls x.ctl us' } wr)) (fun i _=>us.length-(intOf i).toNat)
 case atStart=>exact ⟨0,Nat.zero_le _,rfl,fun us' e=>HM0.out us' (by rw [e];rfl)⟩
 case round =>
  obtain ⟨j,hj,rfl,HM⟩:=hrel
  clear HM0
  obtain ⟨C,hC⟩:=xq (En.ctls x.ctl (us.take j))
  have HCL:Hid (C.length<=2000):=by
   rw [hC]
   have:=ctls_len x.ctl us j
   show _<=_
   omega
  have hm:=HM.out _ rfl
  rw [<- hC] at hm
  obtain ⟨D1,sp,rp,A,ca,B,cb,h1,l1,t1⟩:=hm
  have H1:=lh h1
  have L1:=lh l1
  have T1:=lh t1
  by_cases hlt:j<us.length
  ·have hk1:(j:Int)<(us.length:Int):=by omega
   have hk0:(0:Int)<=(j:Int):=by omega
   have hdk:decide ((j:Int)<(us.length:Int))=true:=decide_eq_true hk1
   have HCS:=lh (ctls_snoc x.ctl us j hlt)
   rw [<- hC] at HCS
   obtain ⟨u,hu0⟩:=xq (us[j])
   obtain ⟨g,o,rfl,d0,d1,d2,d3,d4,d5,d6,d7⟩:=(HS.out wr t1).pdu8 j hlt
   rw [<- hu0] at d0 d1 d2 d3 d4 d5 d6 d7 HCS
   clear hu0 h1 l1 t1 hC HM HE HBR HFIN
   go_upto_region 4 with (fail)
   obtain ⟨w1,hw1⟩:=xq (wr.alloc (.cells #[.int .i64 u.kind,.int .i64 u.sq,.int .u32 u.n,.int .u32 u.ps,.int .u32 u.mr,.slice u.lA u.ln u.lc,.bool u.self,.string u.data] 49))
   obtain ⟨b2,hb2⟩:=xq wr.heap.size
   obtain ⟨D2,hD2⟩:=xq (lab D1 wr.heap.size (k+8))
   have L2:Hid (Lab k D1 D2 wr.heap.size):=by rw [hD2];exact lab_lab k D1 _ 8 (by omega)
   have hd2:D2 b2=k+8:=by rw [hD2,hb2];exact lab_new (Nat.le_refl _)
   have HU1:Hid (Blk w1 b2 49 [.int .i64 u.kind,.int .i64 u.sq,.int .u32 u.n,.int .u32 u.ps,.int .u32 u.mr,.slice u.lA u.ln u.lc,.bool u.self,.string u.data]):=by rw [hw1,hb2];exact Blk.new wr _ _
   have F1:Hid (Fresh wr w1):=by rw [hw1];exact (Touch.refl _ _).alloc _
   have I1:Hid (EndIn k D2 w1 n cn pc un sp rp A ca B cb { x with ctl:=C }):=H1.out.old F1.out (fun b hb=>L2.out.1 b hb)
   have hAb:∀ y,A.map Addr.block=some y->D2 y=k+4:=fun y e=>by
    cases hA:A with
    |none=>rw [hA] at e;cases e
    |some ad=>rw [hA] at e;injection e with e;rw [<- e];exact I1.out.l.2 ad hA
   have HAB:=lh hAb
   have c15:w1.cell? ⟨n,15,none⟩=some (.slice A C.length ca):=I1.out.b.1.cell 15
   have HDEL:=lh (pdel_any b2 u.kind A ca C w1 I1.out.l.1 (by have:=HCL.out;omega) (fun W hW=>(hW.blk HU1.out (fun e=>by have:=hAb _ e;omega)).cell 0))
   have hnb:n ≠ b2:=fun e=>by have:=I1.out.b.2;rw [e] at this;omega
   have HNB:=lh hnb
   rw [<- hw1,<- hb2]
   clear hw1 hb2 hD2 d0 d1 d2 d3 d4 d5 d6 d7 hAb hnb H1
   obtain ⟨F,hF⟩:=xq (C.filter fun x=>!(x.kind==u.kind))
   rw [<- hF] at HDEL
   have HFL:Hid (F.length<=2000):=by rw [hF];exact Nat.le_trans (List.length_filter_le _ _) HCL.out
   have HC1:Hid (En.ctl1 C u=F++[u]):=by rw [hF];rfl
   clear hF
   go_wp2_with fail
   refine HDEL.out.mono ?_
   rintro e w2 ⟨rfl,s2,t2⟩
   obtain ⟨q15,p15,i3⟩:=I1.out.ctlp (D':=D2) ⟨s2,fun ad e=>I1.out.l.2 ad e⟩ t2 (fun b e=>HAB.out b e) (fun _ _=>rfl)
   have I3:=lh i3
   have HU3:=lh ((t2.blk HU1.out (fun e=>by have:=HAB.out _ e;omega)).far (p:=⟨n,15,none⟩) (fun e=>HNB.out e.symm) (.slice A F.length ca))
   have T3:Hid (Touch (All D2 k) w1 (w2.setCell ⟨n,15,none⟩ (.slice A F.length ca))):=(t2.mono (fun b _ e=>by have:=HAB.out b e;unfold All;omega)).st (by unfold All;have:=I1.out.b.2;omega)
   clear s2 t2 HDEL i3 c15 I1 HU1
   simp only
   go_upto_region 5 with (fail)
   clear q15 p15
   generalize w2.setCell ⟨n,15,none⟩ (.slice A F.length ca)=w3 at *
   have e15:w3.cell? ⟨n,15,none⟩=some (.slice A F.length ca):=I3.out.b.1.cell 15
   have e15a:∀ o,(w3.alloc o).cell? ⟨n,15,none⟩=some (.slice A F.length ca):=fun o=>(I3.out.b.1.alloc o).cell 15
   have k0:w3.cell? ⟨b2,0,none⟩=some (.int .i64 u.kind):=HU3.out.cell 0
   have k1:w3.cell? ⟨b2,1,none⟩=some (.int .i64 u.sq):=HU3.out.cell 1
   have k2:w3.cell? ⟨b2,2,none⟩=some (.int .u32 u.n):=HU3.out.cell 2
   have k3:w3.cell? ⟨b2,3,none⟩=some (.int .u32 u.ps):=HU3.out.cell 3
   have k4:w3.cell? ⟨b2,4,none⟩=some (.int .u32 u.mr):=HU3.out.cell 4
   have k5:w3.cell? ⟨b2,5,none⟩=some (.slice u.lA u.ln u.lc):=HU3.out.cell 5
   have k6:w3.cell? ⟨b2,6,none⟩=some (.bool u.self):=HU3.out.cell 6
   have k7:w3.cell? ⟨b2,7,none⟩=some (.string u.data):=HU3.out.cell 7
   have S3:Hid (Sl pduE w3 A ca F):=I3.out.l.1
   have L4:Hid (Lab k D2 (lab D2 w3.heap.size (k+4)) w3.heap.size):=lab_lab k D2 _ 4 (by omega)
   have e15b:∀ o,(w3.drew.alloc o).cell? ⟨n,15,none⟩=some (.slice A F.length ca):=fun o=>(I3.out.b.1.alloc o).cell 15
   have HU0:=lh hu
   clear HBX HS x1 hc hu HCL hDb hk1 hk0 hdk
   go_region_law (first
    |(refine stp_pdu rfl rfl (l:=F) (l2:=[u]) rfl rfl (Sl.heap (S3.out.alloc (.cells #[.int .i64 u.kind,.int .i64 u.sq,.int .u32 u.n,.int .u32 u.ps,.int .u32 u.mr,.slice u.lA u.ln u.lc,.bool u.self,.string u.data] 49)) rfl) (Sl.rd (Sl.heap (Sl.lit pduE w3 _ rfl #[.int .i64 u.kind,.int .i64 u.sq,.int .u32 u.n,.int .u32 u.ps,.int .u32 u.mr,.slice u.lA u.ln u.lc,.bool u.self,.string u.data] [u] rfl 1 rfl (by decide)) rfl)) (by have:=HFL.out;simp;omega) ?_;intro A3 c3 L3 w4 hL3 hs3 ht3 hA3
      have hf3:Touch (fun k=>A.map Addr.block=some k) w3 w4:=by
       refine Touch.trans ?_ ht3 (fun k _ e=>e)
       exact touch_of_heap (.cells #[.int .i64 u.kind,.int .i64 u.sq,.int .u32 u.n,.int .u32 u.ps,.int .u32 u.mr,.slice u.lA u.ln u.lc,.bool u.self,.string u.data] 49) rfl rfl rfl rfl
      have ha3:∀ ad,A3=some ad->lab D2 w3.heap.size (k+4) ad.block=k+4:=fun ad e=>by
       rcases hA3 with e2 | e2
       ·rw [e] at e2
        have:=HAB.out _ e2.symm
        unfold lab
        split <;> omega
       ·rw [e] at e2
        injection e2 with e2
        refine lab_new ?_
        simp at e2
        omega
      obtain ⟨k15,q15,i4⟩:=I3.out.ctlp (D':=lab D2 w3.heap.size (k+4)) ⟨hs3,ha3⟩ hf3 (fun b e=>HAB.out b e) (fun b hb=>L4.out.1 b hb)
      have I4:=lh i4
      have T4:=lh hf3
      have HL3:=hL3
      clear hf3 hs3 ht3 hA3 hL3 ha3 i4))
   all_goals
    have HM4:Hid (∀ us',us'=us.take (j+1)->EndMid k D0 w0 n cn pc un { x with ctl:=En.ctls x.ctl us' } (w4.setCell ⟨n,15,none⟩ (.slice A3 L3.length c3))):=fun us' e=>by
     subst e
     rw [HCS.out,HC1.out,<- HL3.out]
     have z1:=T1.out.size
     have z2:=F1.out.size
     have z3:=T3.out.size
     have l2:=(L1.out.trans L2.out z1)
     have l3:Lab k D0 (lab D2 w3.heap.size (k+4)) w0.heap.size:=l2.trans L4.out (by omega)
     refine ⟨_,sp,rp,A3,c3,B,cb,I4.out,l3,?_⟩
     have t1:Touch (All D0 k) w0 w1:=T1.out.trans F1.out (fun _ _ e=>e.elim)
     have t3:Touch (All D0 k) w0 w3:=t1.then l2 T3.out
     exact (t3.then l2 (T4.out.mono (fun b _ e=>by have:=HAB.out b e;unfold All;omega))).trans (Touch.set1 w4 n 15 _) (fun b hb e=>by
      have e:b=n:=e
      subst e
      have:=I3.out.b.2
      rw [l2.1 _ hb] at this
      unfold All
      omega)
    clear I3 HU3 T3 S3 L4 I4 T4 k15 q15 k0 k1 k2 k3 k4 k5 k6 k7 e15 e15a e15b HCS HC1 L1 T1 F1 L2 HAB
    have hu:=HU0.out
    go_wp2
    go_roundw
    case rel=>exact ⟨j+1,by omega,by go_num,HM4⟩
    case measure=>simp [intOf];omega
  ·have hju:j=us.length:=by omega
   have hC2:C=En.ctls x.ctl us:=by rw [hC,hju,List.take_length]
   have HM1:Hid (EndMid k D0 w0 n cn pc un { x with ctl:=C } wr):=⟨D1,sp,rp,A,ca,B,cb,h1,l1,t1⟩
   obtain ⟨X0,hX0⟩:∃ X0:En.X,X0={ x with ctl:=C }:=⟨_,rfl⟩
   have HX0:Hid (En.timed { x with ctl:=En.ctls x.ctl us } tm=En.timed X0 tm/\X0.c=x.c/\X0.ep=x.ep):=⟨by rw [hX0,hC2],by rw [hX0],by rw [hX0]⟩
   rw [<- hX0] at HM1
   clear hX0 hC2 hC HM HCL H1 L1 T1 h1 l1 t1 hju HS
   have hd1:decide ((j:Int)<(us.length:Int))=false:=decide_eq_false (by omega)
   have hx:=HBX.out wr (by obtain ⟨_,_,_,_,_,_,_,_,_,t⟩:=HM1.out;exact t)
   have x5:wr.cell? ⟨b,5,none⟩=some (.int .i64 tm):=hx.cell 5
   clear hx
   go_upto_block 2 with (fail)
   go_cut [] from 36 (fun wx=>Hid (EndMid k D0 w0 n cn pc un (En.timed X0 tm) wx))
   case first =>
    obtain ⟨D1,sp,rp,A,ca,B,cb,h1,l1,t1⟩:=HM1.out
    have c12:wr.cell? ⟨n,12,none⟩=some (.pointer (some ⟨pc,0,none⟩)):=h1.b.1.cell 12
    have HP:=lh h1.p.1
    have HH1:=lh h1
    have L1:=lh l1
    have T1:=lh t1
    have hpk:∀ tm' w2,Pk w2 pc tm' X0.c.cc X0.c.poll X0.c.keep X0.c.silent X0.c.idle->Touch (· = pc) wr w2->EndMid k D0 w0 n cn pc un { X0 with tm:=tm' } w2:=fun tm' w2 hp ht=>by
     refine ⟨lab D1 wr.heap.size (k+2),sp,rp,A,ca,B,cb,HH1.out.paced hp ht (fun b hb=>by subst hb;exact HH1.out.p.2) (fun b hb=>lab_old hb),L1.out.trans (lab_lab k D1 _ 2 (by omega)) T1.out.size,T1.out.then L1.out (ht.mono fun b _ hb=>by subst hb;have:=HH1.out.p.2;unfold All;omega)⟩
    have HPK:=lh hpk
    clear h1 l1 t1 hpk HFIN HBR
    by_cases h1:tm=1
    ·have HT:Hid (En.timed X0 tm={ X0 with tm:=Tm.start X0.tm 0 X0.c.cc }):=by unfold En.timed;rw [if_pos h1];rfl
     subst h1
     go_wp2_with (go_at_call 97;(with_reducible refine (pagain_any _ _ _ _ _ _ _ _ HP.out).mono ?_);rintro e w2 ⟨rfl,p2,t2⟩)
     go_meet
     case rel=>unfold Hid;rw [HT.out];exact HPK.out _ _ p2 t2
    ·have n1:(tm==1)=false:=by simpa using h1
     by_cases h2:tm=2
     ·have HT:Hid (En.timed X0 tm={ X0 with tm:=Tm.stop X0.tm 0 }):=by unfold En.timed;rw [if_neg h1,if_pos h2];rfl
      subst h2
      clear h1 n1
      go_wp2_with (go_at_call 98;(with_reducible refine (enough_any _ _ _ _ _ _ _ _ HP.out).mono ?_);rintro e w2 ⟨rfl,p2,t2⟩)
      go_meet
      case rel=>unfold Hid;rw [HT.out];exact HPK.out _ _ p2 t2
     ·have HT:Hid (En.timed X0 tm=X0):=by unfold En.timed;rw [if_neg h1,if_neg h2];rfl
      have n2:(tm==2)=false:=by simpa using h2
      clear h1 h2
      go_wp2
      go_meet
      case rel=>unfold Hid;rw [HT.out];exact HM1.out
   case rest =>
    have HM2:=hcut
    clear hcut HM1 x5
    generalize wc=w5 at *
    obtain ⟨X1,hX1⟩:=xq (En.timed X0 tm)
    rw [<- hX1] at HM2
    have HX1:Hid (En.timed { x with ctl:=En.ctls x.ctl us } tm=X1/\X1.c=x.c/\X1.ep=x.ep):=by
     obtain ⟨e1,e2,e3⟩:=HX0.out
     exact ⟨by rw [hX1,e1],by rw [hX1,(timed_keeps X0 tm).1,e2],by rw [hX1,(timed_keeps X0 tm).2,e3]⟩
    clear hX1 HX0
    have hx:=HBX.out w5 (by obtain ⟨_,_,_,_,_,_,_,_,_,t⟩:=HM2.out;exact t)
    have y3:w5.cell? ⟨b,3,none⟩=some (.bool en):=hx.cell 3
    clear hx
    go_upto_if 51 with (fail)
    go_cut [] from 52 (fun wx=>Hid (EndMid k D0 w0 n cn pc un (if en then En.ended X1 else X1) wx))
    case first =>
     cases en with
     |false =>
      go_wp2
      go_meet
      case rel=>exact HM2
     |true =>
      obtain ⟨D1,sp,rp,A,ca,B,cb,h1,l1,t1⟩:=HM2.out
      obtain ⟨e,lo,hi,he,hok⟩:=HE.out rfl
      have he1:X1.ep=some e:=HX1.out.2.2.trans he
      obtain ⟨p,q,rfl,rfl,hps,-⟩:=h1.ep_some he1
      have c12:w5.cell? ⟨n,12,none⟩=some (.pointer (some ⟨pc,0,none⟩)):=h1.b.1.cell 12
      have HP:=lh h1.p.1
      have HOK:=lh hok
      have HE1:=lh he1
      have H1:=lh h1
      have L1:=lh l1
      have T1:=lh t1
      clear h1 l1 t1 he he1 hok hps HM2 HE y3
      go_wp2_with fail
      refine (pend_any _ _ _ _ _ _ _ _ HP.out).mono ?_
      rintro e2 w6 ⟨rfl,p2,t2⟩
      obtain ⟨X2,hX2⟩:=xq ({ X1 with tm:=Pc.end_ X1.tm })
      have h2:=H1.out.paced (D':=D1) p2 t2 (fun b hb=>by subst hb;exact H1.out.p.2) (fun _ _=>rfl)
      rw [<- hX2] at h2
      have t6:Touch (All D0 k) w0 w6:=T1.out.then L1.out (t2.mono fun b _ hb=>by subst hb;have:=H1.out.p.2;unfold All;omega)
      have l6:Lab k D0 D1 w0.heap.size:=L1.out
      have he2:X2.ep=some e:=by rw [hX2];exact HE1.out
      obtain ⟨p',q',e3,-,⟨F,hF,hFl⟩,-⟩:=h2.ep_some he2
      injection e3 with e3
      subst e3
      have HL:=lh (sleft_any p F e.1 lo hi HOK.out w6 hF)
      have HX2:Hid (En.ended X1=En.over { X2 with left:=En.leftOf X2,ep:=none }/\En.leftOf X2=e.1.kept++e.1.wait):=by
       rw [hX2]
       refine ⟨rfl,?_⟩
       unfold En.leftOf
       simp only [HE1.out]
      have d13:w6.cell? ⟨n,13,none⟩=some (.pointer (some ⟨p,0,none⟩)):=h2.b.1.cell 13
      have H2:=lh h2
      have L6:=lh l6
      have T6:=lh t6
      clear h2 t6 l6 p2 t2 hX2 he2 hF hFl H1 L1 T1 HP c12 HE1
      simp only
      go_wp2_with fail
      refine HL.out.mono ?_
      rintro e2 w7 ⟨B2,cb2,rfl,hm⟩
      obtain ⟨Lf,hLf⟩:=xq (e.1.kept++e.1.wait)
      rw [<- hLf] at hm HX2 ⊢
      have h3:=H2.out.old (D':=lab D1 w6.heap.size (k+7)) hm.fresh (fun b hb=>lab_old hb)
      have l7:Lab k D0 (lab D1 w6.heap.size (k+7)) w0.heap.size:=L6.out.trans (lab_lab k D1 _ 7 (by omega)) T6.out.size
      have t7:Touch (All D0 k) w0 w7:=T6.out.trans hm.fresh (fun _ _ e=>e.elim)
      have h4:=h3.put (x':={ X2 with left:=Lf }) 21 (.slice B2 Lf.length cb2) rfl rfl ⟨rfl,rfl⟩ rfl h3.l ⟨hm.sl,fun ad e=>lab_new (hm.base ad e)⟩ h3.e
      have c21:w7.cell? ⟨n,21,none⟩=some (.slice B X2.left.length cb):=h3.b.1.cell 21
      have f21:=h3.b.1.frozen 21
      have H8:=lh h4
      have T8:Hid (Touch (All D0 k) w0 (w7.setCell ⟨n,21,none⟩ (.slice B2 Lf.length cb2))):=t7.st HN0.out
      have L8:=lh l7
      clear h3 h4 l7 t7 hm hLf HL d13 H2 L6 T6
      simp only
      go_upto_region 15 with (fail)
      clear c21 f21
      generalize w7.setCell ⟨n,21,none⟩ (.slice B2 Lf.length cb2)=w8 at *
      have g13:w8.cell? ⟨n,13,none⟩=some (.pointer (some ⟨p,0,none⟩)):=H8.out.b.1.cell 13
      have g13f:=H8.out.b.1.frozen 13
      have g14:w8.cell? ⟨n,14,none⟩=some (.pointer (some ⟨q,0,none⟩)):=H8.out.b.1.cell 14
      have g14f:=H8.out.b.1.frozen 14
      have H9:Hid (EndIn k (lab D1 w6.heap.size (k+7)) ((w8.setCell ⟨n,13,none⟩ (.pointer none)).setCell ⟨n,14,none⟩ (.pointer none)) n cn pc un none none A ca B2 cb2 { { X2 with left:=Lf } with ep:=none }):=(H8.out.place (sp':=none) (rp':=none) (e:=none) ⟨rfl,rfl⟩).1
      have T9:Hid (Touch (All D0 k) w0 ((w8.setCell ⟨n,13,none⟩ (.pointer none)).setCell ⟨n,14,none⟩ (.pointer none))):=(T8.out.st HN0.out).st HN0.out
      clear H8 T8
      go_upto_region 16 with (fail)
      clear g13 g13f g14 g14f
      generalize (w8.setCell ⟨n,13,none⟩ (.pointer none)).setCell ⟨n,14,none⟩ (.pointer none)=w9 at *
      have HOV:=lh (nover_any H9.out)
      go_wp2_with fail
      refine HOV.out.mono ?_
      rintro e2 w10 ⟨rfl,h10,t10⟩
      have HM3:Hid (EndMid k D0 w0 n cn pc un (En.ended X1) w10):=by
       rw [HX2.out.1,HX2.out.2]
       exact ⟨_,none,none,A,ca,B2,cb2,h10,L8.out,T9.out.trans t10 (fun b hb e=>by have e:b=n:=e;subst e;exact HN0.out)⟩
      clear h10 t10 H9 T9 HOV L8
      simp only
      go_wp2
      go_meet
      case rel=>exact HM3
    case rest =>
     have HM3:=hcut
     clear hcut HM2 y3
     generalize wc=w11 at *
     obtain ⟨X3,hX3⟩:=xq ((if en then En.ended X1 else X1))
     rw [<- hX3] at HM3
     have HZ:Hid (Z=if bg then En.begun X3 ms else X3):=HBR.out X1 X3 HX1.out.1.symm hX3
     clear hX3 HBR HX1 HE
     have hx:=HBX.out w11 (by obtain ⟨_,_,_,_,_,_,_,_,_,t⟩:=HM3.out;exact t)
     have y2:w11.cell? ⟨b,2,none⟩=some (.bool bg):=hx.cell 2
     clear hx
     go_upto_if 74 with (fail)
     go_cut [] from 75 (fun wx=>Hid (EndMid k D0 w0 n cn pc un Z wx))
     case first =>
      cases bg with
      |false =>
       have HZ2:Hid (Z=X3):=HZ.out
       go_wp2
       go_meet
       case rel=>unfold Hid;rw [HZ2.out];exact HM3.out
      |true =>
       have HZ2:Hid (Z=En.begun X3 ms):=HZ.out
       obtain ⟨D1,sp,rp,A,ca,B,cb,h1,l1,t1⟩:=HM3.out
       have H1:=lh h1
       have L1:=lh l1
       have T1:=lh t1
       have FD:Fresh w11 w11.drew:=(Touch.refl _ _).drew
       have KF:Hid (∀ wx,Fresh w11 wx->wx.cell? ⟨n,5,none⟩=some (.int .u32 X3.c.start)/\wx.cell? ⟨n,2,none⟩=some (.int .i64 X3.c.queue)/\wx.cell? ⟨n,4,none⟩=some (.int .i64 X3.c.polls)/\wx.cell? ⟨n,1,none⟩=some (.int .i64 X3.c.window)):=fun wx hW =>
        have hb:=hW.blk h1.b.1 (fun e=>e)
        ⟨hb.cell 5,hb.cell 2,hb.cell 4,hb.cell 1⟩
       have KS1:Hid (∀ wy u,Fresh w11 wy->(fun wx:World=>wx.cell? ⟨n,5,none⟩=some (.int .u32 X3.c.start)/\wx.cell? ⟨n,2,none⟩=some (.int .i64 X3.c.queue)/\wx.cell? ⟨n,4,none⟩=some (.int .i64 X3.c.polls)/\wx.cell? ⟨n,1,none⟩=some (.int .i64 X3.c.window)) (wy.setCell ⟨n,13,none⟩ u)):=fun wy u hW =>
        have hb:=(hW.blk h1.b.1 (fun e=>e)).set 13 u
        ⟨hb.cell 5,hb.cell 2,hb.cell 4,hb.cell 1⟩
       have KS2:Hid (∀ wy u v,Fresh w11 wy->(fun wx:World=>wx.cell? ⟨n,5,none⟩=some (.int .u32 X3.c.start)/\wx.cell? ⟨n,2,none⟩=some (.int .i64 X3.c.queue)/\wx.cell? ⟨n,4,none⟩=some (.int .i64 X3.c.polls)/\wx.cell? ⟨n,1,none⟩=some (.int .i64 X3.c.window)) ((wy.setCell ⟨n,13,none⟩ u).setCell ⟨n,14,none⟩ v)):=fun wy u v hW =>
        have hb:=((hW.blk h1.b.1 (fun e=>e)).set 13 u).set 14 v
        ⟨hb.cell 5,hb.cell 2,hb.cell 4,hb.cell 1⟩
       obtain ⟨a5,a2,a4,a1⟩:=KF.out w11 (Touch.refl _ _)
       clear h1 l1 t1 HM3 y2 HFIN
       go_wp2_with fail
       go_region_held3 (fun wx=>wx.cell? ⟨n,5,none⟩=some (.int .u32 X3.c.start)/\wx.cell? ⟨n,2,none⟩=some (.int .i64 X3.c.queue)/\wx.cell? ⟨n,4,none⟩=some (.int .i64 X3.c.polls)/\wx.cell? ⟨n,1,none⟩=some (.int .i64 X3.c.window))
        ((first
         |with_reducible refine KS2.out _ _ _ ?_
         |with_reducible refine KS1.out _ _ ?_
         |with_reducible refine KF.out _ ?_) <;> first | with_reducible assumption | with_reducible exact Touch.refl _ _)
        (first
      |(go_simp;go_at_call 102;(refine (snew_any _ _ _ _).mono ?_);rintro e ws ⟨ps,rfl,hs,fws,ls⟩
        have FS:Fresh w11 ws:=by first | exact FR.trans fws (fun _ _ e=>e) | exact FD.trans fws (fun _ _ e=>e)
        have k13:ws.cell? ⟨n,13,none⟩=some (En.ptr sp):=(FS.blk H1.out.b.1 (fun e=>e)).cell 13
        have q13:=(FS.blk H1.out.b.1 (fun e=>e)).frozen 13
        have k14:ws.cell? ⟨n,14,none⟩=some (En.ptr rp):=(FS.blk H1.out.b.1 (fun e=>e)).cell 14
        have q14:=(FS.blk H1.out.b.1 (fun e=>e)).frozen 14)
      |(go_simp;go_at_call 103;(refine (rnew_any _ _ _).mono ?_);rintro e wr2 ⟨pr,Fr,rfl,hr,fwr2,lr⟩
        have FR:Fresh w11 wr2:=by first | exact FS.trans fwr2 (fun _ _ e=>e) | exact FD.trans fwr2 (fun _ _ e=>e)
        have k13:wr2.cell? ⟨n,13,none⟩=some (En.ptr sp):=(FR.blk H1.out.b.1 (fun e=>e)).cell 13
        have q13:=(FR.blk H1.out.b.1 (fun e=>e)).frozen 13
        have k14:wr2.cell? ⟨n,14,none⟩=some (En.ptr rp):=(FR.blk H1.out.b.1 (fun e=>e)).cell 14
        have q14:=(FR.blk H1.out.b.1 (fun e=>e)).frozen 14))
       all_goals
        rw [Sf.prog_new] at hs
        rw [Rf.prog_new] at hr
        clear k13 q13 k14 q14 FD KF KS1 KS2 a5 a2 a4 a1
        first
         |(obtain ⟨D2,l2,pe⟩:=made1 k D1 FS hs fwr2 hr lr
           have FY:=lh FR
           clear hs fws ls FS fwr2 lr hr FR
           generalize wr2=wy at *)
         |(obtain ⟨D2,l2,pe⟩:=made2 k D1 FR hr lr fws hs
           have FY:=lh FS
           clear hs fws ls FS fwr2 lr hr FR
           generalize ws=wy at *)
        have L2:=lh l2
        obtain ⟨h5,t5⟩:=(H1.out.old FY.out (fun b hb=>l2.1 b hb)).place pe
        have H5:Hid (EndIn k D2 ((wy.setCell ⟨n,13,none⟩ (.pointer (some ⟨ps,0,none⟩))).setCell ⟨n,14,none⟩ (.pointer (some ⟨pr,0,none⟩))) n cn pc un (some ps) (some pr) A ca B cb { X3 with ep:=some (Sf.new X3.c.start X3.c.queue X3.c.polls,Rf.new X3.c.start X3.c.window) }):=h5
        have T5:Hid (Touch (All D0 k) w0 ((wy.setCell ⟨n,13,none⟩ (.pointer (some ⟨ps,0,none⟩))).setCell ⟨n,14,none⟩ (.pointer (some ⟨pr,0,none⟩)))):=((T1.out.trans FY.out (fun _ _ e=>e.elim)).st HN0.out).st HN0.out
        have L5:Hid (Lab k D0 D2 w0.heap.size):=L1.out.trans l2 T1.out.size
        clear h5 t5 l2 pe H1 L1 T1 FY L2
        go_upto_region 19 with (fail)
        generalize (wy.setCell ⟨n,13,none⟩ (.pointer (some ⟨ps,0,none⟩))).setCell ⟨n,14,none⟩ (.pointer (some ⟨pr,0,none⟩))=w14 at *
        obtain ⟨⟨F,hF,hFl⟩,-⟩:=H5.out.e.snd
        have HOP:=lh (fun W (hW:Fresh w14 W)=>sopn_any ps F _ ms W (hF.old hW))
        rw [new_opn] at HOP
        have HFL:=lh hFl
        have FD:Fresh w14 w14.drew:=(Touch.refl _ _).drew
        have KF:Hid (∀ wx,Touch F w14 wx->wx.cell? ⟨n,13,none⟩=some (.pointer (some ⟨ps,0,none⟩))/\wx.cell? ⟨b,4,none⟩=some (.int .u32 ms)):=fun wx hW =>
         have hb:=hW.blk H5.out.b.1 (fun e=>by have:=(hFl _ e).1;have:=H5.out.b.2;omega)
         have hx:=hW.blk (HBX.out w14 T5.out) (fun e=>by have:=(hFl _ e).1;have:=L5.out.1 b (HBX.out w0 (Touch.refl _ _)).lt;omega)
         ⟨hb.cell 13,hx.cell 4⟩
        obtain ⟨a13,a4⟩:=KF.out w14 (Touch.refl _ _)
        clear hF hFl
        go_region_held3 (fun wx=>wx.cell? ⟨n,13,none⟩=some (.pointer (some ⟨ps,0,none⟩))/\wx.cell? ⟨b,4,none⟩=some (.int .u32 ms))
         ((with_reducible refine KF.out _ ?_;first | with_reducible assumption | exact FD.mono (fun _ _ e=>e.elim)))
         (first
          |(go_simp;go_at_call 104;(with_reducible refine (HOP.out _ FD).mono ?_);rintro e w15 ⟨rfl,hs,t15⟩
            have FT:Touch F w14 w15:=(FD.mono (fun _ _ e=>e.elim)).trans t15 (fun _ _ e=>e)))
        have h6:=H5.out.sent (D':=D2) rfl rfl ⟨F,hs,fun b hb=>⟨(HFL.out b hb).1,Nat.lt_of_lt_of_le (HFL.out b hb).2 FT.size⟩⟩ FT (fun b hb=>(HFL.out b hb).1) (fun _ _=>rfl)
        obtain ⟨X6,hX6⟩:∃ X6:En.X,X6={ X3 with ep:=some (En.epoch X3.c ms) }:=⟨_,rfl⟩
        have H6:Hid (EndIn k D2 w15 n cn pc un (some ps) (some pr) A ca B cb X6):=by rw [hX6];exact h6
        have HZ3:Hid (Z=En.over { X6 with tm:=Pc.begin_ X6.tm X6.c.poll X6.c.silent }):=by rw [hX6];exact HZ2.out
        have T6:Hid (Touch (All D0 k) w0 w15):=T5.out.then L5.out (FT.mono fun b _ hb=>by have:=(HFL.out b hb).1;unfold All;omega)
        have c12:w15.cell? ⟨n,12,none⟩=some (.pointer (some ⟨pc,0,none⟩)):=H6.out.b.1.cell 12
        clear h6 hX6 hs t15 FT FD KF HOP HFL H5 T5 HZ2 HZ a13 a4
        go_wp2_with fail
        refine (pbegin_any _ _ _ _ _ _ _ _ H6.out.p.1).mono ?_
        rintro e2 w16 ⟨rfl,p7,t7⟩
        have H7:=lh (H6.out.paced (D':=D2) p7 t7 (fun b hb=>by subst hb;exact H6.out.p.2) (fun _ _=>rfl))
        have T7:Hid (Touch (All D0 k) w0 w16):=T6.out.then L5.out (t7.mono fun b _ hb=>by subst hb;have:=H6.out.p.2;unfold All;omega)
        clear p7 t7 H6 T6 c12
        have HOV:=lh (nover_any H7.out)
        simp only
        go_wp2_with fail
        refine HOV.out.mono ?_
        rintro e2 w17 ⟨rfl,h8,t8⟩
        have HM8:Hid (EndMid k D0 w0 n cn pc un Z w17):=by
         rw [HZ3.out]
         exact ⟨D2,_,_,A,ca,B,cb,h8,L5.out,T7.out.trans t8 (fun b hb e=>by have e:b=n:=e;subst e;exact HN0.out)⟩
        clear h8 t8 H7 T7 HOV L5 HZ3
        simp only
        go_wp2
        go_meet
        case rel=>exact HM8
     case rest =>
      have HM4:=hcut
      clear hcut HM3 y2
      generalize wc=w12 at *
      have hx:=HBX.out w12 (by obtain ⟨_,_,_,_,_,_,_,_,_,t⟩:=HM4.out;exact t)
      have y0:w12.cell? ⟨b,0,none⟩=some (.slice A1 nl c1):=hx.cell 0
      clear hx
      go_wp2
      go_ret
      obtain ⟨D',h⟩:=HFIN.out w12 Z HM4.out
      exact ⟨D',rfl,h⟩
end
set_option maxRecDepth 20000
def EndSigs (k:Nat) (D:Nat->Nat) (w:World) (n:Nat) (y:En.X × List Cn.Sig) (e:Ending) (w':World):Prop:=
 ∃ D' A c,e=.returned (.slice A y.2.length c)/\EndTo k D D' w w' n y.1/\Sl sigE w' A c y.2/\∀ ad,A=some ad->w.heap.size<=ad.block/\D' ad.block=k+8
section
variable {k:Nat} {D D':Nat->Nat} {w w':World} {n cn pc un:Nat} {sp rp:Option Nat} {A B:Option Addr} {ca cb:Nat} {x:En.X}
theorem EndSigs.back {w0:World} {D0:Nat->Nat} {y:En.X × List Cn.Sig} {e:Ending} (h:EndSigs k D w n y e w') (hl:Lab k D0 D w0.heap.size) (ht:Touch (All D0 k) w0 w):EndSigs k D0 w0 n y e w':=by
 obtain ⟨D',A,c,h1,h2,h3,h4⟩:=h
 exact ⟨D',A,c,h1,⟨h2.at_,hl.trans h2.lab ht.size,ht.then hl h2.touch⟩,h3,fun ad e=>⟨Nat.le_trans ht.size (h4 ad e).1,(h4 ad e).2⟩⟩
theorem nbrought (h:EndIn k D w n cn pc un sp rp A ca B cb x) {y:Cn.SR} {v:Value} {w1:World} (hc:ConnPost w cn y v w1) (hctl:x.ctl.length<=1000) (he:y.2.ends=true->∃ e lo hi,x.ep=some e/\Sf.Ok e.1 lo hi) :
  Calls Tryz.prog 51 #[.pointer (some ⟨n,0,none⟩),v] w1 (EndSigs k D w n (En.brought x y)):=by
 obtain ⟨A1,c1,A2,c2,rfl,s1,s2,b1,b2⟩:=hc.res
 have hlab:=lab_lab k D w.heap.size 8 (by omega)
 have hD:∀ b,b<w.heap.size->lab D w.heap.size (k+8) b=D b:=fun b hb=>lab_old hb
 have hT:∀ b,b=cn->D b=k+1:=fun b hb=>by subst hb;exact h.c.2.2
 have h1:=h.conned (D':=lab D w.heap.size (k+8)) hc.conn hc.ok hc.touch hT hD
 have ht:Touch (All D k) w w1:=hc.touch.mono fun b _ hb=>by have:=hT b hb;unfold All;omega
 have hz:=hc.few
 refine (nbring_any h1 y.2 A1 y.2.sigs.length c1 A2 c2 s2.rd (fun ad e=>?_) (by have:=hz.2;omega) hctl he).mono ?_
 ·rw [lab_new (b2 ad e)];omega
 ·rintro e w2 ⟨D2,rfl,h2⟩
  refine ⟨D2,A1,c1,rfl,⟨h2.at_,?_,ht.then hlab h2.touch⟩,s1.touch h2.touch (fun ad e=>?_),fun ad e=>⟨b1 ad e,?_⟩⟩
  ·exact hlab.trans h2.lab ht.size
  ·have:=b1 ad e
   unfold All
   rw [lab_new this]
   omega
  ·rw [h2.lab.1 _ (s1.lt ad e)]
   exact lab_new (b1 ad e)
theorem nfail_any (h:EndIn k D w n cn pc un sp rp A ca B cb x) (code:Int) (hctl:x.ctl.length<=1000) (he:(Cn.failS x.conn code).2.ends=true->∃ e lo hi,x.ep=some e/\Sf.Ok e.1 lo hi) :
  Calls Tryz.prog 189 #[.pointer (some ⟨n,0,none⟩),.int .u8 code] w (EndSigs k D w n (En.fail x code)):=by
 have c11:w.cell? ⟨n,11,none⟩=some (.pointer (some ⟨cn,0,none⟩)):=h.b.1.cell 11
 have HCF:=lh (cfail_any h.c.1 h.c.2.1 code)
 have HBR:=lh (fun v w1 (hc:ConnPost w cn (Cn.failS x.conn code) v w1)=>nbrought h hc hctl he)
 have HP:Hid (∀ e w',EndSigs k D w n (En.brought x (Cn.failS x.conn code)) e w'->EndSigs k D w n (En.fail x code) e w'):=fun _ _ h=>h
 generalize Cn.failS x.conn code=y at *
 generalize En.fail x code=Z at *
 clear h he
 go_enter Tryz.func189,Tryz.ntmps189
 go_wp2_with fail
 refine HCF.out.mono ?_
 rintro e w1 ⟨v,rfl,hc⟩
 have HC:=lh (HBR.out v w1 hc)
 clear hc HBR
 simp only
 go_wp2_with fail
 refine HC.out.mono ?_
 rintro e w2 h2
 have HE:=lh (HP.out _ _ h2)
 obtain ⟨D',A',c',rfl,-⟩:=h2
 simp only
 go_wp2
 go_ret
 exact HE.out
end
end Go.Proofs.YtlbopdfobgjjaaaGreatDoor

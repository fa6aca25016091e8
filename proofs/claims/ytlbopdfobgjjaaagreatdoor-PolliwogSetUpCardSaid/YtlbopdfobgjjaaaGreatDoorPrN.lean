/-
  node.Node: Next where nothing waits to be sent and nothing lacks; Receive of what bears no data. Conditions: the end may be · A new end of a law's own, as an end with labels.
-/
import Derived.Test.YtlbopdfobgjjaaaGreatDoorEnNc
import Derived.Test.YtlbopdfobgjjaaaGreatDoorEnRq
import Derived.Test.YtlbopdfobgjjaaaGreatDoorEnZk
import Derived.Test.YtlbopdfobgjjaaaGreatDoorNdN
import Derived.Test.YtlbopdfobgjjaaaGreatDoorOpen2
namespace Go.Proofs.YtlbopdfobgjjaaaGreatDoor
open Go.RowKit
set_option maxRecDepth 20000
section
variable {k:Nat} {D:Nat->Nat} {w:World} {n cn pc un:Nat} {sp rp:Option Nat} {A B:Option Addr} {ca cb:Nat} {x:En.X}
theorem nnext_plain (h:EndIn k D w n cn pc un sp rp A ca B cb x) {hi hi2:Int} (hf:En.Fit x hi hi2) (hu:x.units=[]) (ha:∀ p,x.ep=some p->p.1.again=[]) (hl:∀ p,x.ep=some p->p.1.wait=[]/\p.2.gaps=[]) :
  Calls Tryz.prog 39 #[.pointer (some ⟨n,0,none⟩)] w (NextPost k D w n (En.next x)):=by
 have h1:=hf.ctl
 cases hc:x.ctl with
 |cons u r =>
  have e:En.next x=({ x with ctl:=r },some (u,[])):=by unfold En.next;rw [hc]
  rw [e]
  exact nnext_ctl h u r hc (by rw [hc,List.length_cons] at h1;omega)
 |nil =>
  cases he:x.ep with
  |none =>
   have e:En.next x=(x,none):=by unfold En.next;rw [hc,hu,he]
   rw [e]
   exact nnext_none h hc hu he
  |some e =>
   obtain ⟨s,r⟩:=e
   obtain ⟨g1,g2⟩:=hl _ he
   have g3:=ha _ he
   by_cases hst:x.stat=true
   ·have e:En.next x=({ x with stat:=false,ep:=some (s,Rf.renew r) },some (En.numed 11 ((Rf.renew r).R%16777216) x.asked ((Rf.renew r).MR%16777216) Cn.no,En.pairs (Rf.renew r))):=by
     unfold En.next
     rw [hc,hu,he]
     dsimp only
     rw [if_pos hst]
    rw [e]
    exact nnext_stat h hc hu he (hf.ep _ he).2 hst
   ·exact nnext_calm h hc hu he (hf.ep _ he).1 (Bool.eq_false_iff.2 hst) g2 fun p F W hW=>snext_calm g1 g3 p F W hW
theorem En.transfer_few {x:En.X} {hi hi2:Int} (h:En.Fit x hi hi2) (hh:hi2+64-x.c.start%16777216<=8000000) {e:Sf.S × Rf.S} (he:x.ep=some e) (u:Cn.Pd) (l:List Int) (hk:u.kind=10\/u.kind=11):En.Fit (En.transfer x e u l).1 hi (hi2+64)/\(En.transfer x e u l).2.length<=1000:=by
 obtain ⟨hs,hr⟩:=h.ep e he
 have h0:x.ep.isSome=true:=by rw [he];rfl
 have hf:∀ code,En.Fit (En.fail x code).1 hi (hi2+64)/\(En.fail x code).2.length<=1000:=fun code=>by
  have hy:=En.fail_ok h code
  have hc:(En.fail x code).1.c=x.c:=En.brought_c _ _
  exact ⟨hy.1.mono (Int.le_refl _) (by omega) (by rw [hc];exact h.b1.2) (by rw [hc];exact hh),hy.2⟩
 have hr2:=hr.mono (hi':=hi2+64) (by omega) hh
 unfold En.transfer
 rw [if_neg (by omega)]
 rcases hk with hk | hk
 ·rw [if_pos hk]
  split
  ·exact ⟨h.parts _ h0 rfl rfl rfl rfl hs (hr2.poll _).2 (by omega) hh,by simp⟩
  ·exact hf 81
 ·rw [if_neg (by omega),if_pos hk]
  dsimp only
  split
  ·exact hf 82
  ·split
   ·exact hf 83
   ·exact ⟨h.parts _ h0 rfl rfl rfl rfl (hs.stat _ _ _ _) hr2 (by omega) hh,En.again_sg _⟩
theorem En.hear_few {x:En.X} {hi hi2:Int} (h:En.Fit x hi hi2) (hh:hi2+64-x.c.start%16777216<=8000000) (u:Cn.Pd) (l:List Int) (hk:En.ofEp u.kind=false\/u.kind=10\/u.kind=11):En.Fit (En.hear x u l).1 hi (hi2+64)/\(En.hear x u l).2.length<=1000:=by
 have h2:∀ {y:En.X × List Cn.Sig},En.Fit y.1 hi hi2/\y.2.length<=1000->y.1.c=x.c->En.Fit y.1 hi (hi2+64)/\y.2.length<=1000:=fun hy hc=>⟨hy.1.mono (Int.le_refl _) (by omega) (by rw [hc];exact h.b1.2) (by rw [hc];exact hh),hy.2⟩
 have hb:=h2 ⟨h.brought (Cn.hear_ends _ u),En.brought_sg x (Cn.hear_ends _ u)⟩ (En.brought_c _ _)
 have hx:∀ s:Cn.Sig,En.Fit (x,[s]).1 hi (hi2+64)/\(x,[s]).2.length<=1000:=fun s=>h2 ⟨h,by simp⟩ rfl
 unfold En.hear
 split
 ·exact hx _
 ·split
  ·exact hx _
  ·cases he:x.ep with
   |none=>exact hb
   |some e =>
    simp only
    split
    ·rename_i h3
     refine En.transfer_few h hh he u l (hk.resolve_left fun e=>?_)
     rw [e] at h3
     cases h3
    ·exact hb
theorem nreceive_few (h:EndIn k D w n cn pc un sp rp A ca B cb x) {hi hi2:Int} (hf:En.Fit x hi hi2) (hh:hi2+64-x.c.start%16777216<=8000000) (u:Cn.Pd) (l:List Int) (hu:UFit k D w u l) (hk:En.ofEp u.kind=false\/u.kind=10\/u.kind=11) :
  Calls Tryz.prog 46 #[.pointer (some ⟨n,0,none⟩),pduV u] w (EndSigs k D w n (En.receive x u l)):=
 nreceive_of h u l hu (fun _ _ h0 hu0=>nhear_of h0 hf u l hu0 fun _ _ e h1 u1 he1 hk2=>by
  obtain ⟨s,r⟩:=e
  rcases hk with hk | hk | hk
  ·exact absurd hk2 (by rw [hk];decide)
  ·exact ntrans_poll h1 he1 (hf.ep _ he1).1 (hf.ep _ he1).2 hf.ctl u l hk u1.n
  ·exact ntrans_stat h1 he1 (hf.ep _ he1).1 (hf.ep _ he1).2 hf.ctl u l hk u1.mr u1.rd u1.ln u1.ll (fun ad e=>(u1.ap ad e).2)) (En.hear_few hf hh u l hk)
end
theorem NodeNw.end_ {W0 w:World} {n:Nat} {c:Nd.C} (h:NodeNw W0 w n (Nd.S.new c)) (k:Nat) (D:Nat->Nat):∃ D',Lab k D D' W0.heap.size/\EndAt k D' w n (En.new c):=by
 obtain ⟨cn,pc,un,h1,l1,l2,l3,l4⟩:=h.at_
 have hpc:=h1.pace.2.2
 obtain ⟨v,hun⟩:∃ cs,Blk w un 157 cs:=by
  obtain ⟨A,c0,a,buf,hb,-⟩:=h1.units
  exact ⟨_,hb⟩
 have e1:n ≠ cn:=Blk.ne_ h1.blk h1.conn (by decide)
 have e2:n ≠ pc:=Blk.ne_ h1.blk hpc (by decide)
 have e3:n ≠ un:=Blk.ne_ h1.blk hun (by decide)
 have e4:cn ≠ pc:=Blk.ne_ h1.conn hpc (by decide)
 have e5:cn ≠ un:=Blk.ne_ h1.conn hun (by decide)
 have e6:pc ≠ un:=Blk.ne_ hpc hun (by decide)
 refine ⟨fun b=>if b<W0.heap.size then D b else if b=n then k else if b=cn then k+1 else if b=pc then k+2 else if b=un then k+3 else k+8,⟨fun b hb=>if_pos hb,fun b hb=>?_⟩,cn,pc,un,none,none,none,0,none,0,?_⟩
 ·dsimp only
  rw [if_neg (by omega)]
  repeat' split
  all_goals omega
 ·refine ⟨⟨h1.blk,?_⟩,⟨h1.conn,h1.cok,?_⟩,⟨h1.pace,?_⟩,⟨none,h1.units,?_,fun g e=>by cases e⟩,⟨Sl.nil _ _,fun ad e=>by cases e⟩,⟨Sl.nil _ _,fun ad e=>by cases e⟩,⟨rfl,rfl⟩⟩
  ·show (if _ then _ else _)=_;rw [if_neg (by omega),if_pos rfl]
  ·show (if _ then _ else _)=_;rw [if_neg (by omega),if_neg (Ne.symm e1),if_pos rfl]
  ·show (if _ then _ else _)=_;rw [if_neg (by omega),if_neg (Ne.symm e2),if_neg (Ne.symm e4),if_pos rfl]
  ·show (if _ then _ else _)=_;rw [if_neg (by omega),if_neg (Ne.symm e3),if_neg (Ne.symm e5),if_neg (Ne.symm e6),if_pos rfl]
end Go.Proofs.YtlbopdfobgjjaaaGreatDoor

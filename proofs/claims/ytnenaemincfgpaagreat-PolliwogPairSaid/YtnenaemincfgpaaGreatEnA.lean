/-
  node.Node: ready, idle, over, report, again, credit. No conditions but where the end lies.
-/
import Derived.Test.YtnenaemincfgpaaGreatEnM
import Derived.Test.YtnenaemincfgpaaGreatSndD
import Derived.RegionTactic
import Derived.StillTailTactics
import Derived.Deep.DeepCutAuto
import Derived.Deep.CutBlock
import Derived.Deep.RegionLaw
import Derived.Deep.RegionHeld3
set_option maxHeartbeats 4000000
namespace Go.Proofs.YtnenaemincfgpaaGreat
open Go.RowKit
set_option maxRecDepth 20000

section
variable {k : Nat} {D D' : Nat -> Nat} {w w' : World} {n cn pc un : Nat} {sp rp : Option Nat} {A B : Option Addr} {ca cb : Nat} {x : En.X}
theorem EndIn.ep_none (h : EndIn k D w n cn pc un sp rp A ca B cb x) (he : x.ep = none) : sp = none ∧ rp = none := by
 have := h.e
 rw [he] at this
 exact this
theorem EndIn.ep_some {e : Sf.S × Rf.S} (h : EndIn k D w n cn pc un sp rp A ca B cb x) (he : x.ep = some e) : ∃ p q, sp = some p ∧ rp = some q ∧ PS k D w p e.1 ∧ PR k D w q e.2 := by
 have := h.e
 rw [he] at this
 exact this
theorem nready_any (h : EndIn k D w n cn pc un sp rp A ca B cb x) :
  Calls Tryz.prog 22 #[.pointer (some ⟨n, 0, none⟩)] w fun e w' => e = .returned (.bool x.ep.isSome) ∧ w = w' := by
 cases he : x.ep with
 |none =>
  obtain ⟨rfl, rfl⟩ := h.ep_none he
  have c13 : w.cell? ⟨n, 13, none⟩ = some (.pointer none) := h.b.1.cell 13
  clear h he
  go_enter Tryz.func22, Tryz.ntmps22
  go_wp2
  go_ret
  exact ⟨rfl, rfl⟩
 |some e =>
  obtain ⟨p, q, rfl, rfl, -, -⟩ := h.ep_some he
  have c13 : w.cell? ⟨n, 13, none⟩ = some (.pointer (some ⟨p, 0, none⟩)) := h.b.1.cell 13
  clear h he
  go_enter Tryz.func22, Tryz.ntmps22
  go_wp2
  go_ret
  exact ⟨rfl, rfl⟩
theorem prog_idle {s : Sf.S} (hs : s.last.length = s.kept.length) : (decide ((Sf.prog s).q.length = 0) && decide ((Sf.prog s).m.length = 0)) = En.sIdle s := by
 unfold En.sIdle Sf.prog
 simp only
 rw [Sf.pm_len _ _ _ hs]
theorem nidle_any (h : EndIn k D w n cn pc un sp rp A ca B cb x) (hl : ∀ e, x.ep = some e -> e.1.last.length = e.1.kept.length) :
  Calls Tryz.prog 28 #[.pointer (some ⟨n, 0, none⟩)] w fun e w' => e = .returned (.bool (En.idle x)) ∧ ∃ m, w' = w.drewN m := by
 have HRD := lh (nready_any h)
 cases he : x.ep with
 |none =>
  have hi : En.idle x = true := by unfold En.idle; rw [he]
  rw [he] at HRD
  rw [hi]
  clear h he hi
  go_enter Tryz.func28, Tryz.ntmps28
  go_wp2_with (go_at_call 22; (with_reducible refine HRD.out.mono ?_); rintro e w1 ⟨rfl, rfl⟩)
  go_ret
  exact ⟨rfl, 0, rfl⟩
 |some e =>
  obtain ⟨p, q, rfl, rfl, ⟨F, hs, -⟩, -⟩ := h.ep_some he
  have hi : En.idle x = En.sIdle e.1 := by unfold En.idle; rw [he]
  have HID := lh (sidle_any p F _ w hs)
  rw [prog_idle (hl e he)] at HID
  rw [he] at HRD
  rw [hi]
  have c13 : w.cell? ⟨n, 13, none⟩ = some (.pointer (some ⟨p, 0, none⟩)) := h.b.1.cell 13
  clear h he hi hs hl
  generalize En.sIdle e.1 = z at *
  go_enter Tryz.func28, Tryz.ntmps28
  go_wp2_with (first
   |(go_at_call 22; (with_reducible refine HRD.out.mono ?_); rintro e w1 ⟨rfl, rfl⟩)
   |(go_at_call 60; (with_reducible refine HID.out.mono ?_); rintro e w2 ⟨rfl, m, rfl⟩))
  go_ret
  exact ⟨rfl, m, rfl⟩
theorem nrep_any (c m : Int) (w : World) :
  Calls Tryz.prog 64 #[.int .u8 c, .int .i64 m] w fun e w' => ∃ A, e = .returned (.slice (some A) 1 1) ∧ Mine sigE w w' (some A) 1 [En.rep c m] := by
 go_enter Tryz.func64, Tryz.ntmps64
 go_wp2
 go_ret
 exact ⟨_, rfl, Mine.lit sigE w _ [En.rep c m] rfl 1 rfl (by decide)⟩
theorem nagain_any (m : Int) (w : World) :
  Calls Tryz.prog 112 #[.int .i64 m] w fun e w' => ∃ A c, e = .returned (.slice A (En.again m).length c) ∧ Mine sigE w w' A c (En.again m) := by
 unfold En.again
 by_cases hm : m = 0
 ·subst hm
  go_enter Tryz.func112, Tryz.ntmps112
  go_wp2
  go_ret
  exact ⟨none, 0, rfl, Mine.nil _ _⟩
 ·have h1 : (m == 0) = false := by simpa using hm
  rw [if_neg hm]
  go_enter Tryz.func112, Tryz.ntmps112
  go_wp2_with (go_at_call 64; refine (nrep_any 86 m _).mono ?_; rintro e w1 ⟨A, rfl, h1⟩)
  go_ret
  exact ⟨_, _, rfl, h1⟩
theorem nover_any (h : EndIn k D w n cn pc un sp rp A ca B cb x) :
  Calls Tryz.prog 82 #[.pointer (some ⟨n, 0, none⟩)] w fun e w' => e = .returned (.tuple #[]) ∧ EndIn k D w' n cn pc un sp rp A ca B cb (En.over x) ∧ Touch (· = n) w w' := by
 have c17 : w.cell? ⟨n, 17, none⟩ = some (.bool x.poll) := h.b.1.cell 17
 have f17 := h.b.1.frozen 17
 have c18 : w.cell? ⟨n, 18, none⟩ = some (.bool x.stat) := h.b.1.cell 18
 have f18 := h.b.1.frozen 18
 have H1 := h.put (x' := { x with poll := false }) 17 (.bool false) rfl rfl ⟨rfl, rfl⟩ rfl h.l h.f h.e
 have H2 := lh (H1.put (x' := En.over x) 18 (.bool false) rfl rfl ⟨rfl, rfl⟩ rfl H1.l H1.f H1.e)
 clear h H1
 go_enter Tryz.func82, Tryz.ntmps82
 go_wp2
 go_end0
 exact ⟨rfl, H2.out, ((Touch.refl (· = n) w).st rfl).st rfl⟩

theorem prog_lack {s : Sf.S} {lo hi : Int} (h : Sf.Ok s lo hi) : ((Sf.prog s).s == (Sf.prog s).ms) = (s.s == s.ms) := by
 have h1 := h.sms
 have h2 := h.msa
 have h3 := h.klen
 rw [Bool.eq_iff_iff, beq_iff_eq, beq_iff_eq]
 show s.s % 16777216 = s.ms % 16777216 ↔ _
 omega
structure SigsTo (w w' : World) (A A' : Option Addr) (c' : Nat) (l : List Cn.Sig) : Prop where
 sl : Sl sigE w' A' c' l
 at_ : A'.map Addr.block = A.map Addr.block ∨ ∀ ad, A' = some ad -> w.heap.size <= ad.block
def CreditPost (k : Nat) (D : Nat -> Nat) (w : World) (n cn pc un : Nat) (sp rp : Option Nat) (A : Option Addr) (ca : Nat) (B : Option Addr) (cb : Nat) (Al : Option Addr) (y : En.X × List Cn.Sig) (e : Ending) (w' : World) : Prop :=
 ∃ A' c', e = .returned (.slice A' y.2.length c') ∧ SigsTo w w' Al A' c' y.2 ∧ EndIn k (lab D w.heap.size (k + 8)) w' n cn pc un sp rp A ca B cb y.1 ∧ Touch (fun b => b = n ∨ Al.map Addr.block = some b) w w'
theorem ncredit_any (h : EndIn k D w n cn pc un sp rp A ca B cb x) (hso : ∀ e, x.ep = some e -> ∃ lo hi, Sf.Ok e.1 lo hi) (Al : Option Addr) (cl : Nat) (l : List Cn.Sig) (hs : Sl sigE w Al cl l) (hl : l.length <= 1000000) (hA : ∀ ad, Al = some ad -> ¬ (k <= D ad.block ∧ D ad.block < k + 8)) :
  Calls Tryz.prog 30 #[.pointer (some ⟨n, 0, none⟩), .slice Al l.length cl] w (CreditPost k D w n cn pc un sp rp A ca B cb Al (En.credit x l)) := by
 obtain ⟨was, hwas⟩ := qx x.lacks
 obtain ⟨now, hnow⟩ := qx (En.lack x)
 have HRD := lh (nready_any h)
 have HR2 : Hid (∀ W, EndIn k D W n cn pc un sp rp A ca B cb { x with lacks := now } -> Calls Tryz.prog 22 #[.pointer (some ⟨n, 0, none⟩)] W fun e w' => e = .returned (.bool x.ep.isSome) ∧ W = w') := fun W hW => by
  have r := nready_any hW
  exact r
 have c20 : ∀ m, (w.drewN m).cell? ⟨n, 20, none⟩ = some (.bool was) := fun m => by rw [<- hwas]; exact (h.b.1.drewN m).cell 20
 have f20 := fun m => (h.b.1.drewN m).frozen 20
 have HNA : Hid (∀ ad, Al = some ad -> ad.block ≠ n) := fun ad e e2 => hA ad e (by rw [e2]; have := h.b.2; omega)
 have HLA : Hid (∀ ad, Al = some ad -> ¬ (k <= D ad.block ∧ D ad.block < k + 8)) := hA
 have HT2 : Hid (∀ m, Touch (· = n) w ((w.drewN m).setCell ⟨n, 20, none⟩ (.bool now))) := fun m => ((Touch.refl (· = n) w).drewN m).st rfl
 have HQ : Hid (∀ m, EndIn k D ((w.drewN m).setCell ⟨n, 20, none⟩ (.bool now)) n cn pc un sp rp A ca B cb { x with lacks := now }) := fun m =>
  have h0 := h.old ((Touch.refl _ w).drewN m) (fun _ _ => rfl)
  h0.put 20 (.bool now) rfl rfl ⟨rfl, rfl⟩ rfl h0.l h0.f h0.e
 have HSQ : Hid (∀ m, Sl sigE ((w.drewN m).setCell ⟨n, 20, none⟩ (.bool now)) Al cl l) := fun m => hs.touch (HT2.out m) (fun ad e => HNA.out ad e)
 have HCR : Hid (∀ rd L, x.ep.isSome = rd -> (if now && !was then l ++ [En.rep 87 0] else if (was && !now) && rd then l ++ [En.rep 88 0] else l) = L -> En.credit x l = ({ x with lacks := now }, L)) := fun rd L hr hL => by unfold En.credit En.ready; rw [hnow, hwas, hr, hL]
 have HEND : Hid (∀ (w2 w3 : World) (A3 : Option Addr) (c3 : Nat) (L : List Cn.Sig), Touch (· = n) w w2 -> w2.heap.size = w.heap.size -> EndIn k D w2 n cn pc un sp rp A ca B cb { x with lacks := now } -> SigsTo w w3 Al A3 c3 L -> Touch (fun b => Al.map Addr.block = some b) w2 w3 -> En.credit x l = ({ x with lacks := now }, L) -> CreditPost k D w n cn pc un sp rp A ca B cb Al (En.credit x l) (.returned (.slice A3 L.length c3)) w3) := fun w2 w3 A3 c3 L t2 hz hq h1 h2 h3 => by
  rw [h3]
  refine ⟨A3, c3, rfl, h1, (hq.old (Touch.refl _ _) (fun _ _ => rfl)).keep h2 (fun b hb e => ?_) (fun b hb => ?_), (t2.mono (fun _ _ e => .inl e)).trans h2 (fun _ _ e => .inr e)⟩
  ·cases hAl : Al with
   |none => rw [hAl] at hb; cases hb
   |some ad => rw [hAl] at hb; injection hb with hb; exact HLA.out ad hAl (by rw [hb]; exact e)
  ·exact lab_old (by omega)
 have HSZ : Hid (∀ m, ((w.drewN m).setCell ⟨n, 20, none⟩ (.bool now)).heap.size = w.heap.size) := fun m => by show _ = _; simp
 have CALLS : Hid (∀ (m : Nat) (v : Bool), x.ep.isSome = v -> ∀ w2, w2 = (w.drewN m).setCell ⟨n, 20, none⟩ (.bool now) -> Touch (· = n) w w2 ∧ w2.heap.size = w.heap.size ∧ EndIn k D w2 n cn pc un sp rp A ca B cb { x with lacks := now } ∧ Sl sigE w2 Al cl l ∧ w2.cell? ⟨n, 20, none⟩ = some (.bool now)) := fun m v _ w2 e => by
  subst e
  exact ⟨HT2.out m, HSZ.out m, HQ.out m, HSQ.out m, (HQ.out m).b.1.cell 20⟩
 cases he : x.ep with
 |none =>
  have hn : now = false := by rw [<- hnow]; unfold En.lack; rw [he]
  subst hn
  rw [he] at HRD
  have HC3 : Hid (En.credit x l = ({ x with lacks := false }, l)) := HCR.out false l (by rw [he]; rfl) (by cases was <;> rfl)
  have a20 : w.cell? ⟨n, 20, none⟩ = some (.bool was) := c20 0
  have b20 : w.frozen? ⟨n, 20, none⟩ = false := f20 0
  obtain ⟨w2, hw2⟩ := xq (w.setCell ⟨n, 20, none⟩ (.bool false))
  obtain ⟨t2, z2, q2, s2, e20⟩ := CALLS.out 0 false (by rw [he]; rfl) w2 hw2
  have R2 := HR2.out w2 q2
  rw [he] at R2
  have R2 := lh R2
  have T2 := lh t2
  have Z2 := lh z2
  have Q2 := lh q2
  have S2 := lh s2
  clear HCR he hnow hso c20 f20 h hs hwas hA CALLS HT2 HQ HSQ HSZ HR2 t2 z2 q2 s2
  cases was
  all_goals
   go_enter Tryz.func30, Tryz.ntmps30
   go_upto_block 0 with (go_at_call 22; (with_reducible refine HRD.out.mono ?_); rintro e w1 ⟨rfl, rfl⟩)
   rw [<- hw2]
   clear hw2 a20 b20
   go_wp2_with (go_at_call 22; (with_reducible refine R2.out.mono ?_); rintro e w1 ⟨rfl, rfl⟩)
   go_ret
   exact HEND.out w2 w2 _ _ l T2.out Z2.out Q2.out ⟨S2.out, .inl rfl⟩ (Touch.refl _ _) HC3.out
 |some e =>
  obtain ⟨lo, hi, hso⟩ := hso e he
  obtain ⟨p, q, rfl, rfl, ⟨F, hF, -⟩, -⟩ := h.ep_some he
  have HLK := lh (slacks_any p F _ w hF)
  rw [prog_lack hso, show (Sf.prog e.1).q = e.1.wait from rfl, show (decide (0 < e.1.wait.length) && (e.1.s == e.1.ms)) = now by rw [<- hnow]; unfold En.lack; rw [he]] at HLK
  have c13 : w.cell? ⟨n, 13, none⟩ = some (.pointer (some ⟨p, 0, none⟩)) := h.b.1.cell 13
  have a20 : w.cell? ⟨n, 20, none⟩ = some (.bool was) := c20 0
  have HA20 := lh c20
  have HF20 := lh f20
  rw [he] at HRD
  have HCT : Hid (∀ L, (if now && !was then l ++ [En.rep 87 0] else if (was && !now) && true then l ++ [En.rep 88 0] else l) = L -> En.credit x l = ({ x with lacks := now }, L)) := fun L hL => HCR.out true L (by rw [he]; rfl) hL
  clear HCR
  have HR3 : Hid (∀ w2, EndIn k D w2 n cn pc un (some p) (some q) A ca B cb { x with lacks := now } -> Calls Tryz.prog 22 #[.pointer (some ⟨n, 0, none⟩)] w2 fun e w' => e = .returned (.bool true) ∧ w2 = w') := fun w2 h => by
   have r := HR2.out w2 h
   rw [he] at r
   exact r
  clear he hnow hso hF c20 f20 h hs hwas hA HT2 HQ HSQ HSZ HR2
  go_enter Tryz.func30, Tryz.ntmps30
  go_upto_block 0 with (first
   |(go_at_call 22; (with_reducible refine HRD.out.mono ?_); rintro e w1 ⟨rfl, rfl⟩)
   |(go_at_call 63; (with_reducible refine HLK.out.mono ?_); rintro e w1 ⟨rfl, m, rfl⟩; have m20 := HA20.out m; have g20 := HF20.out m))
  obtain ⟨w2, hw2⟩ := xq ((w.drewN m).setCell ⟨n, 20, none⟩ (.bool now))
  obtain ⟨t2, z2, q2, s2, e20⟩ := CALLS.out m _ rfl w2 hw2
  have R2 := lh (HR3.out w2 q2)
  have T2 := lh t2
  have Z2 := lh z2
  have Q2 := lh q2
  have S2 := lh s2
  rw [<- hw2]
  clear hw2 m20 g20 HA20 HF20 a20 c13 HLK CALLS HR3 HRD t2 z2 q2 s2
  cases hb1 : now <;> cases hb2 : was <;> subst hb1 hb2
  ·as_aux_lemma =>
   have HC3 : Hid (En.credit x l = ({ x with lacks := false }, l)) := HCT.out _ rfl
   clear HCT
   go_wp2_with (go_at_call 22; (with_reducible refine R2.out.mono ?_); rintro e w1 ⟨rfl, rfl⟩)
   go_ret
   exact HEND.out w2 w2 _ _ l T2.out Z2.out Q2.out ⟨S2.out, .inl rfl⟩ (Touch.refl _ _) HC3.out
  ·as_aux_lemma =>
   have HC3 : Hid (En.credit x l = ({ x with lacks := false }, l ++ [En.rep 88 0])) := HCT.out _ rfl
   clear HCT
   go_wp2_with (first
    |(go_at_call 22; (with_reducible refine R2.out.mono ?_); rintro e w1 ⟨rfl, rfl⟩)
    |(go_at_call 64; (with_reducible refine (nrep_any 88 0 _).mono ?_); rintro e w3 ⟨A3, rfl, h3⟩)
    |(at_builtin
      refine app_sig rfl rfl (l := l) (l2 := [En.rep 88 0]) rfl rfl (S2.out.touch h3.fresh (fun _ _ e => e)) h3.sl.rd (by simp; omega) ?_
      intro A4 c4 L4 w4 hL4 s4 t4 a4))
   go_ret
   rw [hL4.out] at s4 ⊢
   refine HEND.out w2 w4 A4 c4 _ T2.out Z2.out Q2.out ⟨s4, a4.imp id (fun e ad e2 => ?_)⟩ ((h3.fresh.mono (fun _ _ e => e.elim)).trans t4 (fun _ _ e => e)) HC3.out
   rw [e2] at e
   injection e with e
   have := h3.fresh.size
   have := Z2.out
   omega
  ·as_aux_lemma =>
   have HC3 : Hid (En.credit x l = ({ x with lacks := true }, l ++ [En.rep 87 0])) := HCT.out _ rfl
   clear HCT
   go_wp2_with (first
    |(go_at_call 22; (with_reducible refine R2.out.mono ?_); rintro e w1 ⟨rfl, rfl⟩)
    |(go_at_call 64; (with_reducible refine (nrep_any 87 0 _).mono ?_); rintro e w3 ⟨A3, rfl, h3⟩)
    |(at_builtin
      refine app_sig rfl rfl (l := l) (l2 := [En.rep 87 0]) rfl rfl (S2.out.touch h3.fresh (fun _ _ e => e)) h3.sl.rd (by simp; omega) ?_
      intro A4 c4 L4 w4 hL4 s4 t4 a4))
   go_ret
   rw [hL4.out] at s4 ⊢
   refine HEND.out w2 w4 A4 c4 _ T2.out Z2.out Q2.out ⟨s4, a4.imp id (fun e ad e2 => ?_)⟩ ((h3.fresh.mono (fun _ _ e => e.elim)).trans t4 (fun _ _ e => e)) HC3.out
   rw [e2] at e
   injection e with e
   have := h3.fresh.size
   have := Z2.out
   omega
  ·as_aux_lemma =>
   have HC3 : Hid (En.credit x l = ({ x with lacks := true }, l)) := HCT.out _ rfl
   clear HCT
   go_wp2_with (go_at_call 22; (with_reducible refine R2.out.mono ?_); rintro e w1 ⟨rfl, rfl⟩)
   go_ret
   exact HEND.out w2 w2 _ _ l T2.out Z2.out Q2.out ⟨S2.out, .inl rfl⟩ (Touch.refl _ _) HC3.out
end
end Go.Proofs.YtnenaemincfgpaaGreat

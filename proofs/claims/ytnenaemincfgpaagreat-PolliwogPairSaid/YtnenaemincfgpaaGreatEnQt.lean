/-
  node.Node: Next. Conditions: the end may be · node.Node: Quiet, Safe. Conditions: what is kept by the sender is as much as is kept.
-/
import Derived.Test.YtnenaemincfgpaaGreatEnNc
import Derived.Test.YtnenaemincfgpaaGreatPrA
set_option maxHeartbeats 1000000
namespace Go.Proofs.YtnenaemincfgpaaGreat
open Go.RowKit

namespace En
end En
section
variable {k : Nat} {D : Nat -> Nat} {w : World} {n cn pc un : Nat} {sp rp : Option Nat} {A B : Option Addr} {ca cb : Nat} {x : En.X}
theorem nnext_any (h : EndIn k D w n cn pc un sp rp A ca B cb x) {hi hi2 : Int} (hf : En.Fit x hi hi2) :
  Calls Tryz.prog 7 #[.pointer (some ⟨n, 0, none⟩)] w (NextPost k D w n (En.next x)) := by
 have hl := hf.ctl
 unfold En.next
 split
 ·rename_i u r hc
  exact nnext_ctl h u r hc (by rw [hc, List.length_cons] at hl; omega)
 ·rename_i hc
  split
  ·rename_i u r hu
   exact nnext_unit h hc u r hu
  ·rename_i hu
   split
   ·rename_i he
    exact nnext_none h hc hu he
   ·rename_i s r he
    obtain ⟨hs, hr⟩ := hf.ep _ he
    by_cases hst : x.stat = true
    ·rw [if_pos hst]
     exact nnext_stat h hc hu he hr hst
    ·rw [if_neg hst]
     have hst := Bool.eq_false_iff.2 hst
     by_cases hg : (Rf.gap r).2.2.2 = true
     ·simp only [hg, if_true]
      exact nnext_gap h hc hu he hr hst hg
     ·have hg' := Bool.eq_false_iff.2 hg
      have := nnext_rest h hc hu he hs hr hst hg'
      simp only [hg', Bool.false_eq_true, if_false]
      exact this
end
set_option maxRecDepth 20000

section
variable {k : Nat} {D : Nat -> Nat} {w : World} {n cn pc un : Nat} {sp rp : Option Nat} {A B : Option Addr} {ca cb : Nat} {x : En.X}
theorem nquiet_any (h : EndIn k D w n cn pc un sp rp A ca B cb x) (hl : ∀ e, x.ep = some e -> e.1.last.length = e.1.kept.length) :
  Calls Tryz.prog 13 #[.pointer (some ⟨n, 0, none⟩)] w fun e w' => e = .returned (.bool (En.quiet x)) ∧ Fresh w w' := by
 have c15 : w.cell? ⟨n, 15, none⟩ = some (.slice A x.ctl.length ca) := h.b.1.cell 15
 have c16 : w.cell? ⟨n, 16, none⟩ = some (.pointer (some ⟨un, 0, none⟩)) := h.b.1.cell 16
 have c17 : w.cell? ⟨n, 17, none⟩ = some (.bool x.poll) := h.b.1.cell 17
 have c18 : w.cell? ⟨n, 18, none⟩ = some (.bool x.stat) := h.b.1.cell 18
 obtain ⟨rb, hr, -, -⟩ := h.u
 have HL := lh (ringPdu_len un rb _ x.units w hr)
 have HRD := lh (nready_any h)
 have HIQ := lh (nidle_any h hl)
 have H := lh h
 have HQ : Hid (En.quiet x = (decide (x.ctl.length = 0) && decide (x.units.length = 0) && !x.poll && !x.stat && match x.ep with
 |none => true
 |some e => En.sIdle e.1 && decide (e.2.gaps.length = 0))) := rfl
 clear h hr hl
 generalize En.quiet x = Z at HQ ⊢
 obtain ⟨nc, hnc⟩ := qx x.ctl.length
 obtain ⟨nu, hnu⟩ := qx x.units.length
 obtain ⟨pl, hpl⟩ := qx x.poll
 obtain ⟨st, hst⟩ := qx x.stat
 rw [hnc, hnu, hpl, hst] at HQ
 rw [hnc] at c15
 rw [hnu] at HL
 rw [hpl] at c17
 rw [hst] at c18
 clear hnc hnu hpl hst
 by_cases h1 : nc = 0
 case neg =>
  have h1c : (0 : Int) < (nc : Int) := by omega
  have hz : Z = false := HQ.out.trans (by simp [h1])
  subst hz
  clear HQ H HIQ HRD
  go_enter Tryz.func13, Tryz.ntmps13
  go_wp2
  go_ret
  exact ⟨rfl, Touch.refl _ _⟩
 case pos =>
 subst h1
 by_cases h2 : nu = 0
 case neg =>
  have h2c : (0 : Int) < (nu : Int) := by omega
  have hz : Z = false := HQ.out.trans (by simp [h2])
  subst hz
  clear HQ H HIQ HRD
  go_enter Tryz.func13, Tryz.ntmps13
  go_wp2_with (go_at_call 36; (with_reducible refine HL.out.mono ?_); rintro e w1 ⟨rfl, rfl⟩)
  go_ret
  exact ⟨rfl, Touch.refl _ _⟩
 case pos =>
 subst h2
 by_cases h3 : (pl || st) = true
 case pos =>
  have hz : Z = false := HQ.out.trans (by cases pl <;> cases st <;> simp_all)
  subst hz
  clear HQ H HIQ HRD
  cases pl <;> cases st
  ·cases h3
  all_goals
   clear h3
   go_enter Tryz.func13, Tryz.ntmps13
   go_wp2_with (go_at_call 36; (with_reducible refine HL.out.mono ?_); rintro e w1 ⟨rfl, rfl⟩)
   go_ret
   exact ⟨rfl, Touch.refl _ _⟩
 case neg =>
 cases pl
 case true => exact absurd rfl h3
 cases st
 case true => exact absurd rfl h3
 clear h3
 cases he : x.ep with
 |none =>
  have hz : Z = true := HQ.out.trans (by rw [he]; rfl)
  subst hz
  rw [he] at HRD
  clear HQ H HIQ he
  go_enter Tryz.func13, Tryz.ntmps13
  go_wp2_with (first
   |(go_at_call 36; (with_reducible refine HL.out.mono ?_); rintro e w1 ⟨rfl, rfl⟩)
   |(go_at_call 22; (with_reducible refine HRD.out.mono ?_); rintro e w1 ⟨rfl, rfl⟩))
  go_ret
  exact ⟨rfl, Touch.refl _ _⟩
 |some e =>
  obtain ⟨s, r⟩ := e
  obtain ⟨p, q, rfl, rfl, -, ⟨F, hrv, -⟩⟩ := H.out.ep_some he
  have hi : En.idle x = En.sIdle s := by unfold En.idle; rw [he]
  rw [hi] at HIQ
  rw [he] at HRD
  have HZ : Hid (Z = (En.sIdle s && decide (r.gaps.length = 0))) := HQ.out.trans (by rw [he]; rfl)
  have c14 : ∀ m, (w.drewN m).cell? ⟨n, 14, none⟩ = some (.pointer (some ⟨q, 0, none⟩)) := fun m => (((Touch.refl (fun _ => False) w).drewN m).blk H.out.b.1 (fun e => e)).cell 14
  have HC14 := lh c14
  have HRV : Hid (∀ m, Calls Tryz.prog 38 #[.pointer (some ⟨q, 0, none⟩)] (w.drewN m) fun e w' => e = .returned (Rv.varsV (Rf.prog r)) ∧ Fresh (w.drewN m) w') := fun m => rvars_any q F _ _ (hrv.old ((Touch.refl _ w).drewN m))
  have HV5 : Hid (∀ W, (Instr.field 51 (Rv.varsV (Rf.prog r)) 5).run Tryz.prog W = .ok (.int .i64 (r.gaps.length : Int)) W) := fun W => by
   have e0 : (Rf.prog r).gaps.length = r.gaps.length := by show (Rf.pg r.gaps).length = _; simp [Rf.pg]
   show _ = _
   rw [<- e0]
   kernel_rfl
  generalize Rv.varsV (Rf.prog r) = VV at *
  clear HQ H he hi hrv c14
  generalize En.sIdle s = si at *
  cases si with
  |false =>
   have hz : Z = false := HZ.out.trans rfl
   subst hz
   clear HZ HRV HV5 HC14
   go_enter Tryz.func13, Tryz.ntmps13
   go_wp2_with (first
    |(go_at_call 36; (with_reducible refine HL.out.mono ?_); rintro e w1 ⟨rfl, rfl⟩)
    |(go_at_call 22; (with_reducible refine HRD.out.mono ?_); rintro e w1 ⟨rfl, rfl⟩)
    |(go_at_call 28; (with_reducible refine HIQ.out.mono ?_); rintro e w2 ⟨rfl, m, rfl⟩))
   go_ret
   exact ⟨rfl, (Touch.refl _ _).drewN m⟩
  |true =>
   have HZ2 : Hid (Z = decide (r.gaps.length = 0)) := HZ.out.trans (Bool.true_and _)
   clear HZ
   go_enter Tryz.func13, Tryz.ntmps13
   go_wp2_with (first
    |(go_at_call 36; (with_reducible refine HL.out.mono ?_); rintro e w1 ⟨rfl, rfl⟩)
    |(go_at_call 22; (with_reducible refine HRD.out.mono ?_); rintro e w1 ⟨rfl, rfl⟩)
    |(go_at_call 28; (with_reducible refine HIQ.out.mono ?_); rintro e w2 ⟨rfl, m, rfl⟩; have a14 := HC14.out m)
    |(go_at_call 38; (with_reducible refine (HRV.out m).mono ?_); rintro e w3 ⟨rfl, f3⟩; have hv5 := HV5.out w3))
   go_ret
   have hg0 : ((r.gaps.length : Int) == 0) = decide (r.gaps.length = 0) := by
    rw [Bool.eq_iff_iff, beq_iff_eq, decide_eq_true_eq]
    omega
   exact ⟨by rw [HZ2.out, <- hg0]; rfl, ((Touch.refl _ _).drewN m).trans f3 (fun _ _ e => e)⟩
end
end Go.Proofs.YtnenaemincfgpaaGreat

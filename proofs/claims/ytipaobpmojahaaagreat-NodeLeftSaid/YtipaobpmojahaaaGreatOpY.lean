/-
  node.Node: Next where no status is due and of no gap is to be told. Conditions: the end may be · node.Node: Next. Conditions: the end may be · node.Node: Quiet, Safe. Conditions: what is kept by the sender is as much as is kept · An end that a BGN reaches, that accepts it, and sends its answer, plain. Its ticks are as they may be. No program is named.
-/
import Derived.Test.YtipaobpmojahaaaGreatEnNc
import Derived.Test.YtipaobpmojahaaaGreatEnZk
import Derived.Test.YtipaobpmojahaaaGreatEnR
import Derived.Test.YtipaobpmojahaaaGreatEvD
import Derived.BigRegion
import Derived.Test.YtipaobpmojahaaaGreatRf15
set_option maxHeartbeats 1000000
namespace Go.Proofs.YtipaobpmojahaaaGreat
open Go.RowKit
section
variable {k : Nat} {D : Nat -> Nat} {w : World} {n cn pc un : Nat} {sp rp : Option Nat} {A B : Option Addr} {ca cb : Nat} {x : En.X}
theorem nnext_lite (h : EndIn k D w n cn pc un sp rp A ca B cb x) {hi hi2 : Int} (hf : En.Fit x hi hi2) (hl : ∀ s r, x.ep = some (s, r) -> x.stat = false ∧ r.gaps = [] ∧ ∀ p F W, SendAt W p F (Sf.prog s) -> Calls Tryz.prog 43 #[.pointer (some ⟨p, 0, none⟩)] W (SNext W p F s)) :
  Calls Tryz.prog 14 #[.pointer (some ⟨n, 0, none⟩)] w (NextPost k D w n (En.next x)) := by
 have h1 := hf.ctl
 cases hc : x.ctl with
 |cons u r =>
  have e : En.next x = ({ x with ctl := r }, some (u, [])) := by unfold En.next; rw [hc]
  rw [e]
  exact nnext_ctl h u r hc (by rw [hc, List.length_cons] at h1; omega)
 |nil =>
  cases hu : x.units with
  |cons u r =>
   have e : En.next x = ({ x with units := r }, some (u, [])) := by unfold En.next; rw [hc, hu]
   rw [e]
   exact nnext_unit h hc u r hu
  |nil =>
   cases he : x.ep with
   |none =>
    have e : En.next x = (x, none) := by unfold En.next; rw [hc, hu, he]
    rw [e]
    exact nnext_none h hc hu he
   |some e =>
    obtain ⟨s, r⟩ := e
    obtain ⟨g1, g2, g3⟩ := hl s r he
    exact nnext_calm h hc hu he (hf.ep _ he).1 g1 g2 g3
end

theorem Rf.Ok.gapL {x : Rf.S} {lo hi : Int} (h : Rf.Ok x lo hi) : ∀ gs : List (Int × Int), (∀ g ∈ gs, g ∈ x.gaps) -> gs.length <= 8 -> Rf.Ok (Rf.gapL x gs).1 lo hi
 |[], _, _ => h.gapless [] (fun _ e => nomatch e) (by decide)
 |g :: r, h1, h2 => by
  unfold Rf.gapL
  have h3 : ∀ g ∈ r, g ∈ x.gaps := fun g' e => h1 g' (by simp [e])
  have h4 : r.length <= 8 := by simp only [List.length_cons] at h2; omega
  split
  ·exact (h.gapless r h3 h4).renew.2
  ·exact gapL h r h3 h4
theorem Rf.Ok.gap {x : Rf.S} {lo hi : Int} (h : Rf.Ok x lo hi) : Rf.Ok (Rf.gap x).1 lo hi := Rf.Ok.gapL h x.gaps (fun _ e => e) h.glen
namespace En
theorem next_ok {x : X} {hi hi2 : Int} (h : Fit x hi hi2) (hh : hi + 1 - x.c.start % 16777216 <= 4000) : Fit (next x).1 (hi + 1) hi2 := by
 have hm : ∀ {y : X}, Fit y hi hi2 -> y.c = x.c -> Fit y (hi + 1) hi2 := fun hy e => hy.mono (by omega) (Int.le_refl _) (by rw [e]; exact hh) (by rw [e]; exact h.b2.2)
 have b1 := h.b1
 unfold next
 split
 ·rename_i u r hc
  have hn := h.nd
  have hk := h.ks
  rw [hc] at hn hk
  exact hm ⟨(List.nodup_cons.1 hn).2, fun v hv => hk v (by simp [hv]), h.b1, h.b2, h.ep, h.st⟩ rfl
 ·split
  ·exact hm ⟨h.nd, h.ks, h.b1, h.b2, h.ep, h.st⟩ rfl
  ·split
   ·exact hm h rfl
   ·rename_i s r he
    have h0 : x.ep.isSome = true := by rw [he]; rfl
    obtain ⟨hs, hr⟩ := h.ep _ he
    have go : ∀ {y : X} (e : Sf.S × Rf.S), y.ctl = x.ctl -> y.c = x.c -> y.conn = x.conn -> y.ep = some e -> Sf.Ok e.1 (x.c.start % 16777216) (hi + 1) -> Rf.Ok e.2 (x.c.start % 16777216) hi2 -> Fit y (hi + 1) hi2 := fun {y} e e1 e2 e3 e4 e5 e6 =>
     (hm h rfl : Fit x (hi + 1) hi2).parts e h0 e1 e2 e3 e4 e5 e6 (Int.le_refl _) h.b2.2
    have hs1 : Sf.Ok s (x.c.start % 16777216) (hi + 1) := hs.mono (by omega) hh
    split
    ·exact go (s, Rf.renew r) rfl rfl rfl rfl hs1 hr.renew.2
    ·dsimp only
     split
     ·exact go (s, (Rf.gap r).1) rfl rfl rfl rfl hs1 hr.gap
     ·split
      ·exact go (Sf.poll s, (Rf.gap r).1) rfl rfl rfl rfl (hs.poll hh) hr.gap
      ·exact go ((Sf.next s).1, (Rf.gap r).1) rfl rfl rfl rfl (hs.next hh) hr.gap
end En
set_option maxRecDepth 20000

section
variable {k : Nat} {D : Nat -> Nat} {w : World} {n cn pc un : Nat} {sp rp : Option Nat} {A B : Option Addr} {ca cb : Nat} {x : En.X}
theorem nquiet_any (h : EndIn k D w n cn pc un sp rp A ca B cb x) (hl : ∀ e, x.ep = some e -> e.1.last.length = e.1.kept.length) :
  Calls Tryz.prog 18 #[.pointer (some ⟨n, 0, none⟩)] w fun e w' => e = .returned (.bool (En.quiet x)) ∧ Fresh w w' := by
 have c15 : w.cell? ⟨n, 15, none⟩ = some (.slice A x.ctl.length ca) := h.b.1.cell 15
 have c16 : w.cell? ⟨n, 16, none⟩ = some (.pointer (some ⟨un, 0, none⟩)) := h.b.1.cell 16
 have c17 : w.cell? ⟨n, 17, none⟩ = some (.bool x.poll) := h.b.1.cell 17
 have c18 : w.cell? ⟨n, 18, none⟩ = some (.bool x.stat) := h.b.1.cell 18
 obtain ⟨rb, hr, -, -⟩ := h.u
 have HL := lh (ringPdu_len un rb _ x.units w hr)
 have HRD := lh (nready_any h)
 have HIQ := lh (nidle_any h hl)
 have H := lh h
 have HQ : Hid (En.quiet x = (decide (x.ctl.length = 0) && decide (x.units.length = 0) && !x.poll && !x.stat && match x.ep with
 |none => true
 |some e => En.sIdle e.1 && decide (e.2.gaps.length = 0))) := rfl
 clear h hr hl
 generalize En.quiet x = Z at HQ ⊢
 obtain ⟨nc, hnc⟩ := qx x.ctl.length
 obtain ⟨nu, hnu⟩ := qx x.units.length
 obtain ⟨pl, hpl⟩ := qx x.poll
 obtain ⟨st, hst⟩ := qx x.stat
 rw [hnc, hnu, hpl, hst] at HQ
 rw [hnc] at c15
 rw [hnu] at HL
 rw [hpl] at c17
 rw [hst] at c18
 clear hnc hnu hpl hst
 by_cases h1 : nc = 0
 case neg =>
  have h1c : (0 : Int) < (nc : Int) := by omega
  have hz : Z = false := HQ.out.trans (by simp [h1])
  subst hz
  clear HQ H HIQ HRD
  go_enter Tryz.func18, Tryz.ntmps18
  go_wp2
  go_ret
  exact ⟨rfl, Touch.refl _ _⟩
 case pos =>
 subst h1
 by_cases h2 : nu = 0
 case neg =>
  have h2c : (0 : Int) < (nu : Int) := by omega
  have hz : Z = false := HQ.out.trans (by simp [h2])
  subst hz
  clear HQ H HIQ HRD
  go_enter Tryz.func18, Tryz.ntmps18
  go_wp2_with (go_at_call 44; (with_reducible refine HL.out.mono ?_); rintro e w1 ⟨rfl, rfl⟩)
  go_ret
  exact ⟨rfl, Touch.refl _ _⟩
 case pos =>
 subst h2
 by_cases h3 : (pl || st) = true
 case pos =>
  have hz : Z = false := HQ.out.trans (by cases pl <;> cases st <;> simp_all)
  subst hz
  clear HQ H HIQ HRD
  cases pl <;> cases st
  ·cases h3
  all_goals
   clear h3
   go_enter Tryz.func18, Tryz.ntmps18
   go_wp2_with (go_at_call 44; (with_reducible refine HL.out.mono ?_); rintro e w1 ⟨rfl, rfl⟩)
   go_ret
   exact ⟨rfl, Touch.refl _ _⟩
 case neg =>
 cases pl
 case true => exact absurd rfl h3
 cases st
 case true => exact absurd rfl h3
 clear h3
 cases he : x.ep with
 |none =>
  have hz : Z = true := HQ.out.trans (by rw [he]; rfl)
  subst hz
  rw [he] at HRD
  clear HQ H HIQ he
  go_enter Tryz.func18, Tryz.ntmps18
  go_wp2_with (first
   |(go_at_call 44; (with_reducible refine HL.out.mono ?_); rintro e w1 ⟨rfl, rfl⟩)
   |(go_at_call 36; (with_reducible refine HRD.out.mono ?_); rintro e w1 ⟨rfl, rfl⟩))
  go_ret
  exact ⟨rfl, Touch.refl _ _⟩
 |some e =>
  obtain ⟨s, r⟩ := e
  obtain ⟨p, q, rfl, rfl, -, ⟨F, hrv, -⟩⟩ := H.out.ep_some he
  have hi : En.idle x = En.sIdle s := by unfold En.idle; rw [he]
  rw [hi] at HIQ
  rw [he] at HRD
  have HZ : Hid (Z = (En.sIdle s && decide (r.gaps.length = 0))) := HQ.out.trans (by rw [he]; rfl)
  have c14 : ∀ m, (w.drewN m).cell? ⟨n, 14, none⟩ = some (.pointer (some ⟨q, 0, none⟩)) := fun m => (((Touch.refl (fun _ => False) w).drewN m).blk H.out.b.1 (fun e => e)).cell 14
  have HC14 := lh c14
  have HRV : Hid (∀ m, Calls Tryz.prog 46 #[.pointer (some ⟨q, 0, none⟩)] (w.drewN m) fun e w' => e = .returned (Rv.varsV (Rf.prog r)) ∧ Fresh (w.drewN m) w') := fun m => rvars_any q F _ _ (hrv.old ((Touch.refl _ w).drewN m))
  have HV5 : Hid (∀ W, (Instr.field 69 (Rv.varsV (Rf.prog r)) 5).run Tryz.prog W = .ok (.int .i64 (r.gaps.length : Int)) W) := fun W => by
   have e0 : (Rf.prog r).gaps.length = r.gaps.length := by show (Rf.pg r.gaps).length = _; simp [Rf.pg]
   show _ = _
   rw [<- e0]
   kernel_rfl
  generalize Rv.varsV (Rf.prog r) = VV at *
  clear HQ H he hi hrv c14
  generalize En.sIdle s = si at *
  cases si with
  |false =>
   have hz : Z = false := HZ.out.trans rfl
   subst hz
   clear HZ HRV HV5 HC14
   go_enter Tryz.func18, Tryz.ntmps18
   go_wp2_with (first
    |(go_at_call 44; (with_reducible refine HL.out.mono ?_); rintro e w1 ⟨rfl, rfl⟩)
    |(go_at_call 36; (with_reducible refine HRD.out.mono ?_); rintro e w1 ⟨rfl, rfl⟩)
    |(go_at_call 42; (with_reducible refine HIQ.out.mono ?_); rintro e w2 ⟨rfl, m, rfl⟩))
   go_ret
   exact ⟨rfl, (Touch.refl _ _).drewN m⟩
  |true =>
   have HZ2 : Hid (Z = decide (r.gaps.length = 0)) := HZ.out.trans (Bool.true_and _)
   clear HZ
   go_enter Tryz.func18, Tryz.ntmps18
   go_wp2_with (first
    |(go_at_call 44; (with_reducible refine HL.out.mono ?_); rintro e w1 ⟨rfl, rfl⟩)
    |(go_at_call 36; (with_reducible refine HRD.out.mono ?_); rintro e w1 ⟨rfl, rfl⟩)
    |(go_at_call 42; (with_reducible refine HIQ.out.mono ?_); rintro e w2 ⟨rfl, m, rfl⟩; have a14 := HC14.out m)
    |(go_at_call 46; (with_reducible refine (HRV.out m).mono ?_); rintro e w3 ⟨rfl, f3⟩; have hv5 := HV5.out w3))
   go_ret
   have hg0 : ((r.gaps.length : Int) == 0) = decide (r.gaps.length = 0) := by
    rw [Bool.eq_iff_iff, beq_iff_eq, decide_eq_true_eq]
    omega
   exact ⟨by rw [HZ2.out, <- hg0]; rfl, ((Touch.refl _ _).drewN m).trans f3 (fun _ _ e => e)⟩
end
namespace Ope
open En (X Fit)
def gr (c : Nd.C) : Int := (c.start + c.window) % 16777216 % 16777216
def ak (c : Nd.C) : Cn.Pd := ⟨2, 5, gr c, 0, 0, none, 0, 0, false, Cn.no⟩
def x1 (c : Nd.C) (n : Int) : X := ⟨c, ⟨max 1 (min c.most 16), gr c, 3, 0, 5, 0, n, Cn.no⟩, [0, 0, 0, 0, 0], [], [], [], false, false, 0, false, none⟩
def x2 (c : Nd.C) (n : Int) : X := ⟨c, ⟨max 1 (min c.most 16), gr c, 10, 0, 5, 0, n, Cn.no⟩, [0, c.poll, 0, c.silent, 0], [ak c], [], [], false, false, 0, false, some (En.epoch c n)⟩
def x3 (c : Nd.C) (n : Int) : X := ⟨c, ⟨max 1 (min c.most 16), gr c, 10, 0, 5, 0, n, Cn.no⟩, [0, c.poll, 0, c.silent, 0], [], [], [], false, false, 0, false, some (En.epoch c n)⟩
theorem hear5 (c : Nd.C) (n : Int) : En.receive (En.new c) ⟨1, 5, n, 0, 0, none, 0, 0, false, Cn.no⟩ [] = (x1 c n, [Cn.sig 1 false Cn.no]) := by kernel_rfl
theorem opn_wait (s : Sf.S) (m : Int) : (Sf.opn s m).wait = s.wait ∧ (Sf.opn s m).kept = s.kept ∧ (Sf.opn s m).again = s.again ∧ (Sf.opn s m).units = s.units ∧ (Sf.opn s m).polls = s.polls ∧ (Sf.opn s m).most = s.most ∧ (Sf.opn s m).last = s.last := by
 unfold Sf.opn
 split <;> exact ⟨rfl, rfl, rfl, rfl, rfl, rfl, rfl⟩
theorem ask5 (c : Nd.C) (n : Int) : En.ask (x1 c n) 2 Cn.no 0 = (⟨c, ⟨max 1 (min c.most 16), gr c, 10, 0, 5, 0, n, Cn.no⟩, Pc.begin_ [0, 0, 0, 0, 0] c.poll c.silent, [ak c], [], [], false, false, 0, false, some (En.epoch c n)⟩, [], 0) := by kernel_rfl
theorem accept5 {c : Nd.C} (hG : GoodC c.cc c.poll c.keep c.silent c.idle) (n : Int) : En.request (x1 c n) 2 Cn.no 0 = (x2 c n, [], 0) := by
 have e1 : Ev.err 2 Cn.no 0 = 0 := by decide +kernel
 have e2 : Ru.may (x1 c n).conn.state 2 = true := by show Ru.may 3 2 = true; decide +kernel
 have e3 : Pc.begin_ [0, 0, 0, 0, 0] c.poll c.silent = [0, c.poll, 0, c.silent, 0] := by
  have h1 : max 1 (min c.poll 1048576) = c.poll := by have := hG.2.1; omega
  have h2 : max 1 (min c.silent 1048576) = c.silent := by have := hG.2.2.2.1; omega
  simp [Pc.begin_, Pc.end_, Pc.watch, Pc.stops, Tm.stop, Tm.start, Tm.left, h1, h2]
 have e4 : ∀ e : Sf.S × Rf.S, e.1.wait = [] -> (decide (0 < e.1.wait.length) && (e.1.s == e.1.ms)) = false := fun e h => by rw [h]; rfl
 have e5 : (En.epoch c n).1.wait = [] := (opn_wait _ _).1
 unfold En.request
 rw [if_pos e1, if_pos e2, ask5, e3]
 dsimp only
 rw [if_pos rfl]
 have e6 : En.lack (x2 c n) = false := e4 _ e5
 have e7 : En.credit (x2 c n) [] = (x2 c n, []) := by unfold En.credit; rw [e6]; rfl
 show ((En.credit (x2 c n) []).1, (En.credit (x2 c n) []).2, (0 : Int)) = _
 rw [e7]
theorem next5 (c : Nd.C) (n : Int) : En.next (x2 c n) = (x3 c n, some (ak c, [])) := rfl
theorem fit_new {c : Nd.C} : Fit (En.new c) (c.start % 16777216) (c.start % 16777216) :=
 ⟨List.nodup_nil, fun u hu => (by cases hu), by show c.start % 16777216 <= c.start % 16777216 ∧ _ - c.start % 16777216 <= _; omega, by show c.start % 16777216 <= c.start % 16777216 ∧ _ - c.start % 16777216 <= _; omega, fun e he => (by cases he), rfl⟩
theorem fit1 {c : Nd.C} (n : Int) : Fit (x1 c n) (c.start % 16777216) (c.start % 16777216) :=
 ⟨List.nodup_nil, fun u hu => (by cases hu), by show c.start % 16777216 <= c.start % 16777216 ∧ _ - c.start % 16777216 <= _; omega, by show c.start % 16777216 <= c.start % 16777216 ∧ _ - c.start % 16777216 <= _; omega, fun e he => (by cases he), rfl⟩
theorem ok_epoch {c : Nd.C} (n : Int) : Sf.Ok (En.epoch c n).1 (c.start % 16777216) (c.start % 16777216) ∧ Rf.Ok (En.epoch c n).2 (c.start % 16777216) (c.start % 16777216) :=
 ⟨(Sf.Ok.new c.start c.queue c.polls _ (Int.le_refl _) (by omega)).opn n, Rf.Ok.new c.start c.window _ (Int.le_refl _) (by omega)⟩
theorem fit2 {c : Nd.C} (n : Int) : Fit (x2 c n) (c.start % 16777216) (c.start % 16777216) :=
 ⟨by show List.Nodup [(2 : Int)]; simp, fun u hu => (by rw [List.mem_singleton.1 hu]; show (1 : Int) <= 2 ∧ (2 : Int) <= 15; decide), by show c.start % 16777216 <= c.start % 16777216 ∧ _ - c.start % 16777216 <= _; omega, by show c.start % 16777216 <= c.start % 16777216 ∧ _ - c.start % 16777216 <= _; omega, fun e he => (by injection he with he; subst he; exact ok_epoch n), rfl⟩
theorem fit3 {c : Nd.C} (n : Int) : Fit (x3 c n) (c.start % 16777216) (c.start % 16777216) :=
 ⟨List.nodup_nil, fun u hu => (by cases hu), by show c.start % 16777216 <= c.start % 16777216 ∧ _ - c.start % 16777216 <= _; omega, by show c.start % 16777216 <= c.start % 16777216 ∧ _ - c.start % 16777216 <= _; omega, fun e he => (by injection he with he; subst he; exact ok_epoch n), rfl⟩
theorem gap_no {r : Rf.S} (h : r.gaps = []) : (Rf.gap r).2.2.2 = false ∧ (Rf.gap r).1 = r := by
 unfold Rf.gap
 rw [h]
 unfold Rf.gapL
 refine ⟨rfl, ?_⟩
 cases r
 subst h
 rfl
theorem next_no {s : Sf.S} (h : s.wait = []) (h2 : s.again = []) : (Sf.next s).1 = s ∧ (Sf.next s).2.2.2.2 = false := by
 unfold Sf.next
 rw [h2]
 dsimp only
 rw [h]
 exact ⟨rfl, rfl⟩
theorem next_calm {x : X} {s : Sf.S} {r : Rf.S} (hc : x.ctl = []) (hu : x.units = []) (hs : x.stat = false) (hp : x.poll = false) (he : x.ep = some (s, r)) (hg : r.gaps = []) (hw : s.wait = []) (ha : s.again = []) (hl : ¬ s.polls <= s.units) : En.next x = (x, none) := by
 have g1 := gap_no hg
 have g2 := next_no hw ha
 obtain ⟨c, conn, tm, ctl, units, left, poll, stat, asked, lacks, ep⟩ := x
 dsimp only at hc hu hs hp he
 subst hc hu hs hp he
 unfold En.next
 dsimp only
 rw [g1.1, g1.2, g2.1, g2.2, decide_eq_false hl]
 rfl
theorem ask1 (c : Nd.C) : En.request (En.new c) 1 Cn.no 0 = (⟨c, ⟨max 1 (min c.most 16), (c.start + c.window) % 16777216 % 16777216, 2, 1, -1, 1, (c.start + c.window) % 16777216 % 16777216, Cn.no⟩, Tm.start [0, 0, 0, 0, 0] 0 c.cc, [⟨1, 1, (c.start + c.window) % 16777216 % 16777216, 0, 0, none, 0, 0, false, Cn.no⟩], [], [], false, false, 0, false, none⟩, [], 0) := by
 kernel_rfl
end Ope
end Go.Proofs.YtipaobpmojahaaaGreat

/-
  node.Node: Next where no status is due and of no gap is to be told. Conditions: the end may be · node.Node: Next. Conditions: the end may be · node.Node: Quiet, Safe. Conditions: what is kept by the sender is as much as is kept · An end that a BGN reaches, that accepts it, and sends its answer, plain. Its ticks are as they may be. No program is named · An end that hears nothing gives up, plain. Its ticks are as they may be. No program is named.
-/
import Derived.Test.YtipaobpmojahaaaGreatEnNc
import Derived.Test.YtipaobpmojahaaaGreatEnZk
import Derived.Test.YtipaobpmojahaaaGreatEnRq
import Derived.Test.YtipaobpmojahaaaGreatNdP
namespace Go.Proofs.YtipaobpmojahaaaGreat
open Go.RowKit
section
variable {k : Nat} {D : Nat → Nat} {w : World} {n cn pc un : Nat} {sp rp : Option Nat} {A B : Option Addr} {ca cb : Nat} {x : En.X}
theorem nnext_lite (h : EndIn k D w n cn pc un sp rp A ca B cb x) {hi hi2 : Int} (hf : En.Fit x hi hi2) (hl : ∀ s r, x.ep = some (s, r) → x.stat = false ∧ r.gaps = [] ∧ ∀ p F W, SendAt W p F (Sf.prog s) → Calls Tryz.prog 43 #[.pointer (some ⟨p, 0, none⟩)] W (SNext W p F s)) :
    Calls Tryz.prog 14 #[.pointer (some ⟨n, 0, none⟩)] w (NextPost k D w n (En.next x)) := by
  have h1 := hf.ctl
  cases hc : x.ctl with
  | cons u r =>
    have e : En.next x = ({ x with ctl := r }, some (u, [])) := by unfold En.next; rw [hc]
    rw [e]
    exact nnext_ctl h u r hc (by rw [hc, List.length_cons] at h1; omega)
  | nil =>
    cases hu : x.units with
    | cons u r =>
      have e : En.next x = ({ x with units := r }, some (u, [])) := by unfold En.next; rw [hc, hu]
      rw [e]
      exact nnext_unit h hc u r hu
    | nil =>
      cases he : x.ep with
      | none =>
        have e : En.next x = (x, none) := by unfold En.next; rw [hc, hu, he]
        rw [e]
        exact nnext_none h hc hu he
      | some e =>
        obtain ⟨s, r⟩ := e
        obtain ⟨g1, g2, g3⟩ := hl s r he
        exact nnext_calm h hc hu he (hf.ep _ he).1 g1 g2 g3
end

theorem Rf.Ok.gapL {x : Rf.S} {lo hi : Int} (h : Rf.Ok x lo hi) : ∀ gs : List (Int × Int), (∀ g ∈ gs, g ∈ x.gaps) → gs.length ≤ 8 → Rf.Ok (Rf.gapL x gs).1 lo hi
  | [], _, _ => h.gapless [] (fun _ e => nomatch e) (by decide)
  | g :: r, h1, h2 => by
    unfold Rf.gapL
    have h3 : ∀ g ∈ r, g ∈ x.gaps := fun g' e => h1 g' (by simp [e])
    have h4 : r.length ≤ 8 := by simp only [List.length_cons] at h2; omega
    split
    · exact (h.gapless r h3 h4).renew.2
    · exact gapL h r h3 h4
theorem Rf.Ok.gap {x : Rf.S} {lo hi : Int} (h : Rf.Ok x lo hi) : Rf.Ok (Rf.gap x).1 lo hi := Rf.Ok.gapL h x.gaps (fun _ e => e) h.glen
namespace En
theorem next_ok {x : X} {hi hi2 : Int} (h : Fit x hi hi2) (hh : hi + 1 - x.c.start % 16777216 ≤ 4000) : Fit (next x).1 (hi + 1) hi2 := by
  have hm : ∀ {y : X}, Fit y hi hi2 → y.c = x.c → Fit y (hi + 1) hi2 := fun hy e => hy.mono (by omega) (Int.le_refl _) (by rw [e]; exact hh) (by rw [e]; exact h.b2.2)
  have b1 := h.b1
  unfold next
  split
  · rename_i u r hc
    have hn := h.nd
    have hk := h.ks
    rw [hc] at hn hk
    exact hm ⟨(List.nodup_cons.1 hn).2, fun v hv => hk v (by simp [hv]), h.b1, h.b2, h.ep, h.st⟩ rfl
  · split
    · exact hm ⟨h.nd, h.ks, h.b1, h.b2, h.ep, h.st⟩ rfl
    · split
      · exact hm h rfl
      · rename_i s r he
        have h0 : x.ep.isSome = true := by rw [he]; rfl
        obtain ⟨hs, hr⟩ := h.ep _ he
        have go : ∀ {y : X} (e : Sf.S × Rf.S), y.ctl = x.ctl → y.c = x.c → y.conn = x.conn → y.ep = some e → Sf.Ok e.1 (x.c.start % 16777216) (hi + 1) → Rf.Ok e.2 (x.c.start % 16777216) hi2 → Fit y (hi + 1) hi2 := fun {y} e e1 e2 e3 e4 e5 e6 =>
          (hm h rfl : Fit x (hi + 1) hi2).parts e h0 e1 e2 e3 e4 e5 e6 (Int.le_refl _) h.b2.2
        have hs1 : Sf.Ok s (x.c.start % 16777216) (hi + 1) := hs.mono (by omega) hh
        split
        · exact go (s, Rf.renew r) rfl rfl rfl rfl hs1 hr.renew.2
        · dsimp only
          split
          · exact go (s, (Rf.gap r).1) rfl rfl rfl rfl hs1 hr.gap
          · split
            · exact go (Sf.poll s, (Rf.gap r).1) rfl rfl rfl rfl (hs.poll hh) hr.gap
            · exact go ((Sf.next s).1, (Rf.gap r).1) rfl rfl rfl rfl (hs.next hh) hr.gap
end En
set_option maxRecDepth 20000

section
variable {k : Nat} {D : Nat → Nat} {w : World} {n cn pc un : Nat} {sp rp : Option Nat} {A B : Option Addr} {ca cb : Nat} {x : En.X}
theorem nsafe_any (h : EndIn k D w n cn pc un sp rp A ca B cb x) :
    Calls Tryz.prog 19 #[.pointer (some ⟨n, 0, none⟩)] w fun e w' => e = .returned (.bool (Pc.safe x.tm)) ∧ Fresh w w' := by
  have c12 : w.cell? ⟨n, 12, none⟩ = some (.pointer (some ⟨pc, 0, none⟩)) := h.b.1.cell 12
  have HS := Lib.hid (safe_any _ _ _ _ _ _ _ _ h.p.1)
  clear h
  generalize Pc.safe x.tm = z at *
  go_enter Tryz.func19, Tryz.ntmps19
  go_wp2_with (go_at_call 55; (with_reducible refine HS.out.mono ?_); rintro e w1 ⟨rfl, rfl⟩)
  go_ret
  exact ⟨rfl, Touch.refl _ _⟩
set_option maxHeartbeats 1000000 in
theorem nquiet_any (h : EndIn k D w n cn pc un sp rp A ca B cb x) (hl : ∀ e, x.ep = some e → e.1.last.length = e.1.kept.length) :
    Calls Tryz.prog 18 #[.pointer (some ⟨n, 0, none⟩)] w fun e w' => e = .returned (.bool (En.quiet x)) ∧ Fresh w w' := by
  have c15 : w.cell? ⟨n, 15, none⟩ = some (.slice A x.ctl.length ca) := h.b.1.cell 15
  have c16 : w.cell? ⟨n, 16, none⟩ = some (.pointer (some ⟨un, 0, none⟩)) := h.b.1.cell 16
  have c17 : w.cell? ⟨n, 17, none⟩ = some (.bool x.poll) := h.b.1.cell 17
  have c18 : w.cell? ⟨n, 18, none⟩ = some (.bool x.stat) := h.b.1.cell 18
  obtain ⟨rb, hr, -, -⟩ := h.u
  have HL := Lib.hid (ringPdu_len un rb _ x.units w hr)
  have HRD := Lib.hid (nready_any h)
  have HIQ := Lib.hid (nidle_any h hl)
  have H := Lib.hid h
  have HQ : Hid (En.quiet x = (decide (x.ctl.length = 0) && decide (x.units.length = 0) && !x.poll && !x.stat && match x.ep with
  | none => true
  | some e => En.sIdle e.1 && decide (e.2.gaps.length = 0))) := rfl
  clear h hr hl
  generalize En.quiet x = Z at HQ ⊢
  obtain ⟨nc, hnc⟩ : ∃ nc, x.ctl.length = nc := ⟨_, rfl⟩
  obtain ⟨nu, hnu⟩ : ∃ nu, x.units.length = nu := ⟨_, rfl⟩
  obtain ⟨pl, hpl⟩ : ∃ pl, x.poll = pl := ⟨_, rfl⟩
  obtain ⟨st, hst⟩ : ∃ st, x.stat = st := ⟨_, rfl⟩
  rw [hnc, hnu, hpl, hst] at HQ
  rw [hnc] at c15
  rw [hnu] at HL
  rw [hpl] at c17
  rw [hst] at c18
  clear hnc hnu hpl hst
  by_cases h1 : nc = 0
  case neg =>
    have h1c : (0 : Int) < (nc : Int) := by omega
    have hz : Z = false := HQ.out.trans (by simp [h1])
    subst hz
    clear HQ H HIQ HRD
    go_enter Tryz.func18, Tryz.ntmps18
    go_wp2
    go_ret
    exact ⟨rfl, Touch.refl _ _⟩
  case pos =>
  subst h1
  by_cases h2 : nu = 0
  case neg =>
    have h2c : (0 : Int) < (nu : Int) := by omega
    have hz : Z = false := HQ.out.trans (by simp [h2])
    subst hz
    clear HQ H HIQ HRD
    go_enter Tryz.func18, Tryz.ntmps18
    go_wp2_with (go_at_call 44; (with_reducible refine HL.out.mono ?_); rintro e w1 ⟨rfl, rfl⟩)
    go_ret
    exact ⟨rfl, Touch.refl _ _⟩
  case pos =>
  subst h2
  by_cases h3 : (pl || st) = true
  case pos =>
    have hz : Z = false := HQ.out.trans (by cases pl <;> cases st <;> simp_all)
    subst hz
    clear HQ H HIQ HRD
    cases pl <;> cases st
    · cases h3
    all_goals
      clear h3
      go_enter Tryz.func18, Tryz.ntmps18
      go_wp2_with (go_at_call 44; (with_reducible refine HL.out.mono ?_); rintro e w1 ⟨rfl, rfl⟩)
      go_ret
      exact ⟨rfl, Touch.refl _ _⟩
  case neg =>
  cases pl
  case true => exact absurd rfl h3
  cases st
  case true => exact absurd rfl h3
  clear h3
  cases he : x.ep with
  | none =>
    have hz : Z = true := HQ.out.trans (by rw [he]; rfl)
    subst hz
    rw [he] at HRD
    clear HQ H HIQ he
    go_enter Tryz.func18, Tryz.ntmps18
    go_wp2_with (first
      | (go_at_call 44; (with_reducible refine HL.out.mono ?_); rintro e w1 ⟨rfl, rfl⟩)
      | (go_at_call 36; (with_reducible refine HRD.out.mono ?_); rintro e w1 ⟨rfl, rfl⟩))
    go_ret
    exact ⟨rfl, Touch.refl _ _⟩
  | some e =>
    obtain ⟨s, r⟩ := e
    obtain ⟨p, q, rfl, rfl, -, ⟨F, hrv, -⟩⟩ := H.out.ep_some he
    have hi : En.idle x = En.sIdle s := by unfold En.idle; rw [he]
    rw [hi] at HIQ
    rw [he] at HRD
    have HZ : Hid (Z = (En.sIdle s && decide (r.gaps.length = 0))) := HQ.out.trans (by rw [he]; rfl)
    have c14 : ∀ m, (w.drewN m).cell? ⟨n, 14, none⟩ = some (.pointer (some ⟨q, 0, none⟩)) := fun m => (((Touch.refl (fun _ => False) w).drewN m).blk H.out.b.1 (fun e => e)).cell 14
    have HC14 := Lib.hid c14
    have HRV : Hid (∀ m, Calls Tryz.prog 46 #[.pointer (some ⟨q, 0, none⟩)] (w.drewN m) fun e w' => e = .returned (Rv.varsV (Rf.prog r)) ∧ Fresh (w.drewN m) w') := fun m => rvars_any q F _ _ (hrv.old ((Touch.refl _ w).drewN m))
    have HV5 : Hid (∀ W, (Instr.field 69 (Rv.varsV (Rf.prog r)) 5).run Tryz.prog W = .ok (.int .i64 (r.gaps.length : Int)) W) := fun W => by
      have e0 : (Rf.prog r).gaps.length = r.gaps.length := by show (Rf.pg r.gaps).length = _; simp [Rf.pg]
      show _ = _
      rw [← e0]
      kernel_rfl
    generalize Rv.varsV (Rf.prog r) = VV at *
    clear HQ H he hi hrv c14
    generalize En.sIdle s = si at *
    cases si with
    | false =>
      have hz : Z = false := HZ.out.trans rfl
      subst hz
      clear HZ HRV HV5 HC14
      go_enter Tryz.func18, Tryz.ntmps18
      go_wp2_with (first
        | (go_at_call 44; (with_reducible refine HL.out.mono ?_); rintro e w1 ⟨rfl, rfl⟩)
        | (go_at_call 36; (with_reducible refine HRD.out.mono ?_); rintro e w1 ⟨rfl, rfl⟩)
        | (go_at_call 42; (with_reducible refine HIQ.out.mono ?_); rintro e w2 ⟨rfl, m, rfl⟩))
      go_ret
      exact ⟨rfl, (Touch.refl _ _).drewN m⟩
    | true =>
      have HZ2 : Hid (Z = decide (r.gaps.length = 0)) := HZ.out.trans (Bool.true_and _)
      clear HZ
      go_enter Tryz.func18, Tryz.ntmps18
      go_wp2_with (first
        | (go_at_call 44; (with_reducible refine HL.out.mono ?_); rintro e w1 ⟨rfl, rfl⟩)
        | (go_at_call 36; (with_reducible refine HRD.out.mono ?_); rintro e w1 ⟨rfl, rfl⟩)
        | (go_at_call 42; (with_reducible refine HIQ.out.mono ?_); rintro e w2 ⟨rfl, m, rfl⟩; have a14 := HC14.out m)
        | (go_at_call 46; (with_reducible refine (HRV.out m).mono ?_); rintro e w3 ⟨rfl, f3⟩; have hv5 := HV5.out w3))
      go_ret
      have hg0 : ((r.gaps.length : Int) == 0) = decide (r.gaps.length = 0) := by
        rw [Bool.eq_iff_iff, beq_iff_eq, decide_eq_true_eq]
        omega
      exact ⟨by rw [HZ2.out, ← hg0]; rfl, ((Touch.refl _ _).drewN m).trans f3 (fun _ _ e => e)⟩
end
namespace Ope
open En (X Fit)
def gr (c : Nd.C) : Int := (c.start + c.window) % 16777216 % 16777216
def ak (c : Nd.C) : Cn.Pd := ⟨2, 5, gr c, 0, 0, none, 0, 0, false, Cn.no⟩
def x1 (c : Nd.C) (n : Int) : X := ⟨c, ⟨max 1 (min c.most 16), gr c, 3, 0, 5, 0, n, Cn.no⟩, [0, 0, 0, 0, 0], [], [], [], false, false, 0, false, none⟩
def x2 (c : Nd.C) (n : Int) : X := ⟨c, ⟨max 1 (min c.most 16), gr c, 10, 0, 5, 0, n, Cn.no⟩, [0, c.poll, 0, c.silent, 0], [ak c], [], [], false, false, 0, false, some (En.epoch c n)⟩
def x3 (c : Nd.C) (n : Int) : X := ⟨c, ⟨max 1 (min c.most 16), gr c, 10, 0, 5, 0, n, Cn.no⟩, [0, c.poll, 0, c.silent, 0], [], [], [], false, false, 0, false, some (En.epoch c n)⟩
theorem hear5 (c : Nd.C) (n : Int) : En.receive (En.new c) ⟨1, 5, n, 0, 0, none, 0, 0, false, Cn.no⟩ [] = (x1 c n, [Cn.sig 1 false Cn.no]) := by kernel_rfl
theorem opn_wait (s : Sf.S) (m : Int) : (Sf.opn s m).wait = s.wait ∧ (Sf.opn s m).kept = s.kept ∧ (Sf.opn s m).again = s.again ∧ (Sf.opn s m).units = s.units ∧ (Sf.opn s m).polls = s.polls ∧ (Sf.opn s m).most = s.most ∧ (Sf.opn s m).last = s.last := by
  unfold Sf.opn
  split <;> exact ⟨rfl, rfl, rfl, rfl, rfl, rfl, rfl⟩
theorem ask5 (c : Nd.C) (n : Int) : En.ask (x1 c n) 2 Cn.no 0 = (⟨c, ⟨max 1 (min c.most 16), gr c, 10, 0, 5, 0, n, Cn.no⟩, Pc.begin_ [0, 0, 0, 0, 0] c.poll c.silent, [ak c], [], [], false, false, 0, false, some (En.epoch c n)⟩, [], 0) := by kernel_rfl
theorem accept5 {c : Nd.C} (hG : GoodC c.cc c.poll c.keep c.silent c.idle) (n : Int) : En.request (x1 c n) 2 Cn.no 0 = (x2 c n, [], 0) := by
  have e1 : Ev.err 2 Cn.no 0 = 0 := by decide +kernel
  have e2 : Ru.may (x1 c n).conn.state 2 = true := by show Ru.may 3 2 = true; decide +kernel
  have e3 : Pc.begin_ [0, 0, 0, 0, 0] c.poll c.silent = [0, c.poll, 0, c.silent, 0] := by
    have h1 : max 1 (min c.poll 1048576) = c.poll := by have := hG.2.1; omega
    have h2 : max 1 (min c.silent 1048576) = c.silent := by have := hG.2.2.2.1; omega
    simp [Pc.begin_, Pc.end_, Pc.watch, Pc.stops, Tm.stop, Tm.start, Tm.left, h1, h2]
  have e4 : ∀ e : Sf.S × Rf.S, e.1.wait = [] → (decide (0 < e.1.wait.length) && (e.1.s == e.1.ms)) = false := fun e h => by rw [h]; rfl
  have e5 : (En.epoch c n).1.wait = [] := (opn_wait _ _).1
  unfold En.request
  rw [if_pos e1, if_pos e2, ask5, e3]
  dsimp only
  rw [if_pos rfl]
  have e6 : En.lack (x2 c n) = false := e4 _ e5
  have e7 : En.credit (x2 c n) [] = (x2 c n, []) := by unfold En.credit; rw [e6]; rfl
  show ((En.credit (x2 c n) []).1, (En.credit (x2 c n) []).2, (0 : Int)) = _
  rw [e7]
theorem next5 (c : Nd.C) (n : Int) : En.next (x2 c n) = (x3 c n, some (ak c, [])) := rfl
theorem fit_new {c : Nd.C} : Fit (En.new c) (c.start % 16777216) (c.start % 16777216) :=
  ⟨List.nodup_nil, fun u hu => (by cases hu), by show c.start % 16777216 ≤ c.start % 16777216 ∧ _ - c.start % 16777216 ≤ _; omega, by show c.start % 16777216 ≤ c.start % 16777216 ∧ _ - c.start % 16777216 ≤ _; omega, fun e he => (by cases he), rfl⟩
theorem fit1 {c : Nd.C} (n : Int) : Fit (x1 c n) (c.start % 16777216) (c.start % 16777216) :=
  ⟨List.nodup_nil, fun u hu => (by cases hu), by show c.start % 16777216 ≤ c.start % 16777216 ∧ _ - c.start % 16777216 ≤ _; omega, by show c.start % 16777216 ≤ c.start % 16777216 ∧ _ - c.start % 16777216 ≤ _; omega, fun e he => (by cases he), rfl⟩
theorem ok_epoch {c : Nd.C} (n : Int) : Sf.Ok (En.epoch c n).1 (c.start % 16777216) (c.start % 16777216) ∧ Rf.Ok (En.epoch c n).2 (c.start % 16777216) (c.start % 16777216) :=
  ⟨(Sf.Ok.new c.start c.queue c.polls _ (Int.le_refl _) (by omega)).opn n, Rf.Ok.new c.start c.window _ (Int.le_refl _) (by omega)⟩
theorem fit2 {c : Nd.C} (n : Int) : Fit (x2 c n) (c.start % 16777216) (c.start % 16777216) :=
  ⟨by show List.Nodup [(2 : Int)]; simp, fun u hu => (by rw [List.mem_singleton.1 hu]; show (1 : Int) ≤ 2 ∧ (2 : Int) ≤ 15; decide), by show c.start % 16777216 ≤ c.start % 16777216 ∧ _ - c.start % 16777216 ≤ _; omega, by show c.start % 16777216 ≤ c.start % 16777216 ∧ _ - c.start % 16777216 ≤ _; omega, fun e he => (by injection he with he; subst he; exact ok_epoch n), rfl⟩
theorem fit3 {c : Nd.C} (n : Int) : Fit (x3 c n) (c.start % 16777216) (c.start % 16777216) :=
  ⟨List.nodup_nil, fun u hu => (by cases hu), by show c.start % 16777216 ≤ c.start % 16777216 ∧ _ - c.start % 16777216 ≤ _; omega, by show c.start % 16777216 ≤ c.start % 16777216 ∧ _ - c.start % 16777216 ≤ _; omega, fun e he => (by injection he with he; subst he; exact ok_epoch n), rfl⟩
theorem gap_no {r : Rf.S} (h : r.gaps = []) : (Rf.gap r).2.2.2 = false ∧ (Rf.gap r).1 = r := by
  unfold Rf.gap
  rw [h]
  unfold Rf.gapL
  refine ⟨rfl, ?_⟩
  cases r
  subst h
  rfl
theorem next_no {s : Sf.S} (h : s.wait = []) (h2 : s.again = []) : (Sf.next s).1 = s ∧ (Sf.next s).2.2.2.2 = false := by
  unfold Sf.next
  rw [h2]
  dsimp only
  rw [h]
  exact ⟨rfl, rfl⟩
/-- Nothing goes out. -/
theorem next_calm {x : X} {s : Sf.S} {r : Rf.S} (hc : x.ctl = []) (hu : x.units = []) (hs : x.stat = false) (hp : x.poll = false) (he : x.ep = some (s, r)) (hg : r.gaps = []) (hw : s.wait = []) (ha : s.again = []) (hl : ¬ s.polls ≤ s.units) : En.next x = (x, none) := by
  have g1 := gap_no hg
  have g2 := next_no hw ha
  obtain ⟨c, conn, tm, ctl, units, left, poll, stat, asked, lacks, ep⟩ := x
  dsimp only at hc hu hs hp he
  subst hc hu hs hp he
  unfold En.next
  dsimp only
  rw [g1.1, g1.2, g2.1, g2.2, decide_eq_false hl]
  rfl
theorem ask1 (c : Nd.C) : En.request (En.new c) 1 Cn.no 0 = (⟨c, ⟨max 1 (min c.most 16), (c.start + c.window) % 16777216 % 16777216, 2, 1, -1, 1, (c.start + c.window) % 16777216 % 16777216, Cn.no⟩, Tm.start [0, 0, 0, 0, 0] 0 c.cc, [⟨1, 1, (c.start + c.window) % 16777216 % 16777216, 0, 0, none, 0, 0, false, Cn.no⟩], [], [], false, false, 0, false, none⟩, [], 0) := by
  kernel_rfl
end Ope
namespace Al
open En (X Fit)
/-- How often it is told that the end let go by itself. -/
def cnt (l : List Cn.Sig) : Nat := (l.filter fun s => s.kind == 3 && s.self).length
theorem cnt_append (l m : List Cn.Sig) : cnt (l ++ m) = cnt l + cnt m := by unfold cnt; rw [List.filter_append, List.length_append]
/-- Something goes out. -/
def mu (x : X) : Nat := 2 * x.ctl.length + (if x.poll then 1 else 0)
def b1 (b : Bool) : Int := if b then 1 else 0
/-- What an end is that hears nothing: it has let go; or it asks, and goes on for m ticks at most; or it is Ready, for m ticks at most. -/
structure G (lo : Int) (x : X) (told m : Nat) : Prop where
  good : GoodC x.c.cc x.c.poll x.c.keep x.c.silent x.c.idle
  st : x.c.start % 16777216 = lo
  un : x.units = []
  sf : x.stat = false
  lk : x.lacks = false
  ways : (x.conn.state = 1 ∧ x.ep = none ∧ x.poll = false ∧ x.tm = [0, 0, 0, 0, 0] ∧ told = 1 ∧ Fit x lo lo)
    ∨ (x.conn.state = 2 ∧ x.ep = none ∧ x.poll = false ∧ told = 0 ∧ Fit x lo lo ∧ ∃ t : Int, x.tm = [t, 0, 0, 0, 0] ∧ 1 ≤ t ∧ x.conn.cc ≤ x.conn.most ∧ (x.conn.most - x.conn.cc) * x.c.cc + t ≤ m)
    ∨ (x.conn.state = 10 ∧ told = 0 ∧ ∃ s r, ∃ a b t hi : Int, x.ep = some (s, r) ∧ s.wait = [] ∧ s.kept = [] ∧ s.again = [] ∧ s.units = 0 ∧ 1 ≤ s.polls ∧ r.gaps = [] ∧ x.tm = [0, a, b, t, 0] ∧ 1 ≤ t ∧ t ≤ m ∧ Fit x hi lo ∧ hi + t + b1 x.poll ≤ lo + 100)
theorem over5 (a b c d e : Int) : Tm.over [a, b, c, d, e] = (if a = 1 then [0] else []) ++ (if b = 1 then [1] else []) ++ (if c = 1 then [2] else []) ++ (if d = 1 then [3] else []) ++ (if e = 1 then [4] else []) := by
  by_cases ha : a = 1 <;> by_cases hb : b = 1 <;> by_cases hc : c = 1 <;> by_cases hd : d = 1 <;> by_cases he : e = 1 <;> simp [Tm.over, Tm.overTo, List.range_succ, ha, hb, hc, hd, he]
theorem Fit.low {x : X} {hi hi2 lo : Int} (h : Fit x hi hi2) (he : x.ep = none) (hl : x.c.start % 16777216 = lo) : Fit x lo lo :=
  ⟨h.nd, h.ks, by rw [hl]; omega, by rw [hl]; omega, fun e h2 => (by rw [he] at h2; cases h2), h.st⟩
section
variable (c : Nd.C) (most credit sq peer cc ms asked : Int) (data : ByteArray) (tm : List Int) (ctl units : List Cn.Pd) (left : List ByteArray) (poll stat lacks : Bool)
theorem tick_idle : En.tick ⟨c, ⟨most, credit, 1, sq, peer, cc, ms, data⟩, [0, 0, 0, 0, 0], ctl, units, left, false, stat, asked, false, none⟩ = (⟨c, ⟨most, credit, 1, sq, peer, cc, ms, data⟩, [0, 0, 0, 0, 0], ctl, units, left, false, stat, asked, false, none⟩, []) := by kernel_rfl
theorem due_again (h : cc < most) (e : Option (Sf.S × Rf.S)) : ∃ u, En.due ⟨c, ⟨most, credit, 2, sq, peer, cc, ms, data⟩, tm, ctl, units, left, poll, stat, asked, lacks, e⟩ 0 = (⟨c, ⟨most, credit, 2, sq, peer, cc + 1, ms, data⟩, Tm.start tm 0 c.cc, En.ctl1 ctl u, units, left, poll, stat, asked, lacks, e⟩, []) := by
  have hx : Cn.expireS ⟨most, credit, 2, sq, peer, cc, ms, data⟩ = Cn.again (⟨most, credit, 2, sq, peer, cc + 1, ms, data⟩, Cn.r0) := by
    unfold Cn.expireS Cn.expire
    rw [if_pos (.inl rfl), if_pos h]
  refine ⟨Cn.crd ⟨most, credit, 2, sq, peer, cc + 1, ms, data⟩ (Cn.unit_ 1 sq false data), ?_⟩
  show En.brought _ (Cn.expireS ⟨most, credit, 2, sq, peer, cc, ms, data⟩) = _
  rw [hx]
  rfl
theorem due_gone (h : ¬ cc < most) (e : Option (Sf.S × Rf.S)) : ∃ u, En.due ⟨c, ⟨most, credit, 2, sq, peer, cc, ms, data⟩, tm, ctl, units, left, poll, stat, asked, lacks, e⟩ 0 = (⟨c, ⟨most, credit, 1, sq, peer, cc, ms, data⟩, Tm.stop tm 0, En.ctl1 ctl u, units, left, poll, stat, asked, lacks, e⟩, [⟨12, Cn.no, false, 79, 0⟩, ⟨3, Cn.no, true, 0, 0⟩]) := by
  have hx : Cn.expireS ⟨most, credit, 2, sq, peer, cc, ms, data⟩ = Cn.stop (Cn.tell (Cn.quit (Cn.report (⟨most, credit, 2, sq, peer, cc, ms, data⟩, Cn.r0) 79)) (Cn.sig 3 true Cn.no)) 1 := by
    unfold Cn.expireS Cn.expire
    rw [if_pos (.inl rfl), if_neg h]
    rfl
  refine ⟨Cn.unit_ 3 sq true Cn.no, ?_⟩
  show En.brought _ (Cn.expireS ⟨most, credit, 2, sq, peer, cc, ms, data⟩) = _
  rw [hx]
  rfl
theorem due_silent (e : Sf.S × Rf.S) : ∃ u l, En.due ⟨c, ⟨most, credit, 10, sq, peer, cc, ms, data⟩, tm, ctl, units, left, poll, stat, asked, lacks, some e⟩ 3 = (⟨c, ⟨most, credit, 1, sq, peer, cc, ms, data⟩, Pc.end_ tm, En.ctl1 ctl u, units, l, false, false, asked, lacks, none⟩, [⟨12, Cn.no, false, 80, 0⟩, ⟨3, Cn.no, true, 0, 0⟩]) :=
  ⟨Cn.unit_ 3 sq true Cn.no, e.1.kept ++ e.1.wait, rfl⟩
end
theorem start_clamp {x : Int} (h : 1 ≤ x ∧ x ≤ 41) : max 1 (min x 1048576) = x := by omega
theorem G.tick {lo : Int} {x : X} {told m : Nat} (h : G lo x told m) : G lo (En.tick x).1 (told + cnt (En.tick x).2) (m - 1) := by
  have hf : ∀ hi hi2, Fit x hi hi2 → Fit (En.tick x).1 hi hi2 := fun hi hi2 h => En.tick_ok h
  obtain ⟨hg, hst, hun, hsf, hlk, hw⟩ := h
  obtain ⟨c, ⟨most, credit, state, sq, peer, cc, ms, data⟩, tm, ctl, units, left, poll, stat, asked, lacks, ep⟩ := x
  dsimp only at hg hst hun hsf hlk hw
  subst hun hsf hlk
  rcases hw with ⟨rfl, rfl, rfl, rfl, rfl, h6⟩ | ⟨rfl, rfl, rfl, rfl, h6, t, rfl, ht, hcc, hm⟩ | ⟨rfl, rfl, s, r, a, b, t, hi, rfl, h1, h2, h3, h4, h5, h6, rfl, ht, htm, hF, hhi⟩
  · have hq := hf _ _ h6
    rw [tick_idle] at hq ⊢
    exact ⟨hg, hst, rfl, rfl, rfl, .inl ⟨rfl, rfl, rfl, rfl, rfl, hq⟩⟩
  · have hq := hf _ _ h6
    have hc := hg.1
    by_cases h1 : t = 1
    · subst h1
      have ho : Tm.over [(1 : Int), 0, 0, 0, 0] = [0] := by rw [over5]; rfl
      have hto : Tm.tick [(1 : Int), 0, 0, 0, 0] = [0, 0, 0, 0, 0] := rfl
      by_cases hlt : cc < most
      · obtain ⟨u, hu⟩ := due_again c most credit sq peer cc ms asked data [0, 0, 0, 0, 0] ctl [] left false false false hlt none
        have e : En.tick ⟨c, ⟨most, credit, 2, sq, peer, cc, ms, data⟩, [1, 0, 0, 0, 0], ctl, [], left, false, false, asked, false, none⟩ = (⟨c, ⟨most, credit, 2, sq, peer, cc + 1, ms, data⟩, [c.cc, 0, 0, 0, 0], En.ctl1 ctl u, [], left, false, false, asked, false, none⟩, []) := by
          unfold En.tick
          dsimp only
          rw [ho, hto]
          unfold En.dues
          dsimp only
          rw [hu]
          have e2 : Tm.start [0, 0, 0, 0, 0] 0 c.cc = [c.cc, 0, 0, 0, 0] := by
            show [max 1 (min c.cc 1048576), 0, 0, 0, 0] = _
            rw [start_clamp hc]
          rw [e2]
          rfl
        rw [e] at hq ⊢
        refine ⟨hg, hst, rfl, rfl, rfl, .inr (.inl ⟨rfl, rfl, rfl, rfl, hq, c.cc, rfl, hc.1, by show cc + 1 ≤ most; omega, ?_⟩)⟩
        show (most - (cc + 1)) * c.cc + c.cc ≤ ((m - 1 : Nat) : Int)
        have e3 : (most - cc) * c.cc = (most - (cc + 1)) * c.cc + c.cc := by
          rw [show most - cc = most - (cc + 1) + 1 by omega, Int.add_mul, Int.one_mul]
        have hm' : (most - cc) * c.cc + 1 ≤ (m : Int) := hm
        have : (0 : Int) ≤ (most - (cc + 1)) * c.cc := Int.mul_nonneg (by omega) (by omega)
        omega
      · obtain ⟨u, hu⟩ := due_gone c most credit sq peer cc ms asked data [0, 0, 0, 0, 0] ctl [] left false false false hlt none
        have e : En.tick ⟨c, ⟨most, credit, 2, sq, peer, cc, ms, data⟩, [1, 0, 0, 0, 0], ctl, [], left, false, false, asked, false, none⟩ = (⟨c, ⟨most, credit, 1, sq, peer, cc, ms, data⟩, [0, 0, 0, 0, 0], En.ctl1 ctl u, [], left, false, false, asked, false, none⟩, [⟨12, Cn.no, false, 79, 0⟩, ⟨3, Cn.no, true, 0, 0⟩]) := by
          unfold En.tick
          dsimp only
          rw [ho, hto]
          unfold En.dues
          dsimp only
          rw [hu]
          rfl
        rw [e] at hq ⊢
        exact ⟨hg, hst, rfl, rfl, rfl, .inl ⟨rfl, rfl, rfl, rfl, rfl, hq⟩⟩
    · have ho : Tm.over [t, 0, 0, 0, 0] = [] := by rw [over5, if_neg h1]; rfl
      have hto : Tm.tick [t, 0, 0, 0, 0] = [t - 1, 0, 0, 0, 0] := by
        show [Tm.dec t, 0, 0, 0, 0] = _
        unfold Tm.dec
        rw [if_neg (by omega)]
      have e : En.tick ⟨c, ⟨most, credit, 2, sq, peer, cc, ms, data⟩, [t, 0, 0, 0, 0], ctl, [], left, false, false, asked, false, none⟩ = (⟨c, ⟨most, credit, 2, sq, peer, cc, ms, data⟩, [t - 1, 0, 0, 0, 0], ctl, [], left, false, false, asked, false, none⟩, []) := by
        unfold En.tick
        dsimp only
        rw [ho, hto]
        rfl
      rw [e] at hq ⊢
      refine ⟨hg, hst, rfl, rfl, rfl, .inr (.inl ⟨rfl, rfl, rfl, rfl, hq, t - 1, rfl, by omega, hcc, ?_⟩)⟩
      show (most - cc) * c.cc + (t - 1) ≤ ((m - 1 : Nat) : Int)
      have hm' : (most - cc) * c.cc + t ≤ (m : Int) := hm
      have : (0 : Int) ≤ (most - cc) * c.cc := Int.mul_nonneg (by omega) (by omega)
      omega
  · have hq := hf _ _ hF
    have hto : Tm.tick [0, a, b, t, 0] = [0, Tm.dec a, Tm.dec b, t - 1, 0] := by
      show [0, Tm.dec a, Tm.dec b, Tm.dec t, 0] = _
      congr 4
      unfold Tm.dec
      rw [if_neg (by omega)]
    by_cases h10 : t = 1
    · subst h10
      have key : ∀ (p : Bool), ∃ u l, En.dues [3] (⟨c, ⟨most, credit, 10, sq, peer, cc, ms, data⟩, [0, Tm.dec a, Tm.dec b, 0, 0], ctl, [], left, p, false, asked, false, some (s, r)⟩, []) = (⟨c, ⟨most, credit, 1, sq, peer, cc, ms, data⟩, [0, 0, 0, 0, 0], En.ctl1 ctl u, [], l, false, false, asked, false, none⟩, [⟨12, Cn.no, false, 80, 0⟩, ⟨3, Cn.no, true, 0, 0⟩]) := fun p => by
        obtain ⟨u, l, hu⟩ := due_silent c most credit sq peer cc ms asked data [0, Tm.dec a, Tm.dec b, 0, 0] ctl [] left p false false (s, r)
        refine ⟨u, l, ?_⟩
        unfold En.dues
        dsimp only
        rw [hu]
        rfl
      have e : ∃ u l, En.tick ⟨c, ⟨most, credit, 10, sq, peer, cc, ms, data⟩, [0, a, b, 1, 0], ctl, [], left, poll, false, asked, false, some (s, r)⟩ = (⟨c, ⟨most, credit, 1, sq, peer, cc, ms, data⟩, [0, 0, 0, 0, 0], En.ctl1 ctl u, [], l, false, false, asked, false, none⟩, [⟨12, Cn.no, false, 80, 0⟩, ⟨3, Cn.no, true, 0, 0⟩]) := by
        unfold En.tick
        dsimp only
        rw [hto, over5]
        by_cases ha : a = 1 <;> by_cases hb : b = 1
        all_goals
          first | rw [if_pos ha] | rw [if_neg ha]
          first | rw [if_pos hb] | rw [if_neg hb]
        · obtain ⟨u, l, hu⟩ := key (poll || true || true)
          refine ⟨u, l, ?_⟩
          have e1 : ∀ z, En.dues ((if (0 : Int) = 1 then [0] else []) ++ [1] ++ [2] ++ (if (1 : Int) = 1 then [3] else []) ++ (if (0 : Int) = 1 then [4] else [])) z = En.dues [3] ((En.due (En.due z.1 1).1 2).1, z.2 ++ [] ++ []) := fun z => rfl
          rw [e1]
          have e2 : ((En.due (En.due (⟨c, ⟨most, credit, 10, sq, peer, cc, ms, data⟩, [0, Tm.dec a, Tm.dec b, 1 - 1, 0], ctl, [], left, poll, false, asked, false, some (s, r)⟩ : X) 1).1 2).1, ([] : List Cn.Sig) ++ [] ++ []) = (⟨c, ⟨most, credit, 10, sq, peer, cc, ms, data⟩, [0, Tm.dec a, Tm.dec b, 0, 0], ctl, [], left, (poll || true || true), false, asked, false, some (s, r)⟩, []) := rfl
          dsimp only
          rw [e2, hu]
          rfl
        · obtain ⟨u, l, hu⟩ := key (poll || true)
          refine ⟨u, l, ?_⟩
          have e1 : ∀ z, En.dues ((if (0 : Int) = 1 then [0] else []) ++ [1] ++ [] ++ (if (1 : Int) = 1 then [3] else []) ++ (if (0 : Int) = 1 then [4] else [])) z = En.dues [3] ((En.due z.1 1).1, z.2 ++ []) := fun z => rfl
          rw [e1]
          have e2 : ((En.due (⟨c, ⟨most, credit, 10, sq, peer, cc, ms, data⟩, [0, Tm.dec a, Tm.dec b, 1 - 1, 0], ctl, [], left, poll, false, asked, false, some (s, r)⟩ : X) 1).1, ([] : List Cn.Sig) ++ []) = (⟨c, ⟨most, credit, 10, sq, peer, cc, ms, data⟩, [0, Tm.dec a, Tm.dec b, 0, 0], ctl, [], left, (poll || true), false, asked, false, some (s, r)⟩, []) := rfl
          dsimp only
          rw [e2, hu]
          rfl
        · obtain ⟨u, l, hu⟩ := key (poll || true)
          refine ⟨u, l, ?_⟩
          have e1 : ∀ z, En.dues ((if (0 : Int) = 1 then [0] else []) ++ [] ++ [2] ++ (if (1 : Int) = 1 then [3] else []) ++ (if (0 : Int) = 1 then [4] else [])) z = En.dues [3] ((En.due z.1 2).1, z.2 ++ []) := fun z => rfl
          rw [e1]
          have e2 : ((En.due (⟨c, ⟨most, credit, 10, sq, peer, cc, ms, data⟩, [0, Tm.dec a, Tm.dec b, 1 - 1, 0], ctl, [], left, poll, false, asked, false, some (s, r)⟩ : X) 2).1, ([] : List Cn.Sig) ++ []) = (⟨c, ⟨most, credit, 10, sq, peer, cc, ms, data⟩, [0, Tm.dec a, Tm.dec b, 0, 0], ctl, [], left, (poll || true), false, asked, false, some (s, r)⟩, []) := rfl
          dsimp only
          rw [e2, hu]
          rfl
        · obtain ⟨u, l, hu⟩ := key poll
          refine ⟨u, l, ?_⟩
          have e1 : ∀ z, En.dues ((if (0 : Int) = 1 then [0] else []) ++ [] ++ [] ++ (if (1 : Int) = 1 then [3] else []) ++ (if (0 : Int) = 1 then [4] else [])) z = En.dues [3] z := fun z => rfl
          rw [e1]
          rw [show (1 : Int) - 1 = 0 from rfl, hu]
          rfl
      obtain ⟨u, l, e⟩ := e
      rw [e] at hq ⊢
      exact ⟨hg, hst, rfl, rfl, rfl, .inl ⟨rfl, rfl, rfl, rfl, rfl, Fit.low hq rfl hst⟩⟩
    · have e : ∃ p, b1 p ≤ 1 ∧ En.tick ⟨c, ⟨most, credit, 10, sq, peer, cc, ms, data⟩, [0, a, b, t, 0], ctl, [], left, poll, false, asked, false, some (s, r)⟩ = (⟨c, ⟨most, credit, 10, sq, peer, cc, ms, data⟩, [0, Tm.dec a, Tm.dec b, t - 1, 0], ctl, [], left, p, false, asked, false, some (s, r)⟩, []) ∧ b1 p ≤ b1 poll + 1 := by
        have hb : ∀ p, b1 p ≤ 1 ∧ 0 ≤ b1 p := fun p => by cases p <;> decide
        have hcr : ∀ (p : Bool) tm, En.credit (⟨c, ⟨most, credit, 10, sq, peer, cc, ms, data⟩, tm, ctl, [], left, p, false, asked, false, some (s, r)⟩ : X) [] = (⟨c, ⟨most, credit, 10, sq, peer, cc, ms, data⟩, tm, ctl, [], left, p, false, asked, false, some (s, r)⟩, []) := fun p tm => by
          have e0 : En.lack (⟨c, ⟨most, credit, 10, sq, peer, cc, ms, data⟩, tm, ctl, [], left, p, false, asked, false, some (s, r)⟩ : X) = false := by
            show (decide (0 < s.wait.length) && (s.s == s.ms)) = false
            rw [h1]
            rfl
          unfold En.credit
          rw [e0]
          rfl
        unfold En.tick
        dsimp only
        rw [hto, over5, if_neg h10]
        by_cases ha : a = 1 <;> by_cases hb' : b = 1
        all_goals
          first | rw [if_pos ha] | rw [if_neg ha]
          first | rw [if_pos hb'] | rw [if_neg hb']
        · refine ⟨poll || true || true, (hb _).1, ?_, by have := hb poll; have := hb (poll || true || true); omega⟩
          exact hcr (poll || true || true) _
        · refine ⟨poll || true, (hb _).1, ?_, by have := hb poll; have := hb (poll || true); omega⟩
          exact hcr (poll || true) _
        · refine ⟨poll || true, (hb _).1, ?_, by have := hb poll; have := hb (poll || true); omega⟩
          exact hcr (poll || true) _
        · refine ⟨poll, (hb _).1, ?_, by have := hb poll; omega⟩
          exact hcr poll _
      obtain ⟨p, hp, e, hp2⟩ := e
      rw [e] at hq ⊢
      refine ⟨hg, hst, rfl, rfl, rfl, .inr (.inr ⟨rfl, rfl, s, r, Tm.dec a, Tm.dec b, t - 1, hi, rfl, h1, h2, h3, h4, h5, h6, rfl, by omega, by omega, hq, ?_⟩)⟩
      show hi + (t - 1) + b1 p ≤ lo + 100
      have : hi + t + b1 poll ≤ lo + 100 := hhi
      omega
theorem fit_ctl {x : X} {hi hi2 : Int} (h : Fit x hi hi2) {u : Cn.Pd} {r : List Cn.Pd} (hc : x.ctl = u :: r) : Fit { x with ctl := r } hi hi2 := by
  have hn := h.nd
  have hk := h.ks
  rw [hc] at hn hk
  exact ⟨(List.nodup_cons.1 hn).2, fun v hv => hk v (by simp [hv]), h.b1, h.b2, h.ep, h.st⟩
theorem G.next {lo : Int} {x : X} {told m : Nat} (h : G lo x told m) : G lo (En.next x).1 told m ∧ ((En.next x).2.isSome = true → mu (En.next x).1 < mu x) ∧ ((En.next x).2 = none → (En.next x).1 = x ∧ x.ctl = [] ∧ x.poll = false) := by
  obtain ⟨hg, hst, hun, hsf, hlk, hw⟩ := h
  cases hc : x.ctl with
  | cons u r =>
    have e : En.next x = ({ x with ctl := r }, some (u, [])) := by unfold En.next; rw [hc]
    rw [e]
    refine ⟨⟨hg, hst, hun, hsf, hlk, ?_⟩, fun _ => ?_, fun h => by cases h⟩
    · rcases hw with ⟨h1, h2, h3, h4, h5, h6⟩ | ⟨h1, h2, h3, h4, h6, h7⟩ | ⟨h1, h2, s, r', a, b, t, hi, e1, e2, e3, e4, e5, e6, e7, e8, e9, e10, hF, hhi⟩
      · exact .inl ⟨h1, h2, h3, h4, h5, fit_ctl h6 hc⟩
      · exact .inr (.inl ⟨h1, h2, h3, h4, fit_ctl h6 hc, h7⟩)
      · exact .inr (.inr ⟨h1, h2, s, r', a, b, t, hi, e1, e2, e3, e4, e5, e6, e7, e8, e9, e10, fit_ctl hF hc, hhi⟩)
    · unfold mu
      dsimp only
      rw [hc, List.length_cons]
      omega
  | nil =>
    rcases hw with ⟨h1, h2, h3, h4, h5, h6⟩ | ⟨h1, h2, h3, h4, h6, h7⟩ | ⟨h1, h2, s, r, a, b, t, hi, e1, e2, e3, e4, e5, e6, e7, e8, e9, e10, hF, hhi⟩
    · have e : En.next x = (x, none) := by unfold En.next; rw [hc, hun, h2]
      rw [e]
      exact ⟨⟨hg, hst, hun, hsf, hlk, .inl ⟨h1, h2, h3, h4, h5, h6⟩⟩, fun h => (by cases h), fun _ => ⟨rfl, rfl, h3⟩⟩
    · have e : En.next x = (x, none) := by unfold En.next; rw [hc, hun, h2]
      rw [e]
      exact ⟨⟨hg, hst, hun, hsf, hlk, .inr (.inl ⟨h1, h2, h3, h4, h6, h7⟩)⟩, fun h => (by cases h), fun _ => ⟨rfl, rfl, h3⟩⟩
    · have g1 := Ope.gap_no e7
      cases hp : x.poll with
      | true =>
        have hid : En.sIdle s = true := by unfold En.sIdle; rw [e2, e3]; rfl
        have e : En.next x = ({ x with poll := false, ep := some (Sf.poll s, r), tm := Pc.polled x.tm x.c.poll x.c.keep x.c.silent (En.sIdle s) }, some (En.numed 10 (s.s % 16777216) ((s.ps + 1) % 16777216) 0 Cn.no, [])) := by
          unfold En.next
          rw [hc, hun, e1]
          dsimp only
          rw [hsf, g1.1, g1.2, hp]
          rfl
        have hk := hg.2.2.1
        have etm : Pc.polled x.tm x.c.poll x.c.keep x.c.silent true = [0, 0, x.c.keep, t, 0] := by
          rw [e8]
          have : 0 < t := by omega
          simp [Pc.polled, Pc.watch, Pc.stops, Tm.stop, Tm.start, Tm.left, start_clamp hk, this]
        have hf2 : Fit (En.next x).1 (hi + 1) lo := by
          rw [hp] at hhi
          refine En.next_ok hF ?_
          rw [hst]
          have : b1 true = 1 := rfl
          omega
        rw [e] at hf2 ⊢
        rw [hid, etm] at hf2 ⊢
        refine ⟨⟨hg, hst, hun, hsf, hlk, .inr (.inr ⟨h1, h2, Sf.poll s, r, 0, x.c.keep, t, hi + 1, rfl, e2, e3, e4, rfl, e6, e7, rfl, e9, e10, hf2, ?_⟩)⟩, fun _ => ?_, fun h => by cases h⟩
        · rw [hp] at hhi
          show hi + 1 + t + 0 ≤ lo + 100
          have : b1 true = 1 := rfl
          omega
        · unfold mu
          dsimp only
          rw [hc, hp]
          simp
      | false =>
        have e : En.next x = (x, none) := Ope.next_calm hc hun hsf hp e1 e7 e2 e4 (by omega)
        rw [e]
        exact ⟨⟨hg, hst, hun, hsf, hlk, .inr (.inr ⟨h1, h2, s, r, a, b, t, hi, e1, e2, e3, e4, e5, e6, e7, e8, e9, e10, hF, hhi⟩)⟩, fun h => (by cases h), fun _ => ⟨rfl, rfl, rfl⟩⟩
/-- Behind enough ticks it has let go. -/
theorem G.done {lo : Int} {x : X} {told : Nat} (h : G lo x told 0) (hc : x.ctl = []) : x.conn.state = 1 ∧ told = 1 ∧ x.tm = [0, 0, 0, 0, 0] ∧ En.quiet x = true ∧ Pc.safe x.tm = true ∧ x.ep = none := by
  obtain ⟨hg, hst, hun, hsf, hlk, hw⟩ := h
  rcases hw with ⟨h1, h2, h3, h4, h5, h6⟩ | ⟨h1, h2, h3, h4, h6, t, h7, h8, h9, h10⟩ | ⟨h1, h2, s, r, a, b, t, hi, e1, e2, e3, e4, e5, e6, e7, e8, e9, e10, hF, hhi⟩
  · refine ⟨h1, h5, h4, ?_, by rw [h4]; rfl, h2⟩
    unfold En.quiet
    rw [hc, hun, h3, hsf, h2]
    rfl
  · have hc := hg.1
    have : (0 : Int) ≤ (x.conn.most - x.conn.cc) * x.c.cc := Int.mul_nonneg (by omega) (by omega)
    omega
  · omega
end Al
end Go.Proofs.YtipaobpmojahaaaGreat

/-
  pace.Pace: what each call does to a pace that lies at the head of a block: a bank, then its five ticks · pace.Pace: Busy, Polled, Answered, Safe.
-/
import Derived.Test.YtnenaemincfgpaaGreatEvD
import Derived.StillTailTactics
import Derived.Deep.QuietTactic
import Derived.BigQuiet
import Derived.Deep.RegionLaw
set_option maxHeartbeats 1000000
namespace Go.Proofs.YtnenaemincfgpaaGreat
open Go.RowKit
set_option maxRecDepth 20000

theorem Bk.cfg {w : World} {g : Nat} {t : TypeId} {l c : List Int} (h : Bk w g t l c) (i : Nat) (x : Int) (hi : c[i]? = some x) : w.cell? ⟨g, 5 + i, none⟩ = some (.int .i64 x) := by
 rw [h.2.2.cell]
 have := h.1
 rw [List.map_append, List.getElem?_append_right (by simp; omega)]
 simp [this, hi]
theorem Bk.drewN {w : World} {g : Nat} {t : TypeId} {l c : List Int} (h : Bk w g t l c) (n : Nat) : Bk (w.drewN n) g t l c := ⟨h.1, h.2.1, h.2.2.drewN n⟩
theorem Bk.alloc {w : World} {g : Nat} {t : TypeId} {l c : List Int} (h : Bk w g t l c) (o : Obj) : Bk (w.alloc o) g t l c := ⟨h.1, h.2.1, h.2.2.alloc o⟩
theorem Bk.touch {w w' : World} {g : Nat} {t : TypeId} {l c : List Int} {S : Nat -> Prop} (h : Bk w g t l c) (ht : Touch S w w') (hs : ¬ S g) : Bk w' g t l c := ⟨h.1, h.2.1, ht.blk h.2.2 hs⟩

namespace Pc
def stops (l : List Int) (ts : List Int) : List Int := ts.foldl Tm.stop l
def watch (l : List Int) (c3 : Int) : List Int := if 0 < Tm.left l 3 then l else Tm.start l 3 c3
def end_ (l : List Int) : List Int := stops l [1, 2, 3, 4]
def begin_ (l : List Int) (c1 c3 : Int) : List Int := watch (Tm.start (end_ l) 1 c1) c3
def busy (l : List Int) (c1 c3 : Int) : List Int := if 0 < Tm.left l 2 ∨ 0 < Tm.left l 4 then watch (Tm.start (stops l [2, 4]) 1 c1) c3 else l
def polled (l : List Int) (c1 c2 c3 : Int) (idle : Bool) : List Int := watch (if idle = true then Tm.start (stops l [1, 2, 4]) 2 c2 else Tm.start (stops l [1, 2, 4]) 1 c1) c3
def answered (l : List Int) (c3 c4 : Int) (idle : Bool) : List Int := if idle = true ∧ 0 < Tm.left l 2 then Tm.start (stops l [2, 3]) 4 c4 else if 0 < Tm.left l 4 then l else Tm.start l 3 c3
theorem stops_take (l ts : List Int) (k : Nat) (hk : k < ts.length) : stops l (ts.take (k + 1)) = Tm.stop (stops l (ts.take k)) (ts.getD k 0) := by
 unfold stops
 rw [List.take_succ_eq_append_getElem hk, List.foldl_append]
 simp [List.getD, List.getElem?_eq_getElem hk]
end Pc

theorem stops_any (g : Nat) (l c : List Int) (A : Option Addr) (ca : Nat) (ts : List Int) (w : World) (h : Bk w g 100 l c) (hs : Sl intE w A ca ts) :
  Calls Tryz.prog 57 #[.pointer (some ⟨g, 0, none⟩), .slice A ts.length ca] w fun e w' => e = .returned (.tuple #[]) ∧ Bk w' g 100 (Pc.stops l ts) c ∧ Touch (· = g) w w' := by
 have hm := hs.2.1
 have hm1 := hs.1
 unfold maxLen at hm
 have hAg : Hid (∀ ad, A = some ad -> ¬ ad.block = g) := hs.blk_ne h.2.2 (by decide)
 have HS := lh hs
 clear hs
 go_enter Tryz.func57, Tryz.ntmps57
 go_wp2
 go_loopw [8] (fun i wr => ∃ k : Nat, k <= ts.length ∧ i = .int .i64 k ∧ Bk wr g 100 (Pc.stops l (ts.take k)) c ∧ Touch (· = g) w wr) (fun i _ => ts.length - (intOf i).toNat)
 case atStart => exact ⟨0, by omega, rfl, h, Touch.refl _ _⟩
 case round =>
  obtain ⟨k, hk, rfl, hb, ht⟩ := hrel
  have HT := lh ht
  clear ht
  by_cases hlt : k < ts.length
  ·obtain ⟨gA, oA, rfl, _, hc⟩ := (HS.out.touch HT.out hAg.out).int_at k hlt
   have hk1 : (k : Int) < (ts.length : Int) := by omega
   have HK := lh (Pc.stops_take l ts k hlt)
   generalize ts.getD k 0 = x at *
   go_wp2_with fail
   refine (tmstop_any g _ _ c x wr hb).mono ?_
   rintro e w2 ⟨rfl, h2, t2⟩
   have HB := lh h2
   have HT2 := lh (HT.out.trans t2 (fun _ _ h => h))
   clear h2 t2 hb
   go_wp2
   go_roundw
   case rel => exact ⟨k + 1, by omega, by go_num, by rw [HK.out]; exact HB.out, HT2.out⟩
   case measure => simp [intOf]; omega
  ·have e : k = ts.length := by omega
   subst e
   rw [List.take_length] at hb
   go_wp2
   go_end0
   exact ⟨rfl, hb, HT.out⟩

def Pk (w : World) (g : Nat) (l : List Int) (c0 c1 c2 c3 c4 : Int) : Prop := Bk w g 100 l [c0, c1, c2, c3, c4]

section
variable (g : Nat) (l : List Int) (c0 c1 c2 c3 c4 : Int) (w : World)

theorem watch_any (h : Pk w g l c0 c1 c2 c3 c4) :
  Calls Tryz.prog 59 #[.pointer (some ⟨g, 0, none⟩)] w fun e w' => e = .returned (.tuple #[]) ∧ Pk w' g (Pc.watch l c3) c0 c1 c2 c3 c4 ∧ Touch (· = g) w w' := by
 have h8 : w.cell? ⟨g, 8, none⟩ = some (.int .i64 c3) := h.cfg 3 _ rfl
 have H : Hid (Bk w g 100 l [c0, c1, c2, c3, c4]) := h
 have HW := lh (show Pc.watch l c3 = if 0 < Tm.left l 3 then l else Tm.start l 3 c3 from rfl)
 clear h
 by_cases hr : 0 < Tm.left l 3
 ·rw [if_pos hr] at HW
  have hd := decide_eq_true hr
  clear hr
  go_enter Tryz.func59, Tryz.ntmps59
  go_wp2_with (go_at_call 104; refine (runs_any _ _ _ _ _ _ H.out).mono ?_; rintro e w' ⟨rfl, rfl⟩)
  go_end0
  exact ⟨rfl, by rw [HW.out]; exact H.out, Touch.refl _ _⟩
 ·rw [if_neg hr] at HW
  have hd := decide_eq_false hr
  clear hr
  go_enter Tryz.func59, Tryz.ntmps59
  go_wp2_with (go_at_call 104; refine (runs_any _ _ _ _ _ _ H.out).mono ?_; rintro e w' ⟨rfl, rfl⟩)
  go_still_tail 8, (by kernel_rfl)
  go_wp2_with (go_at_call 58; refine (start_any _ _ _ _ _ _ _ (H.out.drewN _)).mono ?_; rintro e w' ⟨rfl, h2, t2⟩)
  go_end0
  exact ⟨rfl, by rw [HW.out]; exact h2, ((Touch.refl _ w).drewN 1).trans t2 (fun _ _ h => h)⟩

theorem pend_any (h : Pk w g l c0 c1 c2 c3 c4) :
  Calls Tryz.prog 80 #[.pointer (some ⟨g, 0, none⟩)] w fun e w' => e = .returned (.tuple #[]) ∧ Pk w' g (Pc.end_ l) c0 c1 c2 c3 c4 ∧ Touch (· = g) w w' := by
 have H : Hid (Bk w g 100 l [c0, c1, c2, c3, c4]) := h
 clear h
 go_enter Tryz.func80, Tryz.ntmps80
 go_wp2_with (go_at_call 57; refine (stops_any g l _ _ _ [1, 2, 3, 4] _ (H.out.alloc _) (Sl.lit intE _ _ (by simp) _ _ rfl _ rfl (by decide))).mono ?_; rintro e w' ⟨rfl, h2, t2⟩)
 go_end0
 exact ⟨rfl, h2, ((Touch.refl _ w).alloc _).trans t2 (fun _ _ h => h)⟩

theorem pbegin_any (h : Pk w g l c0 c1 c2 c3 c4) :
  Calls Tryz.prog 86 #[.pointer (some ⟨g, 0, none⟩)] w fun e w' => e = .returned (.tuple #[]) ∧ Pk w' g (Pc.begin_ l c1 c3) c0 c1 c2 c3 c4 ∧ Touch (· = g) w w' := by
 have H := lh h
 clear h
 go_enter Tryz.func86, Tryz.ntmps86
 go_wp2_with (go_at_call 80; refine (pend_any g l c0 c1 c2 c3 c4 _ H.out).mono ?_; rintro e w1 ⟨rfl, h1, t1⟩)
 have h6 : w1.cell? ⟨g, 6, none⟩ = some (.int .i64 c1) := Bk.cfg h1 1 _ rfl
 have H1 : Hid (Bk w1 g 100 (Pc.end_ l) [c0, c1, c2, c3, c4]) := h1
 clear h1
 go_still_tail 8, (by kernel_rfl)
 go_wp2_with (go_at_call 58; refine (start_any _ _ _ _ _ _ _ (H1.out.drewN _)).mono ?_; rintro e w2 ⟨rfl, h2, t2⟩)
 have H2 := lh h2
 clear h2
 go_wp2_with (go_at_call 59; refine (watch_any g _ c0 c1 c2 c3 c4 _ H2.out).mono ?_; rintro e w3 ⟨rfl, h3, t3⟩)
 go_end0
 exact ⟨rfl, h3, ((t1.drewN 1).trans t2 (fun _ _ h => h)).trans t3 (fun _ _ h => h)⟩

theorem pagain_any (h : Pk w g l c0 c1 c2 c3 c4) :
  Calls Tryz.prog 78 #[.pointer (some ⟨g, 0, none⟩)] w fun e w' => e = .returned (.tuple #[]) ∧ Pk w' g (Tm.start l 0 c0) c0 c1 c2 c3 c4 ∧ Touch (· = g) w w' := by
 have h5 : w.cell? ⟨g, 5, none⟩ = some (.int .i64 c0) := Bk.cfg h 0 _ rfl
 have H : Hid (Bk w g 100 l [c0, c1, c2, c3, c4]) := h
 clear h
 go_enter Tryz.func78, Tryz.ntmps78
 go_wp2_with fail
 go_still_tail 8, (by kernel_rfl)
 go_wp2_with (go_at_call 58; refine (start_any _ _ _ _ _ _ _ (H.out.drewN _)).mono ?_; rintro e w2 ⟨rfl, h2, t2⟩)
 go_end0
 exact ⟨rfl, h2, ((Touch.refl _ w).drewN 1).trans t2 (fun _ _ h => h)⟩

theorem enough_any (h : Pk w g l c0 c1 c2 c3 c4) :
  Calls Tryz.prog 79 #[.pointer (some ⟨g, 0, none⟩)] w fun e w' => e = .returned (.tuple #[]) ∧ Pk w' g (Tm.stop l 0) c0 c1 c2 c3 c4 ∧ Touch (· = g) w w' := by
 have H : Hid (Bk w g 100 l [c0, c1, c2, c3, c4]) := h
 clear h
 go_enter Tryz.func79, Tryz.ntmps79
 go_wp2_with (go_at_call 103; refine (tmstop_any _ _ _ _ _ _ H.out).mono ?_; rintro e w2 ⟨rfl, h2, t2⟩)
 go_end0
 exact ⟨rfl, h2, t2⟩

theorem asks_any (p : Option Addr) (t : Int) :
  Calls Tryz.prog 45 #[.pointer p, .int .i64 t] w fun e w' => e = .returned (.bool (decide (t = 1 ∨ t = 2 ∨ t = 4))) ∧ w = w' := by
 rcases (show t = 1 ∨ t = 2 ∨ t = 4 ∨ (¬ t = 1 ∧ ¬ t = 2 ∧ ¬ t = 4) by omega) with rfl | rfl | rfl | ⟨h1, h2, h3⟩
 ·go_enter Tryz.func45, Tryz.ntmps45
  go_wp2
  go_ret
  exact ⟨rfl, rfl⟩
 ·go_enter Tryz.func45, Tryz.ntmps45
  go_wp2
  go_ret
  exact ⟨rfl, rfl⟩
 ·go_enter Tryz.func45, Tryz.ntmps45
  go_wp2
  go_ret
  exact ⟨rfl, rfl⟩
 ·have e1 : (t == 1) = false := beq_eq_false_iff_ne.2 h1
  have e2 : (t == 2) = false := beq_eq_false_iff_ne.2 h2
  have e3 : (t == 4) = false := beq_eq_false_iff_ne.2 h3
  have hd := lh (show decide (t = 1 ∨ t = 2 ∨ t = 4) = false by simp; omega)
  clear h1 h2 h3
  go_enter Tryz.func45, Tryz.ntmps45
  go_wp2
  go_ret
  exact ⟨by rw [hd.out]; rfl, rfl⟩
end
set_option maxRecDepth 20000

section
variable (g : Nat) (l : List Int) (c0 c1 c2 c3 c4 : Int) (w : World)

theorem busy_any (h : Pk w g l c0 c1 c2 c3 c4) :
  Calls Tryz.prog 69 #[.pointer (some ⟨g, 0, none⟩)] w fun e w' => e = .returned (.tuple #[]) ∧ Pk w' g (Pc.busy l c1 c3) c0 c1 c2 c3 c4 ∧ Touch (· = g) w w' := by
 have H : Hid (Bk w g 100 l [c0, c1, c2, c3, c4]) := h
 have HW := lh (show Pc.busy l c1 c3 = if 0 < Tm.left l 2 ∨ 0 < Tm.left l 4 then Pc.watch (Tm.start (Pc.stops l [2, 4]) 1 c1) c3 else l from rfl)
 clear h
 by_cases hr : 0 < Tm.left l 2 ∨ 0 < Tm.left l 4
 ·rw [if_pos hr] at HW
  have hcase : (decide (0 < Tm.left l 2) = true) ∨ (decide (0 < Tm.left l 2) = false ∧ decide (0 < Tm.left l 4) = true) := by
   by_cases h2 : 0 < Tm.left l 2
   ·exact .inl (decide_eq_true h2)
   ·exact .inr ⟨decide_eq_false h2, decide_eq_true (by rcases hr with e | e; exact absurd e h2; exact e)⟩
  clear hr
  rcases hcase with hd | ⟨hd, hd2⟩
  all_goals
   go_enter Tryz.func69, Tryz.ntmps69
   go_wp2_with (go_at_call 104; refine (runs_any _ _ _ _ _ _ H.out).mono ?_; rintro e w' ⟨rfl, rfl⟩)
   refine (stops_any g l _ _ _ [2, 4] _ (H.out.alloc _) (Sl.lit intE _ _ (by simp) _ _ rfl _ rfl (by decide))).mono ?_
   rintro e w1 ⟨rfl, h1, t1⟩
   have h6 : w1.cell? ⟨g, 6, none⟩ = some (.int .i64 c1) := Bk.cfg h1 1 _ rfl
   have H1 := lh h1
   have T1 : Hid (Touch (· = g) w w1) := ((Touch.refl _ w).alloc _).trans t1 (fun _ _ h => h)
   clear h1 t1
   go_wp2_with fail
   go_still_tail 8, (by kernel_rfl)
   go_wp2_with (go_at_call 58; refine (start_any _ _ _ _ _ _ _ (H1.out.drewN _)).mono ?_; rintro e w2 ⟨rfl, h2, t2⟩)
   have H2 := lh h2
   clear h2
   go_wp2_with (go_at_call 59; refine (watch_any g _ c0 c1 c2 c3 c4 _ H2.out).mono ?_; rintro e w3 ⟨rfl, h3, t3⟩)
   go_end0
   exact ⟨rfl, by rw [HW.out]; exact h3, ((T1.out.drewN 1).trans t2 (fun _ _ h => h)).trans t3 (fun _ _ h => h)⟩
 ·rw [if_neg hr] at HW
  have hd : decide (0 < Tm.left l 2) = false := decide_eq_false (fun e => hr (.inl e))
  have hd2 : decide (0 < Tm.left l 4) = false := decide_eq_false (fun e => hr (.inr e))
  clear hr
  go_enter Tryz.func69, Tryz.ntmps69
  go_wp2_with (go_at_call 104; refine (runs_any _ _ _ _ _ _ H.out).mono ?_; rintro e w' ⟨rfl, rfl⟩)
  first | go_end0 | refine bodyPost_ret (results_none rfl _ _ _) rfl ?_
  exact ⟨rfl, by rw [HW.out]; exact H.out, Touch.refl _ _⟩

theorem polled_any (idle : Bool) (h : Pk w g l c0 c1 c2 c3 c4) :
  Calls Tryz.prog 27 #[.pointer (some ⟨g, 0, none⟩), .bool idle] w fun e w' => e = .returned (.tuple #[]) ∧ Pk w' g (Pc.polled l c1 c2 c3 idle) c0 c1 c2 c3 c4 ∧ Touch (· = g) w w' := by
 have H : Hid (Bk w g 100 l [c0, c1, c2, c3, c4]) := h
 clear h
 cases idle
 all_goals
  go_enter Tryz.func27, Tryz.ntmps27
  go_wp2_with fail
  refine (stops_any g l _ _ _ [1, 2, 4] _ (H.out.alloc _) (Sl.lit intE _ _ (by simp) _ _ rfl _ rfl (by decide))).mono ?_
  rintro e w1 ⟨rfl, h1, t1⟩
  have h6 : w1.cell? ⟨g, 6, none⟩ = some (.int .i64 c1) := Bk.cfg h1 1 _ rfl
  have h7 : w1.cell? ⟨g, 7, none⟩ = some (.int .i64 c2) := Bk.cfg h1 2 _ rfl
  have H1 := lh h1
  have T1 : Hid (Touch (· = g) w w1) := ((Touch.refl _ w).alloc _).trans t1 (fun _ _ h => h)
  clear h1 t1
  go_wp2_with fail
  go_still_tail 8, (by kernel_rfl)
  go_wp2_with (go_at_call 58; refine (start_any _ _ _ _ _ _ _ (H1.out.drewN _)).mono ?_; rintro e w2 ⟨rfl, h2, t2⟩)
  have H2 := lh h2
  clear h2
  go_wp2_with (go_at_call 59; refine (watch_any g _ c0 c1 c2 c3 c4 _ H2.out).mono ?_; rintro e w3 ⟨rfl, h3, t3⟩)
  go_end0
  exact ⟨rfl, h3, ((T1.out.drewN 1).trans t2 (fun _ _ h => h)).trans t3 (fun _ _ h => h)⟩

theorem answered_any (idle : Bool) (h : Pk w g l c0 c1 c2 c3 c4) :
  Calls Tryz.prog 111 #[.pointer (some ⟨g, 0, none⟩), .bool idle] w fun e w' => e = .returned (.tuple #[]) ∧ Pk w' g (Pc.answered l c3 c4 idle) c0 c1 c2 c3 c4 ∧ Touch (· = g) w w' := by
 have H : Hid (Bk w g 100 l [c0, c1, c2, c3, c4]) := h
 have h8 : w.cell? ⟨g, 8, none⟩ = some (.int .i64 c3) := Bk.cfg h 3 _ rfl
 have HW := lh (show Pc.answered l c3 c4 idle = if idle = true ∧ 0 < Tm.left l 2 then Tm.start (Pc.stops l [2, 3]) 4 c4 else if 0 < Tm.left l 4 then l else Tm.start l 3 c3 from rfl)
 clear h
 by_cases hr : idle = true ∧ 0 < Tm.left l 2
 ·rw [if_pos hr] at HW
  obtain ⟨rfl, h2⟩ := hr
  have hd := decide_eq_true h2
  clear h2
  go_enter Tryz.func111, Tryz.ntmps111
  go_wp2_with (go_at_call 104; refine (runs_any _ _ _ _ _ _ H.out).mono ?_; rintro e w' ⟨rfl, rfl⟩)
  refine (stops_any g l _ _ _ [2, 3] _ (H.out.alloc _) (Sl.lit intE _ _ (by simp) _ _ rfl _ rfl (by decide))).mono ?_
  rintro e w1 ⟨rfl, h1, t1⟩
  have h9 : w1.cell? ⟨g, 9, none⟩ = some (.int .i64 c4) := Bk.cfg h1 4 _ rfl
  have H1 := lh h1
  have T1 : Hid (Touch (· = g) w w1) := ((Touch.refl _ w).alloc _).trans t1 (fun _ _ h => h)
  clear h1 t1
  go_wp2_with fail
  go_still_tail 8, (by kernel_rfl)
  go_wp2_with (go_at_call 58; refine (start_any _ _ _ _ _ _ _ (H1.out.drewN _)).mono ?_; rintro e w2 ⟨rfl, h2, t2⟩)
  first | go_end0 | refine bodyPost_ret (results_none rfl _ _ _) rfl ?_
  exact ⟨rfl, by rw [HW.out]; exact h2, ((T1.out.drewN 1).trans t2 (fun _ _ h => h))⟩
 ·rw [if_neg hr] at HW
  have hcase : (idle = false) ∨ (idle = true ∧ decide (0 < Tm.left l 2) = false) := by
   cases idle
   ·exact .inl rfl
   ·exact .inr ⟨rfl, decide_eq_false (fun e => hr ⟨rfl, e⟩)⟩
  clear hr
  by_cases h4 : 0 < Tm.left l 4
  ·rw [if_pos h4] at HW
   have hd4 := decide_eq_true h4
   clear h4
   rcases hcase with rfl | ⟨rfl, hd⟩
   all_goals
    go_enter Tryz.func111, Tryz.ntmps111
    go_wp2_with (go_at_call 104; refine (runs_any _ _ _ _ _ _ H.out).mono ?_; rintro e w' ⟨rfl, rfl⟩)
    go_end0
    exact ⟨rfl, by rw [HW.out]; exact H.out, Touch.refl _ _⟩
  ·rw [if_neg h4] at HW
   have hd4 := decide_eq_false h4
   clear h4
   rcases hcase with rfl | ⟨rfl, hd⟩
   all_goals
    go_enter Tryz.func111, Tryz.ntmps111
    go_wp2_with (go_at_call 104; refine (runs_any _ _ _ _ _ _ H.out).mono ?_; rintro e w' ⟨rfl, rfl⟩)
    go_still_tail 8, (by kernel_rfl)
    go_wp2_with (go_at_call 58; refine (start_any _ _ _ _ _ _ _ (H.out.drewN _)).mono ?_; rintro e w2 ⟨rfl, h2, t2⟩)
    go_end0
    exact ⟨rfl, by rw [HW.out]; exact h2, (((Touch.refl _ w).drewN 1).trans t2 (fun _ _ h => h))⟩

end
end Go.Proofs.YtnenaemincfgpaaGreat

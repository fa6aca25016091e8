/-
  pace.Pace: what each call does to a pace that lies at the head of a block: a bank, then its five ticks · pace.Pace: Busy, Polled, Answered, Safe.
-/
import Derived.Test.YtipaobpmojahaaaGreatEvD
import Derived.StillTailTactics
import Derived.Deep.QuietTactic
import Derived.BigQuiet
import Derived.Deep.RegionLaw
namespace Go.Proofs.YtipaobpmojahaaaGreat
open Go.RowKit
set_option maxRecDepth 20000

theorem Bk.cfg {w : World} {g : Nat} {t : TypeId} {l c : List Int} (h : Bk w g t l c) (i : Nat) (x : Int) (hi : c[i]? = some x) : w.cell? ⟨g, 5 + i, none⟩ = some (.int .i64 x) := by
  rw [h.2.2.cell]
  have := h.1
  rw [List.map_append, List.getElem?_append_right (by simp; omega)]
  simp [this, hi]
theorem Bk.drewN {w : World} {g : Nat} {t : TypeId} {l c : List Int} (h : Bk w g t l c) (n : Nat) : Bk (w.drewN n) g t l c := ⟨h.1, h.2.1, h.2.2.drewN n⟩
theorem Bk.alloc {w : World} {g : Nat} {t : TypeId} {l c : List Int} (h : Bk w g t l c) (o : Obj) : Bk (w.alloc o) g t l c := ⟨h.1, h.2.1, h.2.2.alloc o⟩
theorem Bk.touch {w w' : World} {g : Nat} {t : TypeId} {l c : List Int} {S : Nat → Prop} (h : Bk w g t l c) (ht : Touch S w w') (hs : ¬ S g) : Bk w' g t l c := ⟨h.1, h.2.1, ht.blk h.2.2 hs⟩

namespace Pc
def stops (l : List Int) (ts : List Int) : List Int := ts.foldl Tm.stop l
def watch (l : List Int) (c3 : Int) : List Int := if 0 < Tm.left l 3 then l else Tm.start l 3 c3
def end_ (l : List Int) : List Int := stops l [1, 2, 3, 4]
def begin_ (l : List Int) (c1 c3 : Int) : List Int := watch (Tm.start (end_ l) 1 c1) c3
def busy (l : List Int) (c1 c3 : Int) : List Int := if 0 < Tm.left l 2 ∨ 0 < Tm.left l 4 then watch (Tm.start (stops l [2, 4]) 1 c1) c3 else l
def polled (l : List Int) (c1 c2 c3 : Int) (idle : Bool) : List Int := watch (if idle = true then Tm.start (stops l [1, 2, 4]) 2 c2 else Tm.start (stops l [1, 2, 4]) 1 c1) c3
def answered (l : List Int) (c3 c4 : Int) (idle : Bool) : List Int := if idle = true ∧ 0 < Tm.left l 2 then Tm.start (stops l [2, 3]) 4 c4 else if 0 < Tm.left l 4 then l else Tm.start l 3 c3
def safe (l : List Int) : Bool := decide (Tm.left l 3 = 0 ∨ (0 < Tm.left l 1 ∧ Tm.left l 1 < Tm.left l 3) ∨ (0 < Tm.left l 2 ∧ Tm.left l 2 < Tm.left l 3))
theorem stops_take (l ts : List Int) (k : Nat) (hk : k < ts.length) : stops l (ts.take (k + 1)) = Tm.stop (stops l (ts.take k)) (ts.getD k 0) := by
  unfold stops
  rw [List.take_succ_eq_append_getElem hk, List.foldl_append]
  simp [List.getD, List.getElem?_eq_getElem hk]
end Pc

set_option maxHeartbeats 1000000 in
theorem stops_any (g : Nat) (l c : List Int) (A : Option Addr) (ca : Nat) (ts : List Int) (w : World) (h : Bk w g 124 l c) (hs : Sl intE w A ca ts) :
    Calls Tryz.prog 89 #[.pointer (some ⟨g, 0, none⟩), .slice A ts.length ca] w fun e w' => e = .returned (.tuple #[]) ∧ Bk w' g 124 (Pc.stops l ts) c ∧ Touch (· = g) w w' := by
  have hm := hs.2.1
  have hm1 := hs.1
  unfold maxLen at hm
  have hAg : Hid (∀ ad, A = some ad → ¬ ad.block = g) := hs.blk_ne h.2.2 (by decide)
  have HS := Lib.hid hs
  clear hs
  go_enter Tryz.func89, Tryz.ntmps89
  go_wp2
  go_loopw [8] (fun i wr => ∃ k : Nat, k ≤ ts.length ∧ i = .int .i64 k ∧ Bk wr g 124 (Pc.stops l (ts.take k)) c ∧ Touch (· = g) w wr) (fun i _ => ts.length - (intOf i).toNat)
  case atStart => exact ⟨0, by omega, rfl, h, Touch.refl _ _⟩
  case round =>
    obtain ⟨k, hk, rfl, hb, ht⟩ := hrel
    have HT := Lib.hid ht
    clear ht
    by_cases hlt : k < ts.length
    · obtain ⟨gA, oA, rfl, _, hc⟩ := (HS.out.touch HT.out hAg.out).int_at k hlt
      have hk1 : (k : Int) < (ts.length : Int) := by omega
      have HK := Lib.hid (Pc.stops_take l ts k hlt)
      generalize ts.getD k 0 = x at *
      go_wp2_with fail
      refine (tmstop_any g _ _ c x wr hb).mono ?_
      rintro e w2 ⟨rfl, h2, t2⟩
      have HB := Lib.hid h2
      have HT2 := Lib.hid (HT.out.trans t2 (fun _ _ h => h))
      clear h2 t2 hb
      go_wp2
      go_roundw
      case rel => exact ⟨k + 1, by omega, by go_num, by rw [HK.out]; exact HB.out, HT2.out⟩
      case measure => simp [intOf]; omega
    · have e : k = ts.length := by omega
      subst e
      rw [List.take_length] at hb
      go_wp2
      go_end0
      exact ⟨rfl, hb, HT.out⟩

/-- A pace. -/
def Pk (w : World) (g : Nat) (l : List Int) (c0 c1 c2 c3 c4 : Int) : Prop := Bk w g 124 l [c0, c1, c2, c3, c4]

section
variable (g : Nat) (l : List Int) (c0 c1 c2 c3 c4 : Int) (w : World)

theorem watch_any (h : Pk w g l c0 c1 c2 c3 c4) :
    Calls Tryz.prog 91 #[.pointer (some ⟨g, 0, none⟩)] w fun e w' => e = .returned (.tuple #[]) ∧ Pk w' g (Pc.watch l c3) c0 c1 c2 c3 c4 ∧ Touch (· = g) w w' := by
  have h8 : w.cell? ⟨g, 8, none⟩ = some (.int .i64 c3) := h.cfg 3 _ rfl
  have H : Hid (Bk w g 124 l [c0, c1, c2, c3, c4]) := h
  have HW := Lib.hid (show Pc.watch l c3 = if 0 < Tm.left l 3 then l else Tm.start l 3 c3 from rfl)
  clear h
  by_cases hr : 0 < Tm.left l 3
  · rw [if_pos hr] at HW
    have hd := decide_eq_true hr
    clear hr
    go_enter Tryz.func91, Tryz.ntmps91
    go_wp2_with (go_at_call 118; refine (runs_any _ _ _ _ _ _ H.out).mono ?_; rintro e w' ⟨rfl, rfl⟩)
    go_end0
    exact ⟨rfl, by rw [HW.out]; exact H.out, Touch.refl _ _⟩
  · rw [if_neg hr] at HW
    have hd := decide_eq_false hr
    clear hr
    go_enter Tryz.func91, Tryz.ntmps91
    go_wp2_with (go_at_call 118; refine (runs_any _ _ _ _ _ _ H.out).mono ?_; rintro e w' ⟨rfl, rfl⟩)
    go_still_tail 8, (by kernel_rfl)
    go_wp2_with (go_at_call 90; refine (start_any _ _ _ _ _ _ _ (H.out.drewN _)).mono ?_; rintro e w' ⟨rfl, h2, t2⟩)
    go_end0
    exact ⟨rfl, by rw [HW.out]; exact h2, ((Touch.refl _ w).drewN 1).trans t2 (fun _ _ h => h)⟩

theorem pend_any (h : Pk w g l c0 c1 c2 c3 c4) :
    Calls Tryz.prog 102 #[.pointer (some ⟨g, 0, none⟩)] w fun e w' => e = .returned (.tuple #[]) ∧ Pk w' g (Pc.end_ l) c0 c1 c2 c3 c4 ∧ Touch (· = g) w w' := by
  have H : Hid (Bk w g 124 l [c0, c1, c2, c3, c4]) := h
  clear h
  go_enter Tryz.func102, Tryz.ntmps102
  go_wp2_with (go_at_call 89; refine (stops_any g l _ _ _ [1, 2, 3, 4] _ (H.out.alloc _) (Sl.lit intE _ _ (by simp) _ _ rfl _ rfl (by decide))).mono ?_; rintro e w' ⟨rfl, h2, t2⟩)
  go_end0
  exact ⟨rfl, h2, ((Touch.refl _ w).alloc _).trans t2 (fun _ _ h => h)⟩

theorem pbegin_any (h : Pk w g l c0 c1 c2 c3 c4) :
    Calls Tryz.prog 108 #[.pointer (some ⟨g, 0, none⟩)] w fun e w' => e = .returned (.tuple #[]) ∧ Pk w' g (Pc.begin_ l c1 c3) c0 c1 c2 c3 c4 ∧ Touch (· = g) w w' := by
  have H := Lib.hid h
  clear h
  go_enter Tryz.func108, Tryz.ntmps108
  go_wp2_with (go_at_call 102; refine (pend_any g l c0 c1 c2 c3 c4 _ H.out).mono ?_; rintro e w1 ⟨rfl, h1, t1⟩)
  have h6 : w1.cell? ⟨g, 6, none⟩ = some (.int .i64 c1) := Bk.cfg h1 1 _ rfl
  have H1 : Hid (Bk w1 g 124 (Pc.end_ l) [c0, c1, c2, c3, c4]) := h1
  clear h1
  go_still_tail 8, (by kernel_rfl)
  go_wp2_with (go_at_call 90; refine (start_any _ _ _ _ _ _ _ (H1.out.drewN _)).mono ?_; rintro e w2 ⟨rfl, h2, t2⟩)
  have H2 := Lib.hid h2
  clear h2
  go_wp2_with (go_at_call 91; refine (watch_any g _ c0 c1 c2 c3 c4 _ H2.out).mono ?_; rintro e w3 ⟨rfl, h3, t3⟩)
  go_end0
  exact ⟨rfl, h3, ((t1.drewN 1).trans t2 (fun _ _ h => h)).trans t3 (fun _ _ h => h)⟩

theorem pagain_any (h : Pk w g l c0 c1 c2 c3 c4) :
    Calls Tryz.prog 100 #[.pointer (some ⟨g, 0, none⟩)] w fun e w' => e = .returned (.tuple #[]) ∧ Pk w' g (Tm.start l 0 c0) c0 c1 c2 c3 c4 ∧ Touch (· = g) w w' := by
  have h5 : w.cell? ⟨g, 5, none⟩ = some (.int .i64 c0) := Bk.cfg h 0 _ rfl
  have H : Hid (Bk w g 124 l [c0, c1, c2, c3, c4]) := h
  clear h
  go_enter Tryz.func100, Tryz.ntmps100
  go_wp2_with fail
  go_still_tail 8, (by kernel_rfl)
  go_wp2_with (go_at_call 90; refine (start_any _ _ _ _ _ _ _ (H.out.drewN _)).mono ?_; rintro e w2 ⟨rfl, h2, t2⟩)
  go_end0
  exact ⟨rfl, h2, ((Touch.refl _ w).drewN 1).trans t2 (fun _ _ h => h)⟩

theorem enough_any (h : Pk w g l c0 c1 c2 c3 c4) :
    Calls Tryz.prog 101 #[.pointer (some ⟨g, 0, none⟩)] w fun e w' => e = .returned (.tuple #[]) ∧ Pk w' g (Tm.stop l 0) c0 c1 c2 c3 c4 ∧ Touch (· = g) w w' := by
  have H : Hid (Bk w g 124 l [c0, c1, c2, c3, c4]) := h
  clear h
  go_enter Tryz.func101, Tryz.ntmps101
  go_wp2_with (go_at_call 179; refine (tmstop_any _ _ _ _ _ _ H.out).mono ?_; rintro e w2 ⟨rfl, h2, t2⟩)
  go_end0
  exact ⟨rfl, h2, t2⟩

theorem asks_any (p : Option Addr) (t : Int) :
    Calls Tryz.prog 54 #[.pointer p, .int .i64 t] w fun e w' => e = .returned (.bool (decide (t = 1 ∨ t = 2 ∨ t = 4))) ∧ w = w' := by
  rcases (show t = 1 ∨ t = 2 ∨ t = 4 ∨ (¬ t = 1 ∧ ¬ t = 2 ∧ ¬ t = 4) by omega) with rfl | rfl | rfl | ⟨h1, h2, h3⟩
  · go_enter Tryz.func54, Tryz.ntmps54
    go_wp2
    go_ret
    exact ⟨rfl, rfl⟩
  · go_enter Tryz.func54, Tryz.ntmps54
    go_wp2
    go_ret
    exact ⟨rfl, rfl⟩
  · go_enter Tryz.func54, Tryz.ntmps54
    go_wp2
    go_ret
    exact ⟨rfl, rfl⟩
  · have e1 : (t == 1) = false := beq_eq_false_iff_ne.2 h1
    have e2 : (t == 2) = false := beq_eq_false_iff_ne.2 h2
    have e3 : (t == 4) = false := beq_eq_false_iff_ne.2 h3
    have hd := Lib.hid (show decide (t = 1 ∨ t = 2 ∨ t = 4) = false by simp; omega)
    clear h1 h2 h3
    go_enter Tryz.func54, Tryz.ntmps54
    go_wp2
    go_ret
    exact ⟨by rw [hd.out]; rfl, rfl⟩
end
set_option maxRecDepth 20000

section
variable (g : Nat) (l : List Int) (c0 c1 c2 c3 c4 : Int) (w : World)

theorem polled_any (idle : Bool) (h : Pk w g l c0 c1 c2 c3 c4) :
    Calls Tryz.prog 41 #[.pointer (some ⟨g, 0, none⟩), .bool idle] w fun e w' => e = .returned (.tuple #[]) ∧ Pk w' g (Pc.polled l c1 c2 c3 idle) c0 c1 c2 c3 c4 ∧ Touch (· = g) w w' := by
  have H : Hid (Bk w g 124 l [c0, c1, c2, c3, c4]) := h
  clear h
  cases idle
  all_goals
    go_enter Tryz.func41, Tryz.ntmps41
    go_wp2_with fail
    refine (stops_any g l _ _ _ [1, 2, 4] _ (H.out.alloc _) (Sl.lit intE _ _ (by simp) _ _ rfl _ rfl (by decide))).mono ?_
    rintro e w1 ⟨rfl, h1, t1⟩
    have h6 : w1.cell? ⟨g, 6, none⟩ = some (.int .i64 c1) := Bk.cfg h1 1 _ rfl
    have h7 : w1.cell? ⟨g, 7, none⟩ = some (.int .i64 c2) := Bk.cfg h1 2 _ rfl
    have H1 := Lib.hid h1
    have T1 : Hid (Touch (· = g) w w1) := ((Touch.refl _ w).alloc _).trans t1 (fun _ _ h => h)
    clear h1 t1
    go_wp2_with fail
    go_still_tail 8, (by kernel_rfl)
    go_wp2_with (go_at_call 90; refine (start_any _ _ _ _ _ _ _ (H1.out.drewN _)).mono ?_; rintro e w2 ⟨rfl, h2, t2⟩)
    have H2 := Lib.hid h2
    clear h2
    go_wp2_with (go_at_call 91; refine (watch_any g _ c0 c1 c2 c3 c4 _ H2.out).mono ?_; rintro e w3 ⟨rfl, h3, t3⟩)
    go_end0
    exact ⟨rfl, h3, ((T1.out.drewN 1).trans t2 (fun _ _ h => h)).trans t3 (fun _ _ h => h)⟩

theorem safe_any (h : Pk w g l c0 c1 c2 c3 c4) :
    Calls Tryz.prog 55 #[.pointer (some ⟨g, 0, none⟩)] w fun e w' => e = .returned (.bool (Pc.safe l)) ∧ w = w' := by
  have H : Hid (Bk w g 124 l [c0, c1, c2, c3, c4]) := h
  have HW := Lib.hid (show Pc.safe l = decide (Tm.left l 3 = 0 ∨ (0 < Tm.left l 1 ∧ Tm.left l 1 < Tm.left l 3) ∨ (0 < Tm.left l 2 ∧ Tm.left l 2 < Tm.left l 3)) from rfl)
  clear h
  have i0 : ∀ w, (Instr.index 158 (.agg #[.int .i64 1, .int .i64 2]) (.int .i64 0)).run Tryz.prog w = .ok (.int .i64 1) w := fun _ => by kernel_rfl
  have i1 : ∀ w, (Instr.index 158 (.agg #[.int .i64 1, .int .i64 2]) (.int .i64 1)).run Tryz.prog w = .ok (.int .i64 2) w := fun _ => by kernel_rfl
  by_cases h3 : Tm.left l 3 = 0
  · rw [decide_eq_true (.inl h3)] at HW
    have hz : (Tm.left l 3 == 0) = true := beq_iff_eq.2 h3
    clear h3
    go_enter Tryz.func55, Tryz.ntmps55
    go_wp2_with (go_at_call 47; refine (left_any _ _ _ _ _ _ H.out).mono ?_; rintro e w' ⟨rfl, rfl⟩)
    go_ret
    exact ⟨by rw [HW.out]; rfl, rfl⟩
  · have hz : (Tm.left l 3 == 0) = false := beq_eq_false_iff_ne.2 h3
    have HW2 : Hid (Pc.safe l = true ↔ ((0 < Tm.left l 1 ∧ Tm.left l 1 < Tm.left l 3) ∨ (0 < Tm.left l 2 ∧ Tm.left l 2 < Tm.left l 3))) := by
      unfold Hid; rw [HW.out]; simp [h3]
    clear h3
    go_enter Tryz.func55, Tryz.ntmps55
    go_wp2_with (go_at_call 47; refine (left_any _ _ _ _ _ _ H.out).mono ?_; rintro e w' ⟨rfl, rfl⟩)
    go_loop [13] (fun i => ∃ k : Nat, k ≤ 2 ∧ i = .int .i64 k ∧ Hid (1 ≤ k → ¬ (0 < Tm.left l 1 ∧ Tm.left l 1 < Tm.left l 3)) ∧ Hid (2 ≤ k → ¬ (0 < Tm.left l 2 ∧ Tm.left l 2 < Tm.left l 3))) (fun i => 2 - (intOf i).toNat)
    case atStart => exact ⟨0, by omega, rfl, fun h => by omega, fun h => by omega⟩
    case round =>
      obtain ⟨k, hk, rfl, hp1, hp2⟩ := hrel
      rcases (show k = 0 ∨ k = 1 ∨ k = 2 by omega) with rfl | rfl | rfl
      · by_cases ha : 0 < Tm.left l 1
        · have hd := decide_eq_true ha
          by_cases hb : Tm.left l 1 < Tm.left l 3
          · have hd2 := decide_eq_true hb
            have HX : Hid (Pc.safe l = true) := HW2.out.2 (.inl ⟨ha, hb⟩)
            clear ha hb
            go_wp2_with (first | (go_at_call 118; refine (runs_any _ _ _ _ _ _ H.out).mono ?_; rintro e w' ⟨rfl, rfl⟩) | (go_at_call 47; refine (left_any _ _ _ _ _ _ H.out).mono ?_; rintro e w' ⟨rfl, rfl⟩))
            go_ret
            exact ⟨by rw [HX.out]; rfl, rfl⟩
          · have hd2 := decide_eq_false hb
            have HX : Hid (¬ (0 < Tm.left l 1 ∧ Tm.left l 1 < Tm.left l 3)) := fun h => hb h.2
            clear ha hb
            go_wp2_with (first | (go_at_call 118; refine (runs_any _ _ _ _ _ _ H.out).mono ?_; rintro e w' ⟨rfl, rfl⟩) | (go_at_call 47; refine (left_any _ _ _ _ _ _ H.out).mono ?_; rintro e w' ⟨rfl, rfl⟩))
            go_round
            case rel => exact ⟨1, by omega, rfl, fun _ => HX.out, fun h => by omega⟩
            case measure => simp [intOf]
        · have hd := decide_eq_false ha
          have HX : Hid (¬ (0 < Tm.left l 1 ∧ Tm.left l 1 < Tm.left l 3)) := fun h => ha h.1
          clear ha
          go_wp2_with (first | (go_at_call 118; refine (runs_any _ _ _ _ _ _ H.out).mono ?_; rintro e w' ⟨rfl, rfl⟩) | (go_at_call 47; refine (left_any _ _ _ _ _ _ H.out).mono ?_; rintro e w' ⟨rfl, rfl⟩))
          go_round
          case rel => exact ⟨1, by omega, rfl, fun _ => HX.out, fun h => by omega⟩
          case measure => simp [intOf]
      · by_cases ha : 0 < Tm.left l 2
        · have hd := decide_eq_true ha
          by_cases hb : Tm.left l 2 < Tm.left l 3
          · have hd2 := decide_eq_true hb
            have HX : Hid (Pc.safe l = true) := HW2.out.2 (.inr ⟨ha, hb⟩)
            clear ha hb
            go_wp2_with (first | (go_at_call 118; refine (runs_any _ _ _ _ _ _ H.out).mono ?_; rintro e w' ⟨rfl, rfl⟩) | (go_at_call 47; refine (left_any _ _ _ _ _ _ H.out).mono ?_; rintro e w' ⟨rfl, rfl⟩))
            go_ret
            exact ⟨by rw [HX.out]; rfl, rfl⟩
          · have hd2 := decide_eq_false hb
            have HX : Hid (¬ (0 < Tm.left l 2 ∧ Tm.left l 2 < Tm.left l 3)) := fun h => hb h.2
            clear ha hb
            go_wp2_with (first | (go_at_call 118; refine (runs_any _ _ _ _ _ _ H.out).mono ?_; rintro e w' ⟨rfl, rfl⟩) | (go_at_call 47; refine (left_any _ _ _ _ _ _ H.out).mono ?_; rintro e w' ⟨rfl, rfl⟩))
            go_round
            case rel => exact ⟨2, by omega, rfl, fun _ => hp1.out (by omega), fun _ => HX.out⟩
            case measure => simp [intOf]
        · have hd := decide_eq_false ha
          have HX : Hid (¬ (0 < Tm.left l 2 ∧ Tm.left l 2 < Tm.left l 3)) := fun h => ha h.1
          clear ha
          go_wp2_with (first | (go_at_call 118; refine (runs_any _ _ _ _ _ _ H.out).mono ?_; rintro e w' ⟨rfl, rfl⟩) | (go_at_call 47; refine (left_any _ _ _ _ _ _ H.out).mono ?_; rintro e w' ⟨rfl, rfl⟩))
          go_round
          case rel => exact ⟨2, by omega, rfl, fun _ => hp1.out (by omega), fun _ => HX.out⟩
          case measure => simp [intOf]
      · have HX : Hid (Pc.safe l = false) := by
          unfold Hid
          cases hx : Pc.safe l
          · rfl
          · rcases HW2.out.1 hx with h | h
            · exact absurd h (hp1.out (by omega))
            · exact absurd h (hp2.out (by omega))
        go_wp2
        go_ret
        exact ⟨by rw [HX.out]; rfl, rfl⟩
end
end Go.Proofs.YtipaobpmojahaaaGreat

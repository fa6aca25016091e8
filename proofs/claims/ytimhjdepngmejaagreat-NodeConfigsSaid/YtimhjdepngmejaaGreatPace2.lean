/-
  pace.Pace: Busy, Polled, Answered, Safe.
-/
import Derived.Test.YtimhjdepngmejaaGreatPace
namespace Go.Proofs.YtimhjdepngmejaaGreat
open Go.RowKit
set_option maxRecDepth 20000

section
variable (g : Nat) (l : List Int) (c0 c1 c2 c3 c4 : Int) (w : World)

theorem busy_any (h : Pk w g l c0 c1 c2 c3 c4) :
    Calls Tryz.prog 72 #[.pointer (some ⟨g, 0, none⟩)] w fun e w' => e = .returned (.tuple #[]) ∧ Pk w' g (Pc.busy l c1 c3) c0 c1 c2 c3 c4 ∧ Touch (· = g) w w' := by
  have H : Hid (Bk w g 132 l [c0, c1, c2, c3, c4]) := h
  have HW := Lib.hid (show Pc.busy l c1 c3 = if 0 < Tm.left l 2 ∨ 0 < Tm.left l 4 then Pc.watch (Tm.start (Pc.stops l [2, 4]) 1 c1) c3 else l from rfl)
  clear h
  by_cases hr : 0 < Tm.left l 2 ∨ 0 < Tm.left l 4
  · rw [if_pos hr] at HW
    have hcase : (decide (0 < Tm.left l 2) = true) ∨ (decide (0 < Tm.left l 2) = false ∧ decide (0 < Tm.left l 4) = true) := by
      by_cases h2 : 0 < Tm.left l 2
      · exact .inl (decide_eq_true h2)
      · exact .inr ⟨decide_eq_false h2, decide_eq_true (by rcases hr with e | e; exact absurd e h2; exact e)⟩
    clear hr
    rcases hcase with hd | ⟨hd, hd2⟩
    all_goals
      go_enter Tryz.func72, Tryz.ntmps72
      go_wp2_with (go_at_call 139; refine (runs_any _ _ _ _ _ _ H.out).mono ?_; rintro e w' ⟨rfl, rfl⟩)
      refine (stops_any g l _ _ _ [2, 4] _ (H.out.alloc _) (Sl.lit intE _ _ (by simp) _ _ rfl _ rfl (by decide))).mono ?_
      rintro e w1 ⟨rfl, h1, t1⟩
      have h6 : w1.cell? ⟨g, 6, none⟩ = some (.int .i64 c1) := Bk.cfg h1 1 _ rfl
      have H1 := Lib.hid h1
      have T1 : Hid (Touch (· = g) w w1) := ((Touch.refl _ w).alloc _).trans t1 (fun _ _ h => h)
      clear h1 t1
      go_wp2_with fail
      go_still_tail 8, (by kernel_rfl)
      go_wp2_with (go_at_call 88; refine (start_any _ _ _ _ _ _ _ (H1.out.drewN _)).mono ?_; rintro e w2 ⟨rfl, h2, t2⟩)
      have H2 := Lib.hid h2
      clear h2
      go_wp2_with (go_at_call 89; refine (watch_any g _ c0 c1 c2 c3 c4 _ H2.out).mono ?_; rintro e w3 ⟨rfl, h3, t3⟩)
      go_end0
      exact ⟨rfl, by rw [HW.out]; exact h3, ((T1.out.drewN 1).trans t2 (fun _ _ h => h)).trans t3 (fun _ _ h => h)⟩
  · rw [if_neg hr] at HW
    have hd : decide (0 < Tm.left l 2) = false := decide_eq_false (fun e => hr (.inl e))
    have hd2 : decide (0 < Tm.left l 4) = false := decide_eq_false (fun e => hr (.inr e))
    clear hr
    go_enter Tryz.func72, Tryz.ntmps72
    go_wp2_with (go_at_call 139; refine (runs_any _ _ _ _ _ _ H.out).mono ?_; rintro e w' ⟨rfl, rfl⟩)
    first | go_end0 | refine bodyPost_ret (results_none rfl _ _ _) rfl ?_
    exact ⟨rfl, by rw [HW.out]; exact H.out, Touch.refl _ _⟩

theorem polled_any (idle : Bool) (h : Pk w g l c0 c1 c2 c3 c4) :
    Calls Tryz.prog 50 #[.pointer (some ⟨g, 0, none⟩), .bool idle] w fun e w' => e = .returned (.tuple #[]) ∧ Pk w' g (Pc.polled l c1 c2 c3 idle) c0 c1 c2 c3 c4 ∧ Touch (· = g) w w' := by
  have H : Hid (Bk w g 132 l [c0, c1, c2, c3, c4]) := h
  clear h
  cases idle
  all_goals
    go_enter Tryz.func50, Tryz.ntmps50
    go_wp2_with fail
    refine (stops_any g l _ _ _ [1, 2, 4] _ (H.out.alloc _) (Sl.lit intE _ _ (by simp) _ _ rfl _ rfl (by decide))).mono ?_
    rintro e w1 ⟨rfl, h1, t1⟩
    have h6 : w1.cell? ⟨g, 6, none⟩ = some (.int .i64 c1) := Bk.cfg h1 1 _ rfl
    have h7 : w1.cell? ⟨g, 7, none⟩ = some (.int .i64 c2) := Bk.cfg h1 2 _ rfl
    have H1 := Lib.hid h1
    have T1 : Hid (Touch (· = g) w w1) := ((Touch.refl _ w).alloc _).trans t1 (fun _ _ h => h)
    clear h1 t1
    go_wp2_with fail
    go_still_tail 8, (by kernel_rfl)
    go_wp2_with (go_at_call 88; refine (start_any _ _ _ _ _ _ _ (H1.out.drewN _)).mono ?_; rintro e w2 ⟨rfl, h2, t2⟩)
    have H2 := Lib.hid h2
    clear h2
    go_wp2_with (go_at_call 89; refine (watch_any g _ c0 c1 c2 c3 c4 _ H2.out).mono ?_; rintro e w3 ⟨rfl, h3, t3⟩)
    go_end0
    exact ⟨rfl, h3, ((T1.out.drewN 1).trans t2 (fun _ _ h => h)).trans t3 (fun _ _ h => h)⟩

theorem answered_any (idle : Bool) (h : Pk w g l c0 c1 c2 c3 c4) :
    Calls Tryz.prog 160 #[.pointer (some ⟨g, 0, none⟩), .bool idle] w fun e w' => e = .returned (.tuple #[]) ∧ Pk w' g (Pc.answered l c3 c4 idle) c0 c1 c2 c3 c4 ∧ Touch (· = g) w w' := by
  have H : Hid (Bk w g 132 l [c0, c1, c2, c3, c4]) := h
  have h8 : w.cell? ⟨g, 8, none⟩ = some (.int .i64 c3) := Bk.cfg h 3 _ rfl
  have HW := Lib.hid (show Pc.answered l c3 c4 idle = if idle = true ∧ 0 < Tm.left l 2 then Tm.start (Pc.stops l [2, 3]) 4 c4 else if 0 < Tm.left l 4 then l else Tm.start l 3 c3 from rfl)
  clear h
  by_cases hr : idle = true ∧ 0 < Tm.left l 2
  · rw [if_pos hr] at HW
    obtain ⟨rfl, h2⟩ := hr
    have hd := decide_eq_true h2
    clear h2
    go_enter Tryz.func160, Tryz.ntmps160
    go_wp2_with (go_at_call 139; refine (runs_any _ _ _ _ _ _ H.out).mono ?_; rintro e w' ⟨rfl, rfl⟩)
    refine (stops_any g l _ _ _ [2, 3] _ (H.out.alloc _) (Sl.lit intE _ _ (by simp) _ _ rfl _ rfl (by decide))).mono ?_
    rintro e w1 ⟨rfl, h1, t1⟩
    have h9 : w1.cell? ⟨g, 9, none⟩ = some (.int .i64 c4) := Bk.cfg h1 4 _ rfl
    have H1 := Lib.hid h1
    have T1 : Hid (Touch (· = g) w w1) := ((Touch.refl _ w).alloc _).trans t1 (fun _ _ h => h)
    clear h1 t1
    go_wp2_with fail
    go_still_tail 8, (by kernel_rfl)
    go_wp2_with (go_at_call 88; refine (start_any _ _ _ _ _ _ _ (H1.out.drewN _)).mono ?_; rintro e w2 ⟨rfl, h2, t2⟩)
    first | go_end0 | refine bodyPost_ret (results_none rfl _ _ _) rfl ?_
    exact ⟨rfl, by rw [HW.out]; exact h2, ((T1.out.drewN 1).trans t2 (fun _ _ h => h))⟩
  · rw [if_neg hr] at HW
    have hcase : (idle = false) ∨ (idle = true ∧ decide (0 < Tm.left l 2) = false) := by
      cases idle
      · exact .inl rfl
      · exact .inr ⟨rfl, decide_eq_false (fun e => hr ⟨rfl, e⟩)⟩
    clear hr
    by_cases h4 : 0 < Tm.left l 4
    · rw [if_pos h4] at HW
      have hd4 := decide_eq_true h4
      clear h4
      rcases hcase with rfl | ⟨rfl, hd⟩
      all_goals
        go_enter Tryz.func160, Tryz.ntmps160
        go_wp2_with (go_at_call 139; refine (runs_any _ _ _ _ _ _ H.out).mono ?_; rintro e w' ⟨rfl, rfl⟩)
        go_end0
        exact ⟨rfl, by rw [HW.out]; exact H.out, Touch.refl _ _⟩
    · rw [if_neg h4] at HW
      have hd4 := decide_eq_false h4
      clear h4
      rcases hcase with rfl | ⟨rfl, hd⟩
      all_goals
        go_enter Tryz.func160, Tryz.ntmps160
        go_wp2_with (go_at_call 139; refine (runs_any _ _ _ _ _ _ H.out).mono ?_; rintro e w' ⟨rfl, rfl⟩)
        go_still_tail 8, (by kernel_rfl)
        go_wp2_with (go_at_call 88; refine (start_any _ _ _ _ _ _ _ (H.out.drewN _)).mono ?_; rintro e w2 ⟨rfl, h2, t2⟩)
        go_end0
        exact ⟨rfl, by rw [HW.out]; exact h2, (((Touch.refl _ w).drewN 1).trans t2 (fun _ _ h => h))⟩

theorem safe_any (h : Pk w g l c0 c1 c2 c3 c4) :
    Calls Tryz.prog 206 #[.pointer (some ⟨g, 0, none⟩)] w fun e w' => e = .returned (.bool (Pc.safe l)) ∧ w = w' := by
  have H : Hid (Bk w g 132 l [c0, c1, c2, c3, c4]) := h
  have HW := Lib.hid (show Pc.safe l = decide (Tm.left l 3 = 0 ∨ (0 < Tm.left l 1 ∧ Tm.left l 1 < Tm.left l 3) ∨ (0 < Tm.left l 2 ∧ Tm.left l 2 < Tm.left l 3)) from rfl)
  clear h
  have i0 : ∀ w, (Instr.index 157 (.agg #[.int .i64 1, .int .i64 2]) (.int .i64 0)).run Tryz.prog w = .ok (.int .i64 1) w := fun _ => by kernel_rfl
  have i1 : ∀ w, (Instr.index 157 (.agg #[.int .i64 1, .int .i64 2]) (.int .i64 1)).run Tryz.prog w = .ok (.int .i64 2) w := fun _ => by kernel_rfl
  by_cases h3 : Tm.left l 3 = 0
  · rw [decide_eq_true (.inl h3)] at HW
    have hz : (Tm.left l 3 == 0) = true := beq_iff_eq.2 h3
    clear h3
    go_enter Tryz.func206, Tryz.ntmps206
    go_wp2_with (go_at_call 56; refine (left_any _ _ _ _ _ _ H.out).mono ?_; rintro e w' ⟨rfl, rfl⟩)
    go_ret
    exact ⟨by rw [HW.out]; rfl, rfl⟩
  · have hz : (Tm.left l 3 == 0) = false := beq_eq_false_iff_ne.2 h3
    have HW2 : Hid (Pc.safe l = true ↔ ((0 < Tm.left l 1 ∧ Tm.left l 1 < Tm.left l 3) ∨ (0 < Tm.left l 2 ∧ Tm.left l 2 < Tm.left l 3))) := by
      unfold Hid; rw [HW.out]; simp [h3]
    clear h3
    go_enter Tryz.func206, Tryz.ntmps206
    go_wp2_with (go_at_call 56; refine (left_any _ _ _ _ _ _ H.out).mono ?_; rintro e w' ⟨rfl, rfl⟩)
    go_loop [13] (fun i => ∃ k : Nat, k ≤ 2 ∧ i = .int .i64 k ∧ Hid (1 ≤ k → ¬ (0 < Tm.left l 1 ∧ Tm.left l 1 < Tm.left l 3)) ∧ Hid (2 ≤ k → ¬ (0 < Tm.left l 2 ∧ Tm.left l 2 < Tm.left l 3))) (fun i => 2 - (intOf i).toNat)
    case atStart => exact ⟨0, by omega, rfl, fun h => by omega, fun h => by omega⟩
    case round =>
      obtain ⟨k, hk, rfl, hp1, hp2⟩ := hrel
      rcases (show k = 0 ∨ k = 1 ∨ k = 2 by omega) with rfl | rfl | rfl
      · by_cases ha : 0 < Tm.left l 1
        · have hd := decide_eq_true ha
          by_cases hb : Tm.left l 1 < Tm.left l 3
          · have hd2 := decide_eq_true hb
            have HX : Hid (Pc.safe l = true) := HW2.out.2 (.inl ⟨ha, hb⟩)
            clear ha hb
            go_wp2_with (first | (go_at_call 139; refine (runs_any _ _ _ _ _ _ H.out).mono ?_; rintro e w' ⟨rfl, rfl⟩) | (go_at_call 56; refine (left_any _ _ _ _ _ _ H.out).mono ?_; rintro e w' ⟨rfl, rfl⟩))
            go_ret
            exact ⟨by rw [HX.out]; rfl, rfl⟩
          · have hd2 := decide_eq_false hb
            have HX : Hid (¬ (0 < Tm.left l 1 ∧ Tm.left l 1 < Tm.left l 3)) := fun h => hb h.2
            clear ha hb
            go_wp2_with (first | (go_at_call 139; refine (runs_any _ _ _ _ _ _ H.out).mono ?_; rintro e w' ⟨rfl, rfl⟩) | (go_at_call 56; refine (left_any _ _ _ _ _ _ H.out).mono ?_; rintro e w' ⟨rfl, rfl⟩))
            go_round
            case rel => exact ⟨1, by omega, rfl, fun _ => HX.out, fun h => by omega⟩
            case measure => simp [intOf]
        · have hd := decide_eq_false ha
          have HX : Hid (¬ (0 < Tm.left l 1 ∧ Tm.left l 1 < Tm.left l 3)) := fun h => ha h.1
          clear ha
          go_wp2_with (first | (go_at_call 139; refine (runs_any _ _ _ _ _ _ H.out).mono ?_; rintro e w' ⟨rfl, rfl⟩) | (go_at_call 56; refine (left_any _ _ _ _ _ _ H.out).mono ?_; rintro e w' ⟨rfl, rfl⟩))
          go_round
          case rel => exact ⟨1, by omega, rfl, fun _ => HX.out, fun h => by omega⟩
          case measure => simp [intOf]
      · by_cases ha : 0 < Tm.left l 2
        · have hd := decide_eq_true ha
          by_cases hb : Tm.left l 2 < Tm.left l 3
          · have hd2 := decide_eq_true hb
            have HX : Hid (Pc.safe l = true) := HW2.out.2 (.inr ⟨ha, hb⟩)
            clear ha hb
            go_wp2_with (first | (go_at_call 139; refine (runs_any _ _ _ _ _ _ H.out).mono ?_; rintro e w' ⟨rfl, rfl⟩) | (go_at_call 56; refine (left_any _ _ _ _ _ _ H.out).mono ?_; rintro e w' ⟨rfl, rfl⟩))
            go_ret
            exact ⟨by rw [HX.out]; rfl, rfl⟩
          · have hd2 := decide_eq_false hb
            have HX : Hid (¬ (0 < Tm.left l 2 ∧ Tm.left l 2 < Tm.left l 3)) := fun h => hb h.2
            clear ha hb
            go_wp2_with (first | (go_at_call 139; refine (runs_any _ _ _ _ _ _ H.out).mono ?_; rintro e w' ⟨rfl, rfl⟩) | (go_at_call 56; refine (left_any _ _ _ _ _ _ H.out).mono ?_; rintro e w' ⟨rfl, rfl⟩))
            go_round
            case rel => exact ⟨2, by omega, rfl, fun _ => hp1.out (by omega), fun _ => HX.out⟩
            case measure => simp [intOf]
        · have hd := decide_eq_false ha
          have HX : Hid (¬ (0 < Tm.left l 2 ∧ Tm.left l 2 < Tm.left l 3)) := fun h => ha h.1
          clear ha
          go_wp2_with (first | (go_at_call 139; refine (runs_any _ _ _ _ _ _ H.out).mono ?_; rintro e w' ⟨rfl, rfl⟩) | (go_at_call 56; refine (left_any _ _ _ _ _ _ H.out).mono ?_; rintro e w' ⟨rfl, rfl⟩))
          go_round
          case rel => exact ⟨2, by omega, rfl, fun _ => hp1.out (by omega), fun _ => HX.out⟩
          case measure => simp [intOf]
      · have HX : Hid (Pc.safe l = false) := by
          unfold Hid
          cases hx : Pc.safe l
          · rfl
          · rcases HW2.out.1 hx with h | h
            · exact absurd h (hp1.out (by omega))
            · exact absurd h (hp2.out (by omega))
        go_wp2
        go_ret
        exact ⟨by rw [HX.out]; rfl, rfl⟩
end
end Go.Proofs.YtimhjdepngmejaaGreat

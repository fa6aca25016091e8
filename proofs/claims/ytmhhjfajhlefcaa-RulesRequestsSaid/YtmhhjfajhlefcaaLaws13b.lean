/-
  polliwoglaw13: RulesEnds, RulesRequests, RulesCovered.
-/
import Derived.Test.YtmhhjfajhlefcaaLaws13
namespace Go.Proofs.Ytmhhjfajhlefcaa
open Go.RowKit Go.PlainAid

theorem ends_all : (List.range 10).all (fun a => let s : Int := (a : Int) + 1
    ((Ru.of_ s 3 == 1) == (s != 2)) && (Ru.of_ s 4 == 4) == decide (5 ≤ s) && (Ru.of_ s 7 == 4) == decide (5 ≤ s) && Ru.of_ s 1 == 1 && Ru.of_ s 13 == 1 && Ru.of_ s 14 == 1) = true := by decide +kernel
theorem ends_at (s : Int) (h1 : 1 ≤ s) (h2 : s ≤ 10) : ((Ru.of_ s 3 == 1) == (s != 2)) = true ∧ (Ru.of_ s 4 == 4) = decide (5 ≤ s) ∧ (Ru.of_ s 7 == 4) = decide (5 ≤ s) ∧ Ru.of_ s 1 = 1 ∧ Ru.of_ s 13 = 1 ∧ Ru.of_ s 14 = 1 := by
  obtain ⟨a, rfl⟩ : ∃ a : Nat, s = (a : Int) + 1 := ⟨(s - 1).toNat, by omega⟩
  have := List.all_eq_true.1 ends_all a (List.mem_range.2 (by omega))
  simp only [Bool.and_eq_true] at this
  obtain ⟨⟨⟨⟨⟨e1, e2⟩, e3⟩, e4⟩, e5⟩, e6⟩ := this
  exact ⟨e1, eq_of_beq e2, eq_of_beq e3, eq_of_beq e4, eq_of_beq e5, eq_of_beq e6⟩
theorem reqs_all : (List.range 10).all (fun a => let s : Int := (a : Int) + 1
    Ru.may s 1 == (s == 1 || s == 4) && Ru.may s 3 == !(s == 1 || s == 4) && Ru.may s 2 == (s == 3) && Ru.may s 8 && Ru.may s 11 && !Ru.may s 0 && !Ru.may s 12 && Ru.may s 7 == (s == 10)) = true := by decide +kernel
theorem reqs_at (s : Int) (h1 : 1 ≤ s) (h2 : s ≤ 10) : Ru.may s 1 = (s == 1 || s == 4) ∧ Ru.may s 3 = !(s == 1 || s == 4) ∧ Ru.may s 2 = (s == 3) ∧ Ru.may s 8 = true ∧ Ru.may s 11 = true ∧ Ru.may s 0 = false ∧ Ru.may s 12 = false ∧ Ru.may s 7 = (s == 10) := by
  obtain ⟨a, rfl⟩ : ∃ a : Nat, s = (a : Int) + 1 := ⟨(s - 1).toNat, by omega⟩
  have := List.all_eq_true.1 reqs_all a (List.mem_range.2 (by omega))
  simp only [Bool.and_eq_true] at this
  obtain ⟨⟨⟨⟨⟨⟨⟨e1, e2⟩, e3⟩, e4⟩, e5⟩, e6⟩, e7⟩, e8⟩ := this
  exact ⟨eq_of_beq e1, eq_of_beq e2, eq_of_beq e3, e4, e5, by simpa using e6, by simpa using e7, eq_of_beq e8⟩

set_option maxRecDepth 100000 in
set_option maxHeartbeats 2000000 in
theorem rulesEnds.core (s a0 : Int) (h1 : 1 ≤ s) (h2 : s ≤ 10) (ha : 1 + (bits BinOp.and .i64 a0 255).tmod 10 = s) (hb : 0 ≤ (bits BinOp.and .i64 a0 255).tmod 10 ∧ (bits BinOp.and .i64 a0 255).tmod 10 ≤ 9) (w : World) :
    Calls Try.prog 9 #[.int .i64 a0] w fun e w' => e = .returned (.bool true) ∧ Below w.heap.size w w' := by
  obtain ⟨e1, e2, e3, e4, e5, e6⟩ := ends_at s h1 h2
  have E4 := Lib.hid e4
  have E5 := Lib.hid e5
  have E6 := Lib.hid e6
  clear e4 e5 e6
  go_enter Try.func9, Try.ntmps9
  go_wp2_with fail
  refine (awake13_any _).mono ?_
  rintro e w1 ⟨rfl, t1⟩
  go_wp2_with fail
  clear ha hb
  refine (of_any s 3 _).mono ?_
  rintro e w2 ⟨rfl, t2⟩
  generalize Ru.of_ s 3 = x3 at *
  go_wp2_with fail
  refine (of_any s 4 _).mono ?_
  rintro e w3 ⟨rfl, t3⟩
  generalize Ru.of_ s 4 = x4 at *
  have t13 := Lib.hid ((t1.trans t2 (fun _ _ h => h)).trans t3 (fun _ _ h => h))
  clear t1 t2 t3
  by_cases h5 : 5 ≤ s
  · rw [decide_eq_true h5] at e2 e3
    go_wp2_with fail
    refine (of_any s 7 _).mono ?_
    rintro e w4 ⟨rfl, t4⟩
    have t14 := Lib.hid (t13.out.trans t4 (fun _ _ h => h))
    clear t4
    generalize Ru.of_ s 7 = x7 at *
    go_wp2_with fail
    refine (of_any s 1 _).mono ?_
    rintro e w5 ⟨rfl, t5⟩
    rw [E4.out]
    have t15 := Lib.hid (t14.out.trans t5 (fun _ _ h => h))
    clear t5
    go_wp2_with fail
    refine (of_any s 13 _).mono ?_
    rintro e w6 ⟨rfl, t6⟩
    rw [E5.out]
    have t16 := Lib.hid (t15.out.trans t6 (fun _ _ h => h))
    clear t6
    go_wp2_with fail
    refine (of_any s 14 _).mono ?_
    rintro e w7 ⟨rfl, t7⟩
    rw [E6.out]
    have t17 := Lib.hid (t16.out.trans t7 (fun _ _ h => h))
    clear t7
    go_wp2
    go_ret
    exact ⟨rfl, t17.out.below (Nat.le_refl _) (fun _ _ h => h)⟩
  · rw [decide_eq_false h5] at e2 e3
    go_wp2_with fail
    refine (of_any s 1 _).mono ?_
    rintro e w5 ⟨rfl, t5⟩
    rw [E4.out]
    have t15 := Lib.hid (t13.out.trans t5 (fun _ _ h => h))
    clear t5
    go_wp2_with fail
    refine (of_any s 13 _).mono ?_
    rintro e w6 ⟨rfl, t6⟩
    rw [E5.out]
    have t16 := Lib.hid (t15.out.trans t6 (fun _ _ h => h))
    clear t6
    go_wp2_with fail
    refine (of_any s 14 _).mono ?_
    rintro e w7 ⟨rfl, t7⟩
    rw [E6.out]
    have t17 := Lib.hid (t16.out.trans t7 (fun _ _ h => h))
    clear t7
    go_wp2
    go_ret
    exact ⟨by simp; omega, t17.out.below (Nat.le_refl _) (fun _ _ h => h)⟩

theorem mod_and (a0 : Int) (m : Int) (hm : 0 < m) : (bits BinOp.and .i64 a0 255).tmod m = a0 % 256 % m := by rw [and_255, Int.tmod_eq_emod_of_nonneg (by omega)]

theorem rulesEnds.walk (a0 : Int) (w : World) (_h0 : (Lit.int .i64 a0).wf = true) :
    Calls Try.prog 9 #[.int .i64 a0] w fun e w' => e = .returned (.bool true) ∧ Below w.heap.size w w' := by
  have h := mod_and a0 10 (by omega)
  exact rulesEnds.core (1 + a0 % 256 % 10) a0 (by omega) (by omega) (by rw [h]) (by rw [h]; omega) w

set_option maxRecDepth 100000 in
set_option maxHeartbeats 2000000 in
theorem rulesRequests.core (s a0 : Int) (h1 : 1 ≤ s) (h2 : s ≤ 10) (ha : 1 + (bits BinOp.and .i64 a0 255).tmod 10 = s) (hb : 0 ≤ (bits BinOp.and .i64 a0 255).tmod 10 ∧ (bits BinOp.and .i64 a0 255).tmod 10 ≤ 9) (w : World) :
    Calls Try.prog 10 #[.int .i64 a0] w fun e w' => e = .returned (.bool true) ∧ Below w.heap.size w w' := by
  obtain ⟨e1, e3, e2, e8, e11, e0, e12, _⟩ := reqs_at s h1 h2
  have E8 := Lib.hid e8
  have E11 := Lib.hid e11
  have E0 := Lib.hid e0
  have E12 := Lib.hid e12
  have E1 := Lib.hid e1
  have E2 := Lib.hid e2
  have E3 := Lib.hid e3
  clear e8 e11 e0 e12 e1 e2 e3
  obtain ⟨r, hr⟩ : ∃ r : Bool, Hid (r = (s == 1 || s == 4)) := ⟨_, rfl⟩
  go_enter Try.func10, Try.ntmps10
  go_wp2_with fail
  refine (awake13_any _).mono ?_
  rintro e w1 ⟨rfl, t1⟩
  have T1 := Lib.hid t1
  clear t1
  go_upto_region 4 with (fail)
  clear ha hb
  go_cut [3] (fun v wx => v = .bool r ∧ wx = w1)
  case first =>
    by_cases s1 : s = 1
    · have hr1 : Hid (r = true) := by show _ = _; rw [hr.out, s1]; rfl
      have b1 : (s == 1) = true := by simp [s1]
      clear s1
      go_wp2
      go_meet
      case rel => exact ⟨by rw [hr1.out], rfl⟩
    · have b1 : (s == 1) = false := by simp [s1]
      have hr1 : Hid (r = (s == 4)) := by show _ = _; rw [hr.out, b1]; rfl
      go_wp2
      go_meet
      case rel => exact ⟨by rw [hr1.out], rfl⟩
  case rest =>
    obtain ⟨rfl, rfl⟩ := hcut
    go_wp2_with fail
    refine (may_any s 1 _).mono ?_
    rintro e w2 ⟨rfl, t2⟩
    rw [E1.out, ← hr.out]
    have t12 := Lib.hid (T1.out.trans t2 (fun _ _ h => h))
    clear t2
    go_wp2_with fail
    refine (may_any s 3 _).mono ?_
    rintro e w3 ⟨rfl, t3⟩
    rw [E3.out, ← hr.out]
    have t13 := Lib.hid (t12.out.trans t3 (fun _ _ h => h))
    clear t3
    go_wp2_with fail
    refine (may_any s 2 _).mono ?_
    rintro e w4 ⟨rfl, t4⟩
    rw [E2.out]
    have t14 := Lib.hid (t13.out.trans t4 (fun _ _ h => h))
    clear t4
    go_wp2_with fail
    refine (may_any s 8 _).mono ?_
    rintro e w5 ⟨rfl, t5⟩
    rw [E8.out]
    have t15 := Lib.hid (t14.out.trans t5 (fun _ _ h => h))
    clear t5
    go_wp2_with fail
    refine (may_any s 11 _).mono ?_
    rintro e w6 ⟨rfl, t6⟩
    rw [E11.out]
    have t16 := Lib.hid (t15.out.trans t6 (fun _ _ h => h))
    clear t6
    go_wp2_with fail
    refine (may_any s 0 _).mono ?_
    rintro e w7 ⟨rfl, t7⟩
    rw [E0.out]
    have t17 := Lib.hid (t16.out.trans t7 (fun _ _ h => h))
    clear t7
    go_wp2_with fail
    refine (may_any s 12 _).mono ?_
    rintro e w8 ⟨rfl, t8⟩
    rw [E12.out]
    have t18 := Lib.hid (t17.out.trans t8 (fun _ _ h => h))
    clear t8
    go_wp2
    go_ret
    exact ⟨rfl, t18.out.below (Nat.le_refl _) (fun _ _ h => h)⟩

theorem rulesRequests.walk (a0 : Int) (w : World) (_h0 : (Lit.int .i64 a0).wf = true) :
    Calls Try.prog 10 #[.int .i64 a0] w fun e w' => e = .returned (.bool true) ∧ Below w.heap.size w w' := by
  have h := mod_and a0 10 (by omega)
  exact rulesRequests.core (1 + a0 % 256 % 10) a0 (by omega) (by omega) (by rw [h]) (by rw [h]; omega) w
end Go.Proofs.Ytmhhjfajhlefcaa

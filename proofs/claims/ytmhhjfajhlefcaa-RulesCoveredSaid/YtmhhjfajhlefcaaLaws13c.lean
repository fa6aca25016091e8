/-
  polliwoglaw13.RulesCovered: each state has a word for each kind.
-/
import Derived.Test.YtmhhjfajhlefcaaLaws13b
namespace Go.Proofs.Ytmhhjfajhlefcaa
open Go.RowKit Go.PlainAid

theorem cov_all : (List.range 10).all (fun a => (List.range 15).all fun b => let s : Int := (a : Int) + 1; let k : Int := (b : Int) + 1
    let x := Ru.of_ s k
    decide (0 ≤ x ∧ x ≤ 4 ∧ (x = 3 → s = 1) ∧ (2 ≤ x → Ru.letter k ≠ 0))) = true := by decide +kernel
theorem cov_at (s k : Int) (h1 : 1 ≤ s) (h2 : s ≤ 10) (k1 : 1 ≤ k) (k2 : k ≤ 15) : 0 ≤ Ru.of_ s k ∧ Ru.of_ s k ≤ 4 ∧ (Ru.of_ s k = 3 → s = 1) ∧ (2 ≤ Ru.of_ s k → Ru.letter k ≠ 0) := by
  obtain ⟨a, rfl⟩ : ∃ a : Nat, s = (a : Int) + 1 := ⟨(s - 1).toNat, by omega⟩
  obtain ⟨b, rfl⟩ : ∃ b : Nat, k = (b : Int) + 1 := ⟨(k - 1).toNat, by omega⟩
  have := List.all_eq_true.1 cov_all a (List.mem_range.2 (by omega))
  have := List.all_eq_true.1 this b (List.mem_range.2 (by omega))
  exact of_decide_eq_true this
/-- In how many of the first n states a kind is handled. -/
def cov (k : Int) : Nat → Nat
  | 0 => 0
  | n + 1 => cov k n + if Ru.of_ ((n : Int) + 1) k = 1 then 1 else 0
theorem cov_le (k : Int) (n : Nat) : cov k n ≤ n := by
  induction n with
  | zero => simp [cov]
  | succ n ih => unfold cov; split <;> omega
theorem cov_some : (List.range 15).all (fun b => decide (1 ≤ cov ((b : Int) + 1) 10)) = true := by decide +kernel
theorem cov_pos (k : Int) (k1 : 1 ≤ k) (k2 : k ≤ 15) : 1 ≤ cov k 10 := by
  obtain ⟨b, rfl⟩ : ∃ b : Nat, k = (b : Int) + 1 := ⟨(k - 1).toNat, by omega⟩
  have := List.all_eq_true.1 cov_some b (List.mem_range.2 (by omega))
  simpa using this

set_option maxRecDepth 100000 in
set_option maxHeartbeats 8000000 in
theorem rulesCovered.core (kd a0 : Int) (h1 : 1 ≤ kd) (h2 : kd ≤ 15) (ha : 1 + (bits BinOp.and .i64 a0 255).tmod 15 = kd) (hb : 0 ≤ (bits BinOp.and .i64 a0 255).tmod 15 ∧ (bits BinOp.and .i64 a0 255).tmod 15 ≤ 14) (w : World) :
    Calls Try.prog 8 #[.int .i64 a0] w fun e w' => e = .returned (.bool true) ∧ Below w.heap.size w w' := by
  have HP := Lib.hid (cov_pos kd h1 h2)
  go_enter Try.func8, Try.ntmps8
  go_wp2_with fail
  refine (awake13_any _).mono ?_
  rintro e w1 ⟨rfl, t1⟩
  have T1 := Lib.hid t1
  clear t1
  go_wp2_with fail
  clear ha hb
  go_loopw [3, 4] (fun h i wr => ∃ k : Nat, k ≤ 10 ∧ i = .int .i64 ((k : Int) + 1) ∧ h = .int .i64 (cov kd k) ∧ Fresh w wr) (fun _ i _ => 11 - (intOf i).toNat)
  case atStart => exact ⟨0, by omega, rfl, rfl, T1.out⟩
  case round =>
    obtain ⟨k, hk, rfl, rfl, ht⟩ := hrel
    by_cases hlt : k < 10
    · have HT := Lib.hid ht
      clear ht
      obtain ⟨s, hs⟩ : ∃ s : Int, Hid (s = (k : Int) + 1) := ⟨_, rfl⟩
      have hs1 : 1 ≤ s := by have := hs.out; omega
      have hs2 : s ≤ 10 := by have := hs.out; omega
      rw [← hs.out]
      obtain ⟨c1, c2, c3, c4⟩ := cov_at s kd hs1 hs2 h1 h2
      have hcs : Hid (cov kd (k + 1) = cov kd k + if Ru.of_ s kd = 1 then 1 else 0) := by show _ = _; rw [hs.out]; rfl
      have hcl := cov_le kd k
      go_wp2_with fail
      refine (of_any s kd _).mono ?_
      rintro e w2 ⟨rfl, t2⟩
      have T2 := Lib.hid (HT.out.trans t2 (fun _ _ h => h))
      clear t2
      generalize Ru.of_ s kd = x at *
      generalize hcq : cov kd k = q at *
      have HQ := Lib.hid hcq
      clear hcq
      go_upto_region 9 with (fail)
      go_cut [51] (fun v wx => v = .bool false ∧ wx = w2)
      case first =>
        have hx : x = 0 ∨ x = 1 ∨ x = 2 ∨ x = 3 ∨ x = 4 := by omega
        clear hcs
        rcases hx with rfl | rfl | rfl | rfl | rfl
        · go_wp2
          go_meet
          case rel => exact ⟨rfl, rfl⟩
        · go_wp2
          go_meet
          case rel => exact ⟨rfl, rfl⟩
        · have hl := c4 (by omega)
          have hlb : (Ru.letter kd == 0) = false := by simpa using hl
          clear c3 c4 hl
          go_wp2_with fail
          refine (letter_any kd _).mono ?_
          rintro e w2' ⟨rfl, rfl⟩
          generalize Ru.letter kd = y at *
          go_wp2
          go_meet
          case rel => exact ⟨rfl, rfl⟩
        · have hl := c4 (by omega)
          have hlb : (Ru.letter kd == 0) = false := by simpa using hl
          have hsb : (s != 1) = false := by simpa using c3 rfl
          clear c3 c4 hl
          go_wp2_with fail
          refine (letter_any kd _).mono ?_
          rintro e w2' ⟨rfl, rfl⟩
          generalize Ru.letter kd = y at *
          go_wp2
          go_meet
          case rel => exact ⟨rfl, rfl⟩
        · have hl := c4 (by omega)
          have hlb : (Ru.letter kd == 0) = false := by simpa using hl
          clear c3 c4 hl
          go_wp2_with fail
          refine (letter_any kd _).mono ?_
          rintro e w2' ⟨rfl, rfl⟩
          generalize Ru.letter kd = y at *
          go_wp2
          go_meet
          case rel => exact ⟨rfl, rfl⟩
      case rest =>
        obtain ⟨rfl, rfl⟩ := hcut
        clear c3 c4
        go_upto_if 53 with (fail)
        go_cut [3] (fun v wx => v = .int .i64 (cov kd (k + 1)) ∧ wx = wc)
        case first =>
          by_cases x1 : x = 1
          · have xb : (x == 1) = true := by simp [x1]
            rw [if_pos x1] at hcs
            clear x1
            go_wp2
            go_meet
            case rel => exact ⟨by rw [hcs.out]; go_num, rfl⟩
          · have xb : (x == 1) = false := by simp [x1]
            rw [if_neg x1] at hcs
            clear x1
            go_wp2
            go_meet
            case rel => exact ⟨by rw [hcs.out]; go_num, rfl⟩
        case rest =>
          obtain ⟨rfl, hwc⟩ := hcut
          subst hwc
          clear hcs
          obtain ⟨_, _, _, m8, _, _, _, m7⟩ := reqs_at s hs1 hs2
          have M8 := Lib.hid m8
          have M7 := Lib.hid m7
          clear m8 m7
          go_wp2_with fail
          go_loopw [6, 7] (fun v i wx => ∃ (j : Nat) (b : Bool), j ≤ 11 ∧ i = .int .i64 ((j : Int) + 1) ∧ v = .bool b ∧ (8 ≤ j → b = true) ∧ Fresh w wx) (fun _ i _ => 12 - (intOf i).toNat)
          case atStart => exact ⟨0, false, by omega, rfl, rfl, by omega, T2.out⟩
          case round =>
            obtain ⟨j, b, hj, rfl, rfl, hj8, htx⟩ := hrel
            have HTX := Lib.hid htx
            have H8 := Lib.hid hj8
            clear htx hj8
            by_cases hjl : j < 11
            · cases b
              · go_wp2_with fail
                refine (may_any s _ _).mono ?_
                rintro e w5 ⟨rfl, t5⟩
                have T5 := Lib.hid (HTX.out.trans t5 (fun _ _ h => h))
                have H9 : Hid (8 ≤ j + 1 → Ru.may s ((j : Int) + 1) = true) := fun h => by
                  by_cases h7 : j = 7
                  · subst h7; exact M8.out
                  · have := H8.out (by omega); cases this
                generalize Ru.may s ((j : Int) + 1) = b2 at *
                clear t5
                go_wp2
                go_roundw
                case rel => exact ⟨j + 1, b2, by omega, by go_num, rfl, H9.out, T5.out⟩
                case measure => simp [intOf]; omega
              · go_wp2
                go_roundw
                case rel => exact ⟨j + 1, true, by omega, by go_num, rfl, fun _ => rfl, HTX.out⟩
                case measure => simp [intOf]; omega
            · have hb : b = true := H8.out (by omega)
              subst hb
              have hj11 : 11 < (j : Int) + 1 := by omega
              go_wp2_with fail
              refine (may_any s 7 _).mono ?_
              rintro e w5 ⟨rfl, t5⟩
              have T5 := Lib.hid (HTX.out.trans t5 (fun _ _ h => h))
              rw [M7.out]
              clear t5
              go_wp2
              go_roundw
              case rel => exact ⟨k + 1, by omega, by rw [hs.out]; go_num, rfl, T5.out⟩
              case measure => have := hs.out; simp [intOf]; omega
    · have hk10 : k = 10 := by omega
      subst hk10
      have HB : Hid (Below w.heap.size w wr) := ht.below (Nat.le_refl _) (fun _ _ h => h)
      have hp := HP.out
      clear ht
      generalize cov kd 10 = q at *
      go_wp2
      go_ret
      exact ⟨by simp; omega, HB.out⟩

theorem rulesCovered.walk (a0 : Int) (w : World) (_h0 : (Lit.int .i64 a0).wf = true) :
    Calls Try.prog 8 #[.int .i64 a0] w fun e w' => e = .returned (.bool true) ∧ Below w.heap.size w w' := by
  have h := mod_and a0 15 (by omega)
  exact rulesCovered.core (1 + a0 % 256 % 15) a0 (by omega) (by omega) (by rw [h]) (by rw [h]; omega) w
end Go.Proofs.Ytmhhjfajhlefcaa

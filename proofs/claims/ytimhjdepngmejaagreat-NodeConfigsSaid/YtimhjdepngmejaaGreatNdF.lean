/-
  polliwogref15.Check at five ticks. No conditions.
-/
import Derived.Test.YtimhjdepngmejaaGreatNdC
import Derived.Deep.RegionHeld3
import Derived.Deep.RegionLaw
namespace Go.Proofs.YtimhjdepngmejaaGreat
open Go.RowKit
set_option maxRecDepth 20000

theorem Nd.okP_all {c0 c1 c2 c3 c4 : Int} (h : ∀ j, j < 5 → Nd.inb ([c0, c1, c2, c3, c4].getD j 0) 1048576 = true) : Nd.okP c0 c1 c2 c3 c4 = (decide (c1 < c3) && decide (c2 < c3)) :=
  Nd.okP_of (h 0 (by omega)) (h 1 (by omega)) (h 2 (by omega)) (h 3 (by omega)) (h 4 (by omega))
set_option maxHeartbeats 2000000 in
theorem rcheck15 (g o c : Nat) (c0 c1 c2 c3 c4 : Int) (w : World) (h : Rd intE w (some ⟨g, o, none⟩) c [c0, c1, c2, c3, c4]) :
    Calls Tryz.prog 27 #[.slice (some ⟨g, o, none⟩) 5 c] w fun e w' => e = .returned (.bool (Nd.okP c0 c1 c2 c3 c4)) ∧ Fresh w w' := by
  have HS := Lib.hid h
  have hcell : ∀ k, k < 5 → w.cell? ⟨g, o + k, none⟩ = some (.int .i64 ([c0, c1, c2, c3, c4].getD k 0)) := fun k hk => by
    obtain ⟨g', o', e, _, hh⟩ := h.int_at k hk
    injection e with e
    injection e with e1 e2 _
    subst e1 e2
    rw [hh]
  have HC := Lib.hid hcell
  obtain ⟨B, hB⟩ : ∃ B, Nd.okP c0 c1 c2 c3 c4 = B := ⟨_, rfl⟩
  have HB := Lib.hid hB
  rw [hB]
  clear h hcell hB
  go_enter Tryz.func27, Tryz.ntmps27
  go_wp2_with fail
  go_loopw [7] (fun i wr => ∃ k : Nat, k ≤ 5 ∧ i = .int .i64 k ∧ Hid (∀ j, j < k → Nd.inb ([c0, c1, c2, c3, c4].getD j 0) 1048576 = true) ∧ wr = w) (fun i _ => 5 - (intOf i).toNat)
  case atStart => exact ⟨0, by omega, rfl, fun j hj => by omega, rfl⟩
  case round =>
    obtain ⟨k, hk, rfl, HA, rfl⟩ := hrel
    by_cases hk5 : k < 5
    · have hk1 : (k : Int) < 5 := by omega
      have hdk1 : decide ((k : Int) < 5) = true := decide_eq_true hk1
      have hk0 : (0 : Int) ≤ (k : Int) := by omega
      have hx := HC.out k hk5
      obtain ⟨x, hxe⟩ : ∃ x, [c0, c1, c2, c3, c4].getD k 0 = x := ⟨_, rfl⟩
      have HXE := Lib.hid hxe
      rw [hxe] at hx
      clear hxe
      by_cases h1 : 1 ≤ x
      · by_cases h2 : x ≤ 1048576
        · have HA2 : Hid (∀ j, j < k + 1 → Nd.inb ([c0, c1, c2, c3, c4].getD j 0) 1048576 = true) := fun j hj => by
            by_cases e : j = k
            · subst e
              rw [HXE.out]
              unfold Nd.inb
              rw [decide_eq_true h1, decide_eq_true h2]; rfl
            · exact HA.out j (by omega)
          have h3 : ¬ x < 1 := by omega
          have h4 : ¬ 1048576 < x := by omega
          clear HA
          go_wp2_with fail
          go_roundw
          case rel => exact ⟨k + 1, by omega, by go_num, HA2, by simp⟩
          case measure => simp [intOf]; omega
        · have hb : B = false := by
            rw [← HB.out]
            refine Nd.okP_no hk5 ?_
            rw [HXE.out]
            unfold Nd.inb
            simp [h2]
          subst hb
          have h3 : ¬ x < 1 := by omega
          have h4 : 1048576 < x := by omega
          go_wp2_with fail
          go_ret
          exact ⟨rfl, Touch.refl _ _⟩
      · have hb : B = false := by
          rw [← HB.out]
          refine Nd.okP_no hk5 ?_
          rw [HXE.out]
          unfold Nd.inb
          simp [h1]
        subst hb
        have h3 : x < 1 := by omega
        go_wp2_with fail
        go_ret
        exact ⟨rfl, Touch.refl _ _⟩
    · have hke : k = 5 := by omega
      subst hke
      have hbb : B = (decide (c1 < c3) && decide (c2 < c3)) := by rw [← HB.out]; exact Nd.okP_all HA.out
      have k1 : wr.cell? ⟨g, o + 1, none⟩ = some (.int .i64 c1) := HC.out 1 (by omega)
      have k2 : wr.cell? ⟨g, o + 2, none⟩ = some (.int .i64 c2) := HC.out 2 (by omega)
      have k3 : wr.cell? ⟨g, o + 3, none⟩ = some (.int .i64 c3) := HC.out 3 (by omega)
      clear HB HC HA
      by_cases h1 : c1 < c3
      · by_cases h2 : c2 < c3
        · have hb : B = true := by rw [hbb]; simp [h1, h2]
          clear hbb
          subst hb
          go_wp2_with fail
          go_region_held3 (fun wx => wx.cell? ⟨g, o + 1, none⟩ = some (.int .i64 c1) ∧ wx.cell? ⟨g, o + 2, none⟩ = some (.int .i64 c2) ∧ wx.cell? ⟨g, o + 3, none⟩ = some (.int .i64 c3))
            (exact ⟨k1, k2, k3⟩)
            (fail)
          all_goals
            go_wp2
            go_ret
            exact ⟨rfl, (Touch.refl _ _).drew⟩
        · have hb : B = false := by rw [hbb]; simp [h2]
          have hd2 : decide (c2 < c3) = false := decide_eq_false h2
          clear hbb
          subst hb
          go_wp2_with fail
          go_region_held3 (fun wx => wx.cell? ⟨g, o + 1, none⟩ = some (.int .i64 c1) ∧ wx.cell? ⟨g, o + 2, none⟩ = some (.int .i64 c2) ∧ wx.cell? ⟨g, o + 3, none⟩ = some (.int .i64 c3))
            (exact ⟨k1, k2, k3⟩)
            (fail)
          all_goals
            go_wp2
            go_ret
            exact ⟨rfl, (Touch.refl _ _).drew⟩
      · have hb : B = false := by rw [hbb]; simp [h1]
        have hd1 : decide (c1 < c3) = false := decide_eq_false h1
        clear h1
        clear hbb
        subst hb
        go_wp2_with fail
        go_quiet (fail)
        all_goals
          go_wp2
          go_ret
          exact ⟨rfl, (Touch.refl _ _).drewN _⟩
end Go.Proofs.YtimhjdepngmejaaGreat

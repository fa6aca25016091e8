/-
  polliwoglaw15: the fixed fact.
-/
import Derived.Test.YtppkbljpendkbaaPace4
namespace Go.Proofs.Ytppkbljpendkbaa
open Go.RowKit

theorem Pk.eq {w : World} {g : Nat} {l l' : List Int} {c0 c1 c2 c3 c4 : Int} (h : Pk w g l c0 c1 c2 c3 c4) (e : l = l') : Pk w g l' c0 c1 c2 c3 c4 := e ▸ h

set_option maxHeartbeats 1000000 in
theorem awake15_any (w : World) : Calls Try.prog 7 #[] w fun e w' => e = .returned (.bool true) ∧ Fresh w w' := by
  go_enter Try.func7, Try.ntmps7
  go_wp2_with fail
  refine (new15_any 3 2 5 9 4 _ ⟨by decide, by decide, by decide, by decide, by decide, by decide, by decide⟩).mono ?_
  rintro e w1 ⟨g, rfl, h1, t1, hg⟩
  have H1 := Lib.hid h1
  clear h1
  go_wp2_with fail
  refine (begin_any g _ 3 2 5 9 4 _ H1.out).mono ?_
  rintro e w2 ⟨rfl, h2, t2⟩
  have H2 := Lib.hid (h2.eq (show Pc.begin_ [0, 0, 0, 0, 0] 2 9 = [0, 2, 0, 9, 0] by decide))
  clear h2
  go_wp2_with fail
  refine (tick_any g _ (by decide) _ _ _ H2.out).mono ?_
  rintro e w3 ⟨A3, ca3, rfl, s3, h3, t3⟩
  have H3 := Lib.hid (Pk.eq (show Pk w3 g _ 3 2 5 9 4 from h3) (show Tm.tick [0, 2, 0, 9, 0] = [0, 1, 0, 8, 0] by decide))
  rw [show Tm.over [0, 2, 0, 9, 0] = [] by decide] at s3 ⊢
  clear h3 s3
  go_wp2_with fail
  refine (tick_any g _ (by decide) _ _ _ H3.out).mono ?_
  rintro e w4 ⟨A4, ca4, rfl, s4, h4, t4⟩
  have H4 := Lib.hid (Pk.eq (show Pk w4 g _ 3 2 5 9 4 from h4) (show Tm.tick [0, 1, 0, 8, 0] = [0, 0, 0, 7, 0] by decide))
  rw [show Tm.over [0, 1, 0, 8, 0] = [1] by decide] at s4 ⊢
  have HA : Hid (∀ ad, A4 = some ad → ¬ ad.block = g) := s4.blk_ne h4.2.2 (by decide)
  have S4 := Lib.hid s4
  clear h4 s4
  go_wp2_with fail
  refine (polled_any g _ 3 2 5 9 4 _ true H4.out).mono ?_
  rintro e w5 ⟨rfl, h5, t5⟩
  have H5 := Lib.hid (h5.eq (show Pc.polled [0, 0, 0, 7, 0] 2 5 9 true = [0, 0, 5, 7, 0] by decide))
  clear h5
  go_wp2_with fail
  refine (answered_any g _ 3 2 5 9 4 _ true H5.out).mono ?_
  rintro e w6 ⟨rfl, h6, t6⟩
  have H6 := Lib.hid (h6.eq (show Pc.answered [0, 0, 5, 7, 0] 9 4 true = [0, 0, 0, 0, 4] by decide))
  clear h6
  obtain ⟨gA, oA, rfl, _, hc⟩ := ((S4.out.touch t5 HA.out).touch t6 HA.out).int_at 0 (by decide)
  have hc' : w6.cell? ⟨gA, oA, none⟩ = some (.int .i64 1) := hc
  have TT : Hid (Fresh w w6) := by
    refine ((((t1.trans t2 ?_).trans t3 ?_).trans t4 ?_).trans t5 ?_).trans t6 ?_
    all_goals (intro k hk hkg; have : k = g := hkg; omega)
  clear t1 t2 t3 t4 t5 t6 hc HA S4 H1 H2 H3 H4 H5
  go_wp2_with fail
  refine (left_any g _ _ _ _ _ H6.out).mono ?_
  rintro e w7 ⟨rfl, rfl⟩
  rw [show Tm.left [0, 0, 0, 0, 4] 4 = 4 by decide]
  go_wp2_with fail
  refine (runs_any g _ _ _ _ _ H6.out).mono ?_
  rintro e w7 ⟨rfl, rfl⟩
  rw [show decide (0 < Tm.left [0, 0, 0, 0, 4] 3) = false by decide]
  go_wp2_with fail
  refine (asks_any _ _ _).mono ?_
  rintro e w7 ⟨rfl, rfl⟩
  go_wp2_with fail
  refine (safe_any g _ 3 2 5 9 4 _ H6.out).mono ?_
  rintro e w7 ⟨rfl, rfl⟩
  rw [show Pc.safe [0, 0, 0, 0, 4] = true by decide]
  go_wp2
  go_ret
  exact ⟨rfl, TT.out⟩
end Go.Proofs.Ytppkbljpendkbaa

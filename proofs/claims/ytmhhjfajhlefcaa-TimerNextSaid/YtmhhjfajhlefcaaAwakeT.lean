/-
  polliwoglaw08: the fixed fact, and the laws TimerAlone, TimerNext.
-/
import Derived.Test.YtmhhjfajhlefcaaTick
import Derived.Test.YtmhhjfajhlefcaaNext
namespace Go.Proofs.Ytmhhjfajhlefcaa
open Go.RowKit

theorem Bk.zero (w : World) (t : TypeId) : Bk (w.alloc (.cells #[.int .i64 0, .int .i64 0, .int .i64 0, .int .i64 0, .int .i64 0] t)) w.heap.size t [0, 0, 0, 0, 0] [] :=
  ⟨rfl, by simp, Blk.new w t _⟩
theorem Bk.eq {w : World} {g : Nat} {t : TypeId} {l l' c : List Int} (h : Bk w g t l c) (e : l = l') : Bk w g t l' c := e ▸ h

theorem awake_any (w : World) : Calls Try.prog 11 #[] w fun e w' => e = .returned (.bool true) ∧ Fresh w w' := by
  go_enter Try.func11, Try.ntmps11
  go_wp2_with fail
  refine (start_any _ _ _ _ _ _ _ (Bk.zero w _)).mono ?_
  rintro e w1 ⟨rfl, h1, t1⟩
  go_wp2_with fail
  refine (start_any _ _ _ _ _ _ _ h1).mono ?_
  rintro e w2 ⟨rfl, h2, t2⟩
  go_wp2_with fail
  refine (tick_any _ _ (by decide) _ _ _ h2).mono ?_
  rintro e w3 ⟨A3, c3, rfl, s3, h3, t3⟩
  have e3 : Tm.over (Tm.start (Tm.start [0, 0, 0, 0, 0] 1 2) 0 2) = [] := by decide
  rw [e3] at s3 ⊢
  go_wp2_with fail
  refine (tick_any _ _ (by decide) _ _ _ h3).mono ?_
  rintro e w4 ⟨A4, c4, rfl, s4, h4, t4⟩
  have e4 : Tm.over (Tm.tick (Tm.start (Tm.start [0, 0, 0, 0, 0] 1 2) 0 2)) = [0, 1] := by decide
  rw [e4] at s4 ⊢
  obtain ⟨g, o, rfl, hg, hc0⟩ := s4.int_at 0 (by decide)
  obtain ⟨g', o', he, _, hc1⟩ := s4.int_at 1 (by decide)
  injection he with he
  injection he with he1 he2
  subst he1 he2
  have ht : Hid (Fresh w w4) := by
    refine (((((Touch.refl _ w).alloc _).trans t1 ?_).trans t2 ?_).trans t3 ?_).trans t4 ?_
    all_goals (intro k hk hkg; have : k = w.heap.size := hkg; omega)
  clear t1 t2 t3 t4 h1 h2 h3 h4 s3 s4 e3 e4
  simp at hc0 hc1
  go_wp2
  go_ret
  exact ⟨rfl, ht.out⟩
end Go.Proofs.Ytmhhjfajhlefcaa

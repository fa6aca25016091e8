/-
  pace.Pace: what only reads, as a region takes it.
-/
import Derived.Test.YtppkbljpendkbaaPaceA
namespace Go.Proofs.Ytppkbljpendkbaa
open Go.RowKit

section
variable {b : Bool} {x : Int} {g : Nat} {T : TypeId} {l c : List Int} {t : Int} {w : World}
theorem runs_q (hb : Hid (decide (0 < Tm.left l t) = b)) (h : Bk w g T l c) (n : Nat) :
    Calls Try.prog 13 #[.pointer (some ⟨g, 0, none⟩), .int .i64 t] (w.drewN n) fun e w'' => e = .returned (.bool b) ∧ ∃ m, w'' = w.drewN m := by
  rw [← hb.out]
  exact (runs_any g T l c t _ (h.drewN n)).mono fun _ _ ⟨a, b⟩ => ⟨a, n, b.symm⟩
theorem left_q (hb : Hid (Tm.left l t = x)) (h : Bk w g T l c) (n : Nat) :
    Calls Try.prog 17 #[.pointer (some ⟨g, 0, none⟩), .int .i64 t] (w.drewN n) fun e w'' => e = .returned (.int .i64 x) ∧ ∃ m, w'' = w.drewN m := by
  rw [← hb.out]
  exact (left_any g T l c t _ (h.drewN n)).mono fun _ _ ⟨a, b⟩ => ⟨a, n, b.symm⟩
theorem pruns_q {c0 c1 c2 c3 c4 : Int} (hb : Hid (decide (0 < Tm.left l t) = b)) (h : Pk w g l c0 c1 c2 c3 c4) (n : Nat) :
    Calls Try.prog 13 #[.pointer (some ⟨g, 0, none⟩), .int .i64 t] (w.drewN n) fun e w'' => e = .returned (.bool b) ∧ ∃ m, w'' = w.drewN m := runs_q hb h n
theorem pleft_q {c0 c1 c2 c3 c4 : Int} (hb : Hid (Tm.left l t = x)) (h : Pk w g l c0 c1 c2 c3 c4) (n : Nat) :
    Calls Try.prog 17 #[.pointer (some ⟨g, 0, none⟩), .int .i64 t] (w.drewN n) fun e w'' => e = .returned (.int .i64 x) ∧ ∃ m, w'' = w.drewN m := left_q hb h n
theorem safe_q {c0 c1 c2 c3 c4 : Int} (hb : Hid (Pc.safe l = b)) (h : Pk w g l c0 c1 c2 c3 c4) (n : Nat) :
    Calls Try.prog 14 #[.pointer (some ⟨g, 0, none⟩)] (w.drewN n) fun e w'' => e = .returned (.bool b) ∧ ∃ m, w'' = w.drewN m := by
  rw [← hb.out]
  exact (safe_any g l c0 c1 c2 c3 c4 _ (Bk.drewN h n)).mono fun _ _ ⟨a, b⟩ => ⟨a, n, b.symm⟩
end

theorem begin_zero (c1 c3 : Int) (h1 : 1 ≤ c1 ∧ c1 ≤ 41) (h3 : 1 ≤ c3 ∧ c3 ≤ 41) : Pc.begin_ [0, 0, 0, 0, 0] c1 c3 = [0, c1, 0, c3, 0] := by
  have e1 : max 1 (min c1 1048576) = c1 := by omega
  have e3 : max 1 (min c3 1048576) = c3 := by omega
  simp [Pc.begin_, Pc.end_, Pc.watch, Pc.stops, Tm.stop, Tm.start, Tm.left, e1, e3]
end Go.Proofs.Ytppkbljpendkbaa

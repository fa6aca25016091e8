/-
  polliwoglaw04.RingClones: the calls that are played on a row.
-/
import Derived.Test.YtfieckhhckfjiaaRingActs
import Derived.Test.YtfieckhhckfjiaaNum
namespace Go.Proofs.Ytfieckhhckfjiaa
open Go.RowKit

def play1 (m : Nat) (q : List Int) (a : Int × Int) : List Int := if a.1 = 1 then q.tail else if q.length < m then q ++ [a.2] else q
def playF (m : Nat) (q : List Int) (l : List (Int × Int)) (k : Nat) : List Int := (l.take k).foldl (play1 m) q
theorem playF_zero (m : Nat) (q : List Int) (l : List (Int × Int)) : playF m q l 0 = q := rfl
theorem playF_succ (m : Nat) (q : List Int) (l : List (Int × Int)) (k : Nat) (hk : k < l.length) : playF m q l (k + 1) = play1 m (playF m q l k) (l.getD k (0, 0)) := by
  unfold playF
  rw [List.take_succ_eq_append_getElem hk, List.foldl_append]
  simp [List.getD, List.getElem?_eq_getElem hk]

/-- A row that calls have been made on, out of the world B. -/
structure RcSt (B w0 : World) (g : Nat) (b0 b : Option Nat) (m : Nat) (q : List Int) (w : World) : Prop where
  ring : RingInt w g b m q
  touch : Touch (Foot g b0) w0 w
  hb : ∀ k, b = some k → b0 = some k ∨ w0.heap.size ≤ k
theorem RcSt.step {B w0 w w' : World} {g m : Nat} {b0 b b' : Option Nat} {q q' : List Int} (h : RcSt B w0 g b0 b m q w) (hr : RingInt w' g b' m q') (ht : Touch (Foot g b) w w') (hb : ∀ k, b' = some k → b = some k ∨ w.heap.size ≤ k) : RcSt B w0 g b0 b' m q' w' :=
  ⟨hr, h.touch.trans ht (fun k hk hf => by
    rcases hf with e | e
    · exact .inl e
    · rcases h.hb k e with e | e
      · exact .inr e
      · omega), fun k hk => by
    rcases hb k hk with e | e
    · exact h.hb k e
    · have := h.touch.size; omega⟩

set_option maxHeartbeats 1000000 in
theorem play_any (B w0 : World) (g : Nat) (b0 : Option Nat) (m : Nat) (q0 : List Int) (A : Option Addr) (c : Nat) (L : List (Int × Int)) (hr : Rd act4E B A c L) (hB : Fresh B w0) (hg : B.heap.size ≤ g) (hbB : ∀ k, b0 = some k → B.heap.size ≤ k) (h : RingInt w0 g b0 m q0) :
    Calls Try.prog 22 #[.pointer (some ⟨g, 0, none⟩), .slice A L.length c] w0 fun e w' => e = .returned (.tuple #[]) ∧ ∃ b, RcSt B w0 g b0 b m (playF m q0 L 30) w' := by
  have hlc := hr.1
  have hcm := hr.2.1
  unfold maxLen at hcm
  have HR := Lib.hid hr
  have H0 := Lib.hid h
  have HFr : Hid (∀ w b q, RcSt B w0 g b0 b m q w → Fresh B w) := fun w b q hs => hB.trans hs.touch (fun k hk hf => by
    rcases hf with e | e
    · omega
    · have := hbB k e; omega)
  clear hr h
  go_enter Try.func22, Try.ntmps22
  go_wp2_with fail
  go_loopw [4] (fun i wr => ∃ (k : Nat) (b : Option Nat), k ≤ 30 ∧ k ≤ L.length ∧ i = .int .i64 k ∧ RcSt B w0 g b0 b m (playF m q0 L k) wr) (fun i _ => 30 - (intOf i).toNat)
  case atStart => exact ⟨0, b0, by omega, by omega, rfl, H0.out, Touch.refl _ _, fun k hk => .inl hk⟩
  case round =>
    obtain ⟨k, b, hk30, hkL, rfl, hst⟩ := hrel
    by_cases hkl : k < L.length ∧ k < 30
    · have hk1 : (k : Int) < (L.length : Int) := by omega
      have hk2 : (k : Int) < 30 := by omega
      obtain ⟨gA, oA, rfl, hgA, hc0, hc1⟩ := (HR.out.touch (HFr.out _ _ _ hst) (fun _ _ _ h => h)).act4_at k hkl.1
      have HP := Lib.hid (playF_succ m q0 L k hkl.1)
      have HS := Lib.hid hst
      clear hst
      generalize playF m q0 L k = q at *
      generalize (L.getD k (0, 0)) = a at *
      obtain ⟨kd, n⟩ := a
      simp only at hc0 hc1
      by_cases hkd : kd = 1
      · subst hkd
        go_wp2_with fail
        refine (ringInt_take g b m q wr HS.out.ring).mono ?_
        rintro e w5 ⟨rfl, r5, t5⟩
        have H5 := Lib.hid (HS.out.step r5 t5 (fun _ h => .inl h))
        clear r5 t5
        go_wp2
        go_roundw
        case rel => exact ⟨k + 1, b, by omega, by omega, by go_num, by first | (rw [HP.out]; exact H5.out) | exact H5.out⟩
        case measure => simp [intOf]; omega
      · have k1 : (kd == 1) = false := by simp; omega
        have HK := Lib.hid hkd
        clear hkd
        go_wp2_with fail
        refine (ringInt_put g b m q n wr HS.out.ring).mono ?_
        rintro e w5 ⟨rfl, b5, r5, t5, hb5⟩
        have H5 := Lib.hid (HS.out.step r5 t5 hb5)
        clear r5 t5 hb5
        go_wp2
        go_roundw
        case rel => exact ⟨k + 1, b5, by omega, by omega, by go_num, by rw [HP.out]; unfold play1; rw [if_neg HK.out]; exact H5.out⟩
        case measure => simp [intOf]; omega
    · have HE : Hid (playF m q0 L k = playF m q0 L 30) := by
        unfold Hid playF
        by_cases e : k = 30
        · rw [e]
        · rw [List.take_of_length_le (by omega), List.take_of_length_le (by omega)]
      rcases (show ¬ ((k : Int) < (L.length : Int)) ∨ ((k : Int) < (L.length : Int) ∧ ¬ ((k : Int) < 30)) by omega) with hk1 | ⟨hk1, hk2⟩
      all_goals
        have HS := Lib.hid hst
        clear hst
        go_wp2
        first | go_end0 | skip
        exact ⟨rfl, b, by rw [← HE.out]; exact HS.out⟩
end Go.Proofs.Ytfieckhhckfjiaa

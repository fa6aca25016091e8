/-
  pdu.Check at any unit.
-/
import Derived.Test.YtpifgpmjnjbecaaDoorWhP
import Derived.Test.YtpifgpmjnjbecaaDoorGapE
import Derived.Test.YtpifgpmjnjbecaaDoorSeq
import Derived.LoopTactic
import Derived.RegionTactic
import Derived.ChangeAlike
import Derived.Deep.DeepCutAuto
import Derived.Deep.CutBlock
import Derived.BigGuardPart
namespace Go.Proofs.YtpifgpmjnjbecaaDoor
open Go.RowKit

theorem low6_any (x : Int) (w : World) : Calls Tryd.prog 21 #[.int .u32 x] w fun e w' => e = .returned (.bool (Wh.low x)) ∧ w = w' := by
  have HL := Lib.hid (low_any x)
  go_enter Tryd.func21, Tryd.ntmps21
  go_wp2_with fail
  refine (HL.out _).mono ?_
  rintro e w2 ⟨rfl, rfl⟩
  have HE : Hid (Wh.low x = (x == x % 16777216)) := rfl
  go_wp2
  go_ret
  exact ⟨by rw [HE.out]; rfl, rfl⟩
theorem bad6_any (x : Int) (w : World) : Calls Tryd.prog 23 #[.int .u32 x] w fun e w' => e = .returned (.bool (!Wh.low x)) ∧ w = w' := by
  have HL := Lib.hid (low6_any x)
  generalize Wh.low x = b at *
  go_enter Tryd.func23, Tryd.ntmps23
  go_wp2_with fail
  refine (HL.out _).mono ?_
  rintro e w2 ⟨rfl, rfl⟩
  go_wp2
  go_ret
  exact ⟨rfl, rfl⟩

namespace Wh
def firstBad (l : List Int) : Int := if l.any (fun x => !low x) then (l.findIdx (fun x => !low x) : Int) else -1
theorem firstBad_dec (l : List Int) : decide (0 ≤ firstBad l) = l.any fun x => !low x := by
  unfold firstBad
  split
  · rename_i h
    rw [h]
    exact decide_eq_true (by omega)
  · rename_i h
    simp only [Bool.not_eq_true] at h
    rw [h]
    rfl
theorem firstBad_at (l : List Int) (k : Nat) (hk : k < l.length) (h1 : ∀ j, j < k → low (l.getD j 0) = true) (h2 : low (l.getD k 0) = false) : firstBad l = k := by
  unfold firstBad
  have hl : l[k] = l.getD k 0 := by simp [List.getD, List.getElem?_eq_getElem hk]
  rw [if_pos (List.any_eq_true.2 ⟨l[k], List.getElem_mem hk, by rw [hl, h2]; rfl⟩)]
  congr 1
  rw [List.findIdx_eq hk]
  refine ⟨by rw [hl, h2]; rfl, fun j hj => ?_⟩
  have hjl : j < l.length := by omega
  have : l[j] = l.getD j 0 := by simp [List.getD, List.getElem?_eq_getElem hjl]
  rw [this, h1 j hj]
  rfl
theorem firstBad_none (l : List Int) (h1 : ∀ j, j < l.length → low (l.getD j 0) = true) : firstBad l = -1 := by
  unfold firstBad
  rw [if_neg]
  intro h
  obtain ⟨x, hx, hb⟩ := List.any_eq_true.1 h
  obtain ⟨j, hj, rfl⟩ := List.mem_iff_getElem.1 hx
  have := h1 j hj
  rw [show l.getD j 0 = l[j] by simp [List.getD, List.getElem?_eq_getElem hj]] at this
  rw [this] at hb
  cases hb
end Wh

set_option maxHeartbeats 1000000 in
theorem index6_any (A : Option Addr) (c : Nat) (l : List Int) (w : World) (hr : Rd numE w A c l) :
    Calls Tryd.prog 39 #[.slice A l.length c, .func (.func 23) #[] #[]] w fun e w' => e = .returned (.int .i64 (Wh.firstBad l)) ∧ w = w' := by
  have hm := hr.1
  have hm2 := hr.2.1
  unfold maxLen at hm2
  have HR := Lib.hid hr
  clear hr
  go_enter Tryd.func39, Tryd.ntmps39
  go_wp2
  go_loop [8] (fun i => ∃ k : Nat, k ≤ l.length ∧ i = .int .i64 k ∧ Hid (∀ j, j < k → Wh.low (l.getD j 0) = true)) (fun i => l.length - (intOf i).toNat)
  case atStart => exact ⟨0, Nat.zero_le _, rfl, fun j hj => absurd hj (Nat.not_lt_zero _)⟩
  case round =>
    obtain ⟨k, hk, rfl, hall⟩ := hrel
    by_cases hlt : k < l.length
    · obtain ⟨g, o, rfl, hg, hc⟩ := HR.out.num_at k hlt
      have HB := Lib.hid (bad6_any (l.getD k 0))
      have hcl : (l.getD k 0) = l[k] := by simp [List.getD, List.getElem?_eq_getElem hlt]
      rw [hcl] at hc HB
      cases hb : Wh.low l[k] with
      | true =>
        rw [hb] at HB
        have hb2 : Wh.low (l.getD k 0) = true := by rw [hcl, hb]
        have HA : Hid (∀ j, j < k + 1 → Wh.low (l.getD j 0) = true) := fun j hj => by
          by_cases h : j = k
          · rw [h]; exact hb2
          · exact hall.out j (by omega)
        clear hb hb2 hcl
        go_wp2_with fail
        refine (HB.out _).mono ?_
        rintro e w2 ⟨rfl, rfl⟩
        go_wp2
        go_round
        case rel => exact ⟨k + 1, by omega, by go_num, HA⟩
        case measure => simp [intOf]; omega
      | false =>
        rw [hb] at HB
        have HF : Hid (Wh.firstBad l = k) := Wh.firstBad_at l k hlt hall.out (by rw [hcl, hb])
        clear hb hcl
        go_wp2_with fail
        refine (HB.out _).mono ?_
        rintro e w2 ⟨rfl, rfl⟩
        go_wp2
        go_ret
        exact ⟨by rw [HF.out]; rfl, rfl⟩
    · have HF : Hid (Wh.firstBad l = -1) := Wh.firstBad_none l (fun j hj => hall.out j (by omega))
      go_wp2
      go_ret
      exact ⟨by rw [HF.out]; rfl, rfl⟩
theorem contains6_any (A : Option Addr) (c : Nat) (l : List Int) (w : World) (hr : Rd numE w A c l) :
    Calls Tryd.prog 22 #[.slice A l.length c, .func (.func 23) #[] #[]] w fun e w' => e = .returned (.bool (l.any fun x => !Wh.low x)) ∧ w = w' := by
  have HI := Lib.hid (index6_any A c l w hr)
  have HD := Lib.hid (Wh.firstBad_dec l)
  generalize (l.any fun x => !Wh.low x) = b at *
  generalize Wh.firstBad l = r at *
  go_enter Tryd.func22, Tryd.ntmps22
  go_wp2_with fail
  refine HI.out.mono ?_
  rintro e w2 ⟨rfl, rfl⟩
  go_wp2
  go_ret
  exact ⟨by rw [← HD.out]; rfl, rfl⟩

def shV (s : Wh.Sh) : Value := .agg #[.int .i64 s.data, .bool s.sq, .bool s.n, .int .i64 s.list, .bool s.ps, .bool s.mr, .bool s.self, .bool s.is]
set_option maxRecDepth 10000 in
set_option maxHeartbeats 2000000 in
theorem shape6_any (k : Int) (w : World) : Calls Tryd.prog 20 #[.int .i64 k] w fun e w' => e = .returned (shV (Wh.shape k)) ∧ Fresh w w' := by
  rcases (show k = 1 ∨ k = 2 ∨ k = 3 ∨ k = 4 ∨ k = 5 ∨ k = 6 ∨ k = 7 ∨ k = 8 ∨ k = 9 ∨ k = 10 ∨ k = 11 ∨ k = 12 ∨ k = 13 ∨ k = 14 ∨ k = 15 ∨ (k < 1 ∨ 15 < k) by omega) with h | h | h | h | h | h | h | h | h | h | h | h | h | h | h | h
  any_goals
    subst h
    go_enter Tryd.func20, Tryd.ntmps20
    go_wp2
    exact bodyPost_ret (v := shV (Wh.shape _)) (by simp [results, Tryd.results20, go_sem, shV, Wh.shape]) rfl ⟨rfl, (Touch.refl _ _).alloc _⟩
  have e1 : (k == 1) = false := beq_eq_false_iff_ne.2 (by omega)
  have e2 : (k == 2) = false := beq_eq_false_iff_ne.2 (by omega)
  have e3 : (k == 3) = false := beq_eq_false_iff_ne.2 (by omega)
  have e4 : (k == 4) = false := beq_eq_false_iff_ne.2 (by omega)
  have e5 : (k == 5) = false := beq_eq_false_iff_ne.2 (by omega)
  have e6 : (k == 6) = false := beq_eq_false_iff_ne.2 (by omega)
  have e7 : (k == 7) = false := beq_eq_false_iff_ne.2 (by omega)
  have e8 : (k == 8) = false := beq_eq_false_iff_ne.2 (by omega)
  have e9 : (k == 9) = false := beq_eq_false_iff_ne.2 (by omega)
  have e10 : (k == 10) = false := beq_eq_false_iff_ne.2 (by omega)
  have e11 : (k == 11) = false := beq_eq_false_iff_ne.2 (by omega)
  have e12 : (k == 12) = false := beq_eq_false_iff_ne.2 (by omega)
  have e13 : (k == 13) = false := beq_eq_false_iff_ne.2 (by omega)
  have e14 : (k == 14) = false := beq_eq_false_iff_ne.2 (by omega)
  have e15 : (k == 15) = false := beq_eq_false_iff_ne.2 (by omega)
  have HE : Hid (Wh.shape k = ⟨0, false, false, 0, false, false, false, false⟩) := by
    unfold Hid Wh.shape
    rw [if_neg (by omega), if_neg (by omega), if_neg (by omega), if_neg (by omega), if_neg (by omega), if_neg (by omega), if_neg (by omega), if_neg (by omega), if_neg (by omega), if_neg (by omega)]
  clear h
  go_enter Tryd.func20, Tryd.ntmps20
  go_wp2
  exact bodyPost_ret (v := shV ⟨0, false, false, 0, false, false, false, false⟩) (by simp [results, Tryd.results20, go_sem, shV]) rfl ⟨by rw [HE.out], (Touch.refl _ _).alloc _⟩
end Go.Proofs.YtpifgpmjnjbecaaDoor

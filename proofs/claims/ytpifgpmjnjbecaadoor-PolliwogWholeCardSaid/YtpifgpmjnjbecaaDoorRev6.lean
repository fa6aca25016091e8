/-
  slices.Reverse at numbers of the call's own.
-/
import Derived.Test.YtpifgpmjnjbecaaDoorGapE
import Derived.LoopTactic
import Derived.RegionTactic
import Derived.ChangeAlike
import Derived.BigRegion
import Derived.Deep.RegionLaw
import Derived.Deep.DeepCutAuto
import Derived.Deep.CutBlock
import Derived.Deep.RegionHeld3
namespace Go.Proofs.YtpifgpmjnjbecaaDoor
open Go.RowKit

namespace Wh
/-- The first k and the last k are exchanged. -/
def revTo (l : List Int) (k : Nat) : List Int := (List.range l.length).map fun i => if i < k ∨ l.length ≤ i + k then l.getD (l.length - 1 - i) 0 else l.getD i 0
theorem revTo_len (l : List Int) (k : Nat) : (revTo l k).length = l.length := by simp [revTo]
theorem revTo_get (l : List Int) (k i : Nat) (h : i < l.length) : (revTo l k)[i]? = some (if i < k ∨ l.length ≤ i + k then l.getD (l.length - 1 - i) 0 else l.getD i 0) := by
  simp [revTo, h]
theorem revTo_zero (l : List Int) : revTo l 0 = l := by
  apply List.ext_getElem?
  intro i
  by_cases h : i < l.length
  · rw [revTo_get l 0 i h, if_neg (by omega), List.getElem?_eq_getElem h]
    simp [List.getD, List.getElem?_eq_getElem h]
  · rw [List.getElem?_eq_none (by rw [revTo_len]; omega), List.getElem?_eq_none (by omega)]
theorem revTo_end (l : List Int) (k : Nat) (h : l.length ≤ 2 * k + 1) : revTo l k = l.reverse := by
  apply List.ext_getElem?
  intro i
  by_cases hi : i < l.length
  · rw [revTo_get l k i hi, List.getElem?_reverse hi]
    have hj : l.length - 1 - i < l.length := by omega
    rw [List.getElem?_eq_getElem hj]
    by_cases hc : i < k ∨ l.length ≤ i + k
    · rw [if_pos hc]
      simp [List.getD, List.getElem?_eq_getElem hj]
    · rw [if_neg hc]
      have e : l.length - 1 - i = i := by omega
      simp only [e]
      simp [List.getD, List.getElem?_eq_getElem hi]
  · rw [List.getElem?_eq_none (by rw [revTo_len]; omega), List.getElem?_eq_none (by simp; omega)]
theorem revTo_set (l : List Int) (k : Nat) (h : 2 * k + 1 < l.length) : ((revTo l k).set k (l.getD (l.length - 1 - k) 0)).set (l.length - 1 - k) (l.getD k 0) = revTo l (k + 1) := by
  apply List.ext_getElem?
  intro i
  by_cases hi : i < l.length
  · rw [revTo_get l (k + 1) i hi, List.getElem?_set, List.getElem?_set]
    simp only [List.length_set, revTo_len]
    by_cases h1 : l.length - 1 - k = i
    · rw [if_pos h1, if_pos (by omega), if_pos (by omega)]
      rw [show l.length - 1 - i = k by omega]
    · rw [if_neg h1]
      by_cases h2 : k = i
      · rw [if_pos h2, if_pos (by omega), if_pos (by omega), h2]
      · rw [if_neg h2, revTo_get l k i hi]
        by_cases h3 : i < k ∨ l.length ≤ i + k
        · rw [if_pos h3, if_pos (by omega)]
        · rw [if_neg h3, if_neg (by omega)]
  · rw [List.getElem?_eq_none (by simp [revTo_len]; omega), List.getElem?_eq_none (by rw [revTo_len]; omega)]
theorem revTo_k (l : List Int) (k : Nat) (h : 2 * k + 1 < l.length) : (revTo l k).getD k 0 = l.getD k 0 := by
  unfold List.getD
  rw [revTo_get l k k (by omega), if_neg (by omega)]
  rfl
theorem revTo_n (l : List Int) (k : Nat) (h : 2 * k + 1 < l.length) : (revTo l k).getD (l.length - 1 - k) 0 = l.getD (l.length - 1 - k) 0 := by
  unfold List.getD
  rw [revTo_get l k (l.length - 1 - k) (by omega), if_neg (by omega)]
  rfl
end Wh

set_option maxRecDepth 10000 in
set_option maxHeartbeats 4000000 in
theorem rev6_any (A : Option Addr) (c : Nat) (l : List Int) (w : World) (h : Sl numE w A c l) (hl : l.length ≤ 1000) :
    Calls Tryd.prog 37 #[.slice A l.length c] w fun e w' => e = .returned (.tuple #[]) ∧ Sl numE w' A c l.reverse ∧ Touch (fun k => A.map Addr.block = some k) w w' := by
  have hlc := h.1
  have HS0 : Hid (Sl numE w A c (Wh.revTo l 0)) := by
    rw [Wh.revTo_zero]
    exact h
  clear h
  go_enter Tryd.func37, Tryd.ntmps37
  go_wp2
  go_loopw [2, 3] (fun i j wr => ∃ k : Nat, 2 * k ≤ l.length + 1 ∧ i = .int .i64 k ∧ j = .int .i64 ((l.length : Int) - 1 - k) ∧ Hid (Sl numE wr A c (Wh.revTo l k)) ∧ Hid (Touch (fun k => A.map Addr.block = some k) w wr)) (fun i _ _ => l.length + 1 - (intOf i).toNat)
  case atStart => exact ⟨0, by omega, rfl, by simp, HS0, Touch.refl _ _⟩
  case round =>
    obtain ⟨k, hk, rfl, rfl, HS, HT⟩ := hrel
    by_cases hlt : 2 * k + 1 < l.length
    · obtain ⟨m, hm⟩ : ∃ m : Nat, (l.length : Int) - 1 - k = m := ⟨l.length - 1 - k, by omega⟩
      have hml : m = l.length - 1 - k := by omega
      obtain ⟨g, o, hA, hg, c1⟩ := HS.out.num_at k (by rw [Wh.revTo_len]; omega)
      obtain ⟨g', o', hA', _, c2⟩ := HS.out.num_at m (by rw [Wh.revTo_len]; omega)
      rw [hA] at hA'
      cases hA'
      subst hA
      rw [Wh.revTo_k l k hlt] at c1
      rw [hml, Wh.revTo_n l k hlt, ← hml] at c2
      have f1 := HS.out.frozen g o rfl (o + k)
      have f2 := HS.out.frozen g o rfl (o + m)
      have HX : Hid (Sl numE ((wr.setCell ⟨g, o + k, none⟩ (.int .u32 (l.getD m 0))).setCell ⟨g, o + m, none⟩ (.int .u32 (l.getD k 0))) (some ⟨g, o, none⟩) c (Wh.revTo l (k + 1))) := by
        rw [← Wh.revTo_set l k hlt, ← hml]
        exact (HS.out.set1 rfl rfl (i := k) (x := l.getD m 0) rfl).set1 rfl rfl (i := m) (x := l.getD k 0) rfl
      have HT2 : Hid (Touch (fun k => Option.map Addr.block (some ⟨g, o, none⟩) = some k) w ((wr.setCell ⟨g, o + k, none⟩ (.int .u32 (l.getD m 0))).setCell ⟨g, o + m, none⟩ (.int .u32 (l.getD k 0)))) := (HT.out.st rfl).st rfl
      rw [hm]
      have hkm : (k : Int) < (m : Int) := by omega
      have hkm2 : o + k ≠ o + m := by omega
      have hml2 : (m : Int) < (l.length : Int) := by omega
      have hkl2 : (k : Int) < (l.length : Int) := by omega
      generalize l.getD m 0 = x at *
      generalize l.getD k 0 = y at *
      have HM := Lib.hid hm
      clear HS HT HS0 hm hml
      go_upto_region 3 with (fail)
      go_region
      all_goals
        go_wp2
        go_roundw
        case rel => exact ⟨k + 1, by omega, by go_num, by congr 1; have := HM.out; omega, HX, HT2.out.drew⟩
        case measure => simp [intOf]; omega
    · have HE : Hid (Wh.revTo l k = l.reverse) := Wh.revTo_end l k (by omega)
      rw [HE.out] at HS
      clear HS0
      have hge : decide ((k : Int) < (l.length : Int) - 1 - k) = false := decide_eq_false (by omega)
      go_wp2
      go_end0
      exact ⟨rfl, HS.out, HT.out⟩
end Go.Proofs.YtpifgpmjnjbecaaDoor

/-
  polliwoglaw12.same: are messages these?
-/
import Derived.Test.YtpjmgdoekeknjaaTy
import Derived.RegionTactic
import Derived.ChangeAlike
import Derived.Deep.QuietTactic
import Derived.BigQuiet
import Derived.Lib.Strings
namespace Go.Proofs.Ytpjmgdoekeknjaa
open Go.RowKit

theorem str_eq {s t : ByteArray} (h : s = t) : (s.toList == t.toList) = true := by subst h; simp
theorem str_ne {s t : ByteArray} (h : s ≠ t) : (s.toList == t.toList) = false := by
  refine beq_eq_false_iff_ne.2 fun e => h ?_
  rw [Lib.toList_data, Lib.toList_data] at e
  exact Go.WideShapes.bytes_inj e
theorem take_eq_succS (l m : List ByteArray) (k : Nat) (h : l.length = m.length) (hk : k < l.length) (he : l.take k = m.take k) : l.take (k + 1) = m.take (k + 1) ↔ l.getD k ByteArray.empty = m.getD k ByteArray.empty := by
  rw [List.take_succ_eq_append_getElem hk, List.take_succ_eq_append_getElem (show k < m.length by omega), he, List.append_cancel_left_eq]
  simp [List.getD, List.getElem?_eq_getElem hk, List.getElem?_eq_getElem (show k < m.length by omega)]

set_option maxHeartbeats 1000000 in
theorem sames_any (A B : Option Addr) (ca cb : Nat) (l m : List ByteArray) (w : World) (h1 : Rd strE w A ca l) (h2 : Rd strE w B cb m) :
    Calls Try.prog 20 #[.slice A l.length ca, .slice B m.length cb] w fun e w' => e = .returned (.bool (decide (l = m))) ∧ Fresh w w' := by
  have hb1 := h1.1
  have hb2 := h1.2.1
  have hb3 := h2.1
  have hb4 := h2.2.1
  unfold maxLen at hb2 hb4
  have H1 := Lib.hid h1
  have H2 := Lib.hid h2
  clear h1 h2
  by_cases hl : l.length = m.length
  · have hlb : ((l.length : Int) != (m.length : Int)) = false := by simp [hl]
    have HL := Lib.hid hl
    clear hl
    go_enter Try.func20, Try.ntmps20
    go_wp2_with fail
    go_loopw [13] (fun i wr => ∃ k : Nat, k ≤ l.length ∧ i = .int .i64 k ∧ Hid (l.take k = m.take k) ∧ Fresh w wr) (fun i _ => l.length - (intOf i).toNat)
    case atStart => exact ⟨0, by omega, rfl, by simp [Hid], Touch.refl _ _⟩
    case round =>
      obtain ⟨k, hk, rfl, he, ht⟩ := hrel
      by_cases hlt : k < l.length
      · obtain ⟨g1, o1, rfl, hg1, hc1⟩ := (H1.out.touch ht (fun _ _ _ h => h)).str_at k hlt
        obtain ⟨g2, o2, rfl, hg2, hc2⟩ := (H2.out.touch ht (fun _ _ _ h => h)).str_at k (by rw [← HL.out]; exact hlt)
        have hkm : (k : Int) < (m.length : Int) := by have := HL.out; omega
        have hk0 : (0 : Int) ≤ (k : Int) := by omega
        have hkl : (k : Int) < (l.length : Int) := by omega
        have HS : Hid (l.take (k + 1) = m.take (k + 1) ↔ l.getD k ByteArray.empty = m.getD k ByteArray.empty) := take_eq_succS l m k HL.out hlt he.out
        generalize l.getD k ByteArray.empty = x at *
        generalize m.getD k ByteArray.empty = y at *
        by_cases hxy : x = y
        · have hb : (x.toList == y.toList) = true := str_eq hxy
          have HX := Lib.hid hxy
          clear hxy
          have HT := Lib.hid ht
          clear ht
          go_wp2
          go_quiet (fail)
          go_wp2
          go_roundw
          case rel => exact ⟨k + 1, by omega, by go_num, HS.out.2 HX.out, HT.out.drewN _⟩
          case measure => simp [intOf]; omega
        · have hb : (x.toList == y.toList) = false := str_ne hxy
          have hne : Hid (l ≠ m) := fun e => hxy (HS.out.1 (by rw [e]))
          have HT := Lib.hid ht
          clear ht
          go_wp2
          go_quiet (fail)
          go_wp2
          go_ret
          exact ⟨by rw [decide_eq_false hne.out]; rfl, HT.out.drewN _⟩
      · have hkk : k = l.length := by omega
        subst hkk
        have hlm : Hid (l = m) := by
          have := he.out
          rw [List.take_length, HL.out, List.take_length] at this
          exact this
        clear he
        go_wp2
        go_ret
        exact ⟨by rw [decide_eq_true hlm.out]; rfl, ht⟩
  · have hlb : ((l.length : Int) != (m.length : Int)) = true := by simp; omega
    have hne : Hid (l ≠ m) := fun e => hl (by rw [e])
    clear hl
    go_enter Try.func20, Try.ntmps20
    go_wp2
    go_ret
    exact ⟨by rw [decide_eq_false hne.out]; rfl, Touch.refl _ _⟩
end Go.Proofs.Ytpjmgdoekeknjaa

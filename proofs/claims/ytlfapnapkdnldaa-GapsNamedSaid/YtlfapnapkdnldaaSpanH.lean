/-
  span: Has: slices.BinarySearchFunc at spans.
-/
import Derived.Test.YtlfapnapkdnldaaSpanQ
import Derived.Test.YtlfapnapkdnldaaSpanV
import Derived.Deep.DeepCutAuto
namespace Go.Proofs.Ytlfapnapkdnldaa
open Go.RowKit

/-- Where a number lies to a span. -/
def sideOf (y : Int × Int) (x : Int) : Int := if y.2 ≤ x then -1 else if x < y.1 then 1 else 0

theorem side_any (y : Int × Int) (x : Int) (w : World) :
    Calls Try.prog 56 #[.agg #[.int .i64 y.1, .int .i64 y.2], .int .i64 x] w fun e w' => e = .returned (.int .i64 (sideOf y x)) ∧ Fresh w w' := by
  obtain ⟨a, b⟩ := y
  rcases (show (b ≤ x ∧ sideOf (a, b) x = -1) ∨ (¬ b ≤ x ∧ x < a ∧ sideOf (a, b) x = 1) ∨ (¬ b ≤ x ∧ ¬ x < a ∧ sideOf (a, b) x = 0) by unfold sideOf; simp only; split; simp_all; split <;> simp_all) with ⟨h1, h⟩ | ⟨h1, h2, h⟩ | ⟨h1, h2, h⟩
  all_goals
    have HS := Lib.hid h
    clear h
    go_enter Try.func56, Try.ntmps56
    go_wp2
    go_ret
    exact ⟨by rw [HS.out]; rfl, (Touch.refl _ w).alloc _⟩

namespace Sp
theorem Canon.at_lt {s : List (Int × Int)} (h : Canon s) {i j : Nat} (hij : i < j) (hj : j < s.length) : (s.getD i (0, 0)).2 < (s.getD j (0, 0)).1 := by
  have := List.pairwise_iff_getElem.1 h.2 i j (by omega) hj hij
  simpa [List.getD, List.getElem?_eq_getElem hj, List.getElem?_eq_getElem (show i < s.length by omega)] using this
theorem getD_mem {s : List (Int × Int)} {i : Nat} (hi : i < s.length) : s.getD i (0, 0) ∈ s := by
  rw [List.getD_eq_getElem?_getD, List.getElem?_eq_getElem hi]
  exact List.getElem_mem hi
theorem mem_getD {s : List (Int × Int)} {n : Int} (h : mem s n) : ∃ i, i < s.length ∧ In (s.getD i (0, 0)) n := by
  obtain ⟨x, hx, e⟩ := h
  obtain ⟨i, hi, rfl⟩ := List.getElem_of_mem hx
  exact ⟨i, hi, by simpa [In, List.getD, List.getElem?_eq_getElem hi] using e⟩
/-- What a search has so far: all ahead of i end ahead of x, none from j on does. -/
def Found (s : List (Int × Int)) (x : Int) (i j : Nat) : Prop := i ≤ j ∧ j ≤ s.length ∧ (∀ m, m < i → (s.getD m (0, 0)).2 ≤ x) ∧ (∀ m, j ≤ m → m < s.length → x < (s.getD m (0, 0)).2)
theorem Found.start (s : List (Int × Int)) (x : Int) : Found s x 0 s.length := ⟨by omega, by omega, by omega, by omega⟩
theorem Found.up {s : List (Int × Int)} {x : Int} {i j m : Nat} (h : Found s x i j) (hc : Canon s) (hm : i ≤ m ∧ m < j) (hx : (s.getD m (0, 0)).2 ≤ x) : Found s x (m + 1) j :=
  ⟨by omega, h.2.1, fun k hk => by
    rcases (show k = m ∨ k < m by omega) with rfl | hkm
    · exact hx
    · have := hc.at_lt hkm (by have := h.2.1; omega)
      have := hc.1 _ (getD_mem (s := s) (i := m) (by have := h.2.1; omega))
      omega, h.2.2.2⟩
theorem Found.down {s : List (Int × Int)} {x : Int} {i j m : Nat} (h : Found s x i j) (hc : Canon s) (hm : i ≤ m ∧ m < j) (hx : x < (s.getD m (0, 0)).2) : Found s x i m :=
  ⟨hm.1, by have := h.2.1; omega, h.2.2.1, fun k hk hl => by
    rcases (show k = m ∨ m < k by omega) with rfl | hkm
    · exact hx
    · have := hc.at_lt hkm hl
      have := hc.1 _ (getD_mem (s := s) (i := k) hl)
      omega⟩
theorem Found.miss {s : List (Int × Int)} {x : Int} (h : Found s x s.length s.length) : ¬ mem s x := fun hm => by
  obtain ⟨i, hi, e⟩ := mem_getD hm
  have := h.2.2.1 i hi
  unfold In at e
  omega
theorem Found.hit {s : List (Int × Int)} {x : Int} {i : Nat} (h : Found s x i i) (hc : Canon s) (hi : i < s.length) : mem s x ↔ ¬ x < (s.getD i (0, 0)).1 := by
  have h2 := h.2.2.2 i (Nat.le_refl _) hi
  constructor
  · intro hm
    obtain ⟨k, hk, e⟩ := mem_getD hm
    unfold In at e
    rcases (show k < i ∨ k = i ∨ i < k by omega) with hki | rfl | hki
    · have := h.2.2.1 k hki
      omega
    · omega
    · have := hc.at_lt hki hk
      omega
  · intro hm
    exact ⟨_, getD_mem hi, by omega, h2⟩
end Sp

def SearchPost (s : List (Int × Int)) (x : Int) (w : World) (e : Ending) (w' : World) : Prop := (∃ (i : Int) (b : Bool), e = .returned (.tuple #[.int .i64 i, .bool b]) ∧ (b = true ↔ Sp.mem s x)) ∧ Fresh w w'
def HasPost (s : List (Int × Int)) (x : Int) (w : World) (e : Ending) (w' : World) : Prop := (∃ b : Bool, e = .returned (.bool b) ∧ (b = true ↔ Sp.mem s x)) ∧ Fresh w w'

set_option maxHeartbeats 4000000 in
set_option maxRecDepth 4000 in
theorem search_any (A : Option Addr) (c : Nat) (s : List (Int × Int)) (x : Int) (w : World) (h : Rd spanE w A c s) (hg : Sp.Canon s) (hl : s.length ≤ 1099511627776) :
    Calls Try.prog 55 #[.slice A s.length c, .int .i64 x, .func (.func 56) #[] #[]] w (SearchPost s x w) := by
  have hlc := h.1
  have hcm := h.2.1
  unfold maxLen at hcm
  have H := Lib.hid h
  clear h
  go_enter Try.func55, Try.ntmps55
  go_wp2_with fail
  go_loopw [9, 10] (fun i j wr => ∃ (p q : Nat), i = .int .i64 p ∧ j = .int .i64 q ∧ Hid (Sp.Found s x p q) ∧ Hid (Fresh w wr)) (fun i j _ => (intOf j - intOf i).toNat)
  case atStart => exact ⟨0, s.length, rfl, rfl, Sp.Found.start s x, Touch.refl _ _⟩
  case round =>
    obtain ⟨p, q, rfl, rfl, HFo, HF⟩ := hrel
    have hpq := HFo.out.1
    have hql := HFo.out.2.1
    by_cases hlt : p < q
    · have hlt1 : (p : Int) < (q : Int) := by omega
      have hp0 : (0 : Int) ≤ (p : Int) := by omega
      obtain ⟨m, hm⟩ : ∃ m : Nat, ((p : Int) + (q : Int)) / 2 = (m : Int) := ⟨(p + q) / 2, by omega⟩
      have hm1 : p ≤ m ∧ m < q := by omega
      have hms : (m : Int) < (s.length : Int) := by omega
      have hm0 : (0 : Int) ≤ (m : Int) := by omega
      obtain ⟨g, o, rfl, _, c0, c1⟩ := (H.out.touch HF.out (fun _ _ _ h => h)).span_at m (by omega)
      have HU := Lib.hid (fun h => HFo.out.up hg hm1 h)
      have HD := Lib.hid (fun h => HFo.out.down hg hm1 h)
      generalize s.getD m (0, 0) = y at *
      obtain ⟨a, b⟩ := y
      simp only at c0 c1
      go_wp2_with fail
      refine (side_any (a, b) x wr).mono ?_
      rintro e w2 ⟨rfl, f2⟩
      have F2 : Hid (Fresh w w2) := HF.out.trans f2 (fun _ _ h => h)
      have hms2 : m + 1 ≤ s.length := by omega
      clear f2 HF c0 c1
      by_cases hbx : b ≤ x
      · have hsd : sideOf (a, b) x = -1 := if_pos hbx
        have HN := Lib.hid (HU.out hbx)
        rw [hsd]
        clear HU HD HFo hsd
        simp only
        go_wp2
        go_roundw
        case rel => exact ⟨m + 1, q, by go_num, rfl, HN, F2⟩
        case measure => simp [intOf]; omega
      · have hsd : ¬ sideOf (a, b) x < 0 := by unfold sideOf; rw [if_neg hbx]; split <;> omega
        have HN := Lib.hid (HD.out (by omega))
        generalize sideOf (a, b) x = z at *
        clear HU HD HFo
        simp only
        go_wp2
        go_roundw
        case rel => exact ⟨p, m, rfl, rfl, HN, F2⟩
        case measure => simp [intOf]; omega
    · have hpq2 : p = q := by omega
      subst hpq2
      by_cases hps : p < s.length
      · have hps1 : (p : Int) < (s.length : Int) := by omega
        have hdp : decide ((p : Int) < (s.length : Int)) = true := decide_eq_true hps1
        have hp0 : (0 : Int) ≤ (p : Int) := by omega
        obtain ⟨g, o, rfl, _, c0, c1⟩ := (H.out.touch HF.out (fun _ _ _ h => h)).span_at p hps
        have HH := Lib.hid (HFo.out.hit hg hps)
        have HU := Lib.hid (HFo.out.2.2.2 p (Nat.le_refl _) hps)
        generalize s.getD p (0, 0) = y at *
        obtain ⟨a, b⟩ := y
        simp only at c0 c1 HU HH
        have hlt1 : ¬ (p : Int) < (p : Int) := by omega
        go_wp2_with fail
        refine (side_any (a, b) x wr).mono ?_
        rintro e w2 ⟨rfl, f2⟩
        have F2 : Hid (Fresh w w2) := HF.out.trans f2 (fun _ _ h => h)
        have hz : Hid ((sideOf (a, b) x == 0) = true ↔ Sp.mem s x) := by
          unfold Hid
          rw [HH.out]
          have := HU.out
          unfold sideOf
          simp only
          rw [if_neg (by omega)]
          split <;> simp_all
        generalize sideOf (a, b) x = z at *
        simp only
        go_wp2
        go_ret2
        exact ⟨⟨_, _, rfl, hz.out⟩, F2.out⟩
      · have hpl : p = s.length := by omega
        have hps1 : ¬ (p : Int) < (s.length : Int) := by omega
        have hdp : decide ((p : Int) < (s.length : Int)) = false := decide_eq_false hps1
        have HM : Hid (¬ Sp.mem s x) := by subst hpl; exact HFo.out.miss
        have hlt1 : ¬ (p : Int) < (p : Int) := by omega
        go_wp2
        go_ret2
        exact ⟨⟨_, _, rfl, by simp [HM.out]⟩, HF.out⟩

theorem has_any (A : Option Addr) (c : Nat) (s : List (Int × Int)) (x : Int) (w : World) (h : Rd spanE w A c s) (hg : Sp.Canon s) (hl : s.length ≤ 1099511627776) :
    Calls Try.prog 37 #[.slice A s.length c, .int .i64 x] w (HasPost s x w) := by
  have HC := Lib.hid (search_any A c s x w h hg hl)
  clear h
  go_enter Try.func37, Try.ntmps37
  go_wp2_with fail
  refine HC.out.mono ?_
  rintro e w2 ⟨⟨i, b, rfl, hb⟩, f2⟩
  go_wp2
  go_ret
  exact ⟨⟨b, rfl, hb⟩, f2⟩
end Go.Proofs.Ytlfapnapkdnldaa

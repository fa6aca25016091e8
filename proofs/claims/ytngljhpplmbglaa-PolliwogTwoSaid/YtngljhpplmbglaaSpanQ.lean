/-
  Sets of spans, plain: good sets, how many numbers they have, what the set operations make. No program is named.
-/
import Derived.Test.YtngljhpplmbglaaOf
namespace Go.Proofs.Ytngljhpplmbglaa.Sp

def In (x : Int × Int) (n : Int) : Prop := x.1 ≤ n ∧ n < x.2
/-- Canonical, and within what may be. -/
def Good (s : List (Int × Int)) : Prop := Canon s ∧ ∀ x ∈ s, -1099511627776 ≤ x.1 ∧ x.2 ≤ 1099511627777
theorem Good.nil : Good [] := ⟨Canon.nil, by simp⟩
theorem near_bd (x : Int × Int) : -1099511627776 ≤ (near x).1 ∧ (near x).1 ≤ 1099511627776 ∧ -1099511627776 ≤ (near x).2 ∧ (near x).2 ≤ 1099511627777 := by
  unfold near clampF clampT
  simp only
  omega
theorem near_id (x : Int × Int) (h1 : -1099511627776 ≤ x.1) (h2 : x.1 ≤ 1099511627776) (h3 : -1099511627776 ≤ x.2) (h4 : x.2 ≤ 1099511627777) : near x = x := by
  obtain ⟨a, b⟩ := x
  unfold near clampF clampT
  simp only at *
  congr 1 <;> omega
theorem mem_map_near (l : List (Int × Int)) (n : Int) : mem (l.map near) n ↔ ∃ x ∈ l, In (near x) n := by
  unfold mem In
  constructor
  · rintro ⟨x, hx, h⟩
    obtain ⟨y, hy, rfl⟩ := List.mem_map.1 hx
    exact ⟨y, hy, h⟩
  · rintro ⟨x, hx, h⟩
    exact ⟨near x, List.mem_map.2 ⟨x, hx, rfl⟩, h⟩
theorem IsOf.good {l s : List (Int × Int)} (h : IsOf l s) : Good s := ⟨h.1, fun x hx => by
  have hlt := h.1.1 x hx
  have a := (mem_map_near l x.1).1 ((h.2 x.1).1 ⟨x, hx, by omega, hlt⟩)
  have b := (mem_map_near l (x.2 - 1)).1 ((h.2 (x.2 - 1)).1 ⟨x, hx, by omega, by omega⟩)
  obtain ⟨y, _, hy⟩ := a
  obtain ⟨z, _, hz⟩ := b
  have := near_bd y
  have := near_bd z
  unfold In at hy hz
  omega⟩
theorem IsOf.mem {l s : List (Int × Int)} (h : IsOf l s) (n : Int) : mem s n ↔ ∃ x ∈ l, In (near x) n := (h.2 n).trans (mem_map_near l n)
/-- Spans within what may be are as they are. -/
def Small (l : List (Int × Int)) : Prop := ∀ x ∈ l, -1099511627776 ≤ x.1 ∧ x.1 ≤ 1099511627776 ∧ -1099511627776 ≤ x.2 ∧ x.2 ≤ 1099511627777
theorem IsOf.mem_small {l s : List (Int × Int)} (h : IsOf l s) (hl : Small l) (n : Int) : Sp.mem s n ↔ Sp.mem l n := by
  rw [h.mem]
  unfold Sp.mem In
  constructor
  · rintro ⟨x, hx, e⟩
    rw [near_id x (hl x hx).1 (hl x hx).2.1 (hl x hx).2.2.1 (hl x hx).2.2.2] at e
    exact ⟨x, hx, e⟩
  · rintro ⟨x, hx, e⟩
    refine ⟨x, hx, ?_⟩
    rwa [near_id x (hl x hx).1 (hl x hx).2.1 (hl x hx).2.2.1 (hl x hx).2.2.2]
theorem Good.small {s : List (Int × Int)} (h : Good s) : Small s := fun x hx => by
  have := h.1.1 x hx
  have := h.2 x hx
  omega
theorem Good.isOf {s : List (Int × Int)} (h : Good s) : IsOf s s := ⟨h.1, fun n => by
  rw [mem_map_near]
  unfold Sp.mem In
  constructor
  · rintro ⟨x, hx, e⟩
    refine ⟨x, hx, ?_⟩
    rwa [near_id x (h.small x hx).1 (h.small x hx).2.1 (h.small x hx).2.2.1 (h.small x hx).2.2.2]
  · rintro ⟨x, hx, e⟩
    rw [near_id x (h.small x hx).1 (h.small x hx).2.1 (h.small x hx).2.2.1 (h.small x hx).2.2.2] at e
    exact ⟨x, hx, e⟩⟩
theorem Canon.take {s : List (Int × Int)} (h : Canon s) (k : Nat) : Canon (s.take k) := ⟨fun x hx => h.1 x (List.mem_of_mem_take hx), h.2.sublist (List.take_sublist k s)⟩
theorem Good.take {s : List (Int × Int)} (h : Good s) (k : Nat) : Good (s.take k) := ⟨h.1.take k, fun x hx => h.2 x (List.mem_of_mem_take hx)⟩

/-- How many numbers, by the sum. -/
def total (s : List (Int × Int)) : Int := (s.map fun x => x.2 - x.1).sum
theorem take_succ_getD (l : List (Int × Int)) (k : Nat) (hk : k < l.length) : l.take (k + 1) = l.take k ++ [l.getD k (0, 0)] := by
  rw [List.take_succ_eq_append_getElem hk]
  simp [List.getD, List.getElem?_eq_getElem hk]
theorem total_append (s t : List (Int × Int)) : total (s ++ t) = total s + total t := by simp [total]
theorem total_one (x : Int × Int) : total [x] = x.2 - x.1 := by simp [total]
theorem total_succ (l : List (Int × Int)) (k : Nat) (hk : k < l.length) : total (l.take (k + 1)) = total (l.take k) + ((l.getD k (0, 0)).2 - (l.getD k (0, 0)).1) := by
  rw [take_succ_getD l k hk, total_append, total_one]
theorem run_len (x : Int × Int) : (run x).length = (x.2 - x.1).toNat := by simp [run]
theorem run_succ (a j : Int) (h : a ≤ j) : run (a, j + 1) = run (a, j) ++ [j] := by
  unfold run
  simp only
  rw [show (j + 1 - a).toNat = (j - a).toNat + 1 by omega, List.range_succ, List.map_append]
  congr 1
  simp
  omega
theorem run_nil (a : Int) : run (a, a) = [] := by simp [run]
theorem nums_append (s t : List (Int × Int)) : nums (s ++ t) = nums s ++ nums t := by simp [nums]
theorem nums_one (x : Int × Int) : nums [x] = run x := by simp [nums]
theorem nums_succ (l : List (Int × Int)) (k : Nat) (hk : k < l.length) : nums (l.take (k + 1)) = nums (l.take k) ++ run (l.getD k (0, 0)) := by
  rw [take_succ_getD l k hk, nums_append, nums_one]
theorem nums_total (s : List (Int × Int)) (h : ∀ x ∈ s, x.1 < x.2) : ((nums s).length : Int) = total s := by
  induction s with
  | nil => rfl
  | cons x s ih =>
    have hx := h x (by simp)
    have := ih fun y hy => h y (by simp [hy])
    show ((List.flatMap run (x :: s)).length : Int) = ((x :: s).map _).sum
    rw [List.flatMap_cons, List.length_append, List.map_cons, List.sum_cons, run_len]
    unfold nums total at this
    omega
theorem rising_len {l : List Int} (h : Rising l) (a b : Int) (hab : a ≤ b) (hb : ∀ n ∈ l, a ≤ n ∧ n < b) : (l.length : Int) ≤ b - a := by
  induction l generalizing a with
  | nil => simp; omega
  | cons x l ih =>
    obtain ⟨h1, h2⟩ := List.pairwise_cons.1 h
    have hx := hb x (by simp)
    have := ih h2 (x + 1) (by omega) fun n hn => by
      have := h1 n hn
      have := hb n (by simp [hn])
      omega
    simp only [List.length_cons]
    omega
theorem Good.mem_bd {s : List (Int × Int)} (h : Good s) {n : Int} (hn : mem s n) : -1099511627776 ≤ n ∧ n < 1099511627777 := by
  obtain ⟨x, hx, e⟩ := hn
  have := h.2 x hx
  omega
theorem Good.total_bd {s : List (Int × Int)} (h : Good s) : 0 ≤ total s ∧ total s ≤ 2199023255553 := by
  rw [← nums_total s h.1.1]
  have := rising_len (nums_rising s h.1) (-1099511627776) 1099511627777 (by omega) fun n hn => by
    have := h.mem_bd ((mem_nums s n).1 hn)
    omega
  omega
theorem nums_take_len (s : List (Int × Int)) (k : Nat) : (nums (s.take k)).length ≤ (nums s).length := by
  conv => rhs; rw [← List.take_append_drop k s, nums_append]
  simp
theorem Canon.len_nums {s : List (Int × Int)} (h : ∀ x ∈ s, x.1 < x.2) : s.length ≤ (nums s).length := by
  induction s with
  | nil => simp
  | cons x s ih =>
    have hx := h x (by simp)
    have := ih fun y hy => h y (by simp [hy])
    unfold nums at *
    rw [List.flatMap_cons, List.length_append, run_len]
    simp only [List.length_cons]
    omega
/-- A set within so many numbers has no more spans. -/
theorem Canon.len_le {s : List (Int × Int)} (h : Canon s) (a b : Int) (hab : a ≤ b) (hb : ∀ n, mem s n → a ≤ n ∧ n < b) : (s.length : Int) ≤ b - a := by
  have h1 := Canon.len_nums h.1
  have h2 := rising_len (nums_rising s h) a b hab fun n hn => hb n ((mem_nums s n).1 hn)
  omega

/-- What is left of a span without another one. -/
def pieces (y x : Int × Int) : List (Int × Int) := [(y.1, min y.2 x.1), (max y.1 x.2, y.2)]
def left1 (x y : Int × Int) : List (Int × Int) := (pieces y x).filter fun z => decide (z.1 < z.2)
def left (l : List (Int × Int)) (x : Int × Int) : List (Int × Int) := l.flatMap (left1 x)
theorem left_succ (l : List (Int × Int)) (x : Int × Int) (k : Nat) (hk : k < l.length) : left (l.take (k + 1)) x = left (l.take k) x ++ left1 x (l.getD k (0, 0)) := by
  rw [take_succ_getD l k hk]
  simp [left]
theorem left1_len (x y : Int × Int) : (left1 x y).length ≤ 2 := Nat.le_trans (List.length_filter_le _ _) (by simp [pieces])
theorem left_len (l : List (Int × Int)) (x : Int × Int) : (left l x).length ≤ 2 * l.length := by
  induction l with
  | nil => simp [left]
  | cons y l ih =>
    have := left1_len x y
    unfold left at *
    rw [List.flatMap_cons, List.length_append]
    simp only [List.length_cons]
    omega
theorem mem_left {s : List (Int × Int)} {x : Int × Int} (hx : x.1 < x.2) (n : Int) : mem (left s x) n ↔ mem s n ∧ ¬ In x n := by
  unfold mem left left1 pieces In
  constructor
  · rintro ⟨z, hz, h⟩
    obtain ⟨y, hy, hz⟩ := List.mem_flatMap.1 hz
    have hz := (List.mem_filter.1 hz).1
    simp at hz
    rcases hz with rfl | rfl
    · simp only at h
      exact ⟨⟨y, hy, by omega⟩, by omega⟩
    · simp only at h
      exact ⟨⟨y, hy, by omega⟩, by omega⟩
  · rintro ⟨⟨y, hy, h⟩, hn⟩
    by_cases h1 : n < x.1
    · refine ⟨(y.1, min y.2 x.1), List.mem_flatMap.2 ⟨y, hy, List.mem_filter.2 ⟨by simp, ?_⟩⟩, by simp only; omega⟩
      simp; omega
    · refine ⟨(max y.1 x.2, y.2), List.mem_flatMap.2 ⟨y, hy, List.mem_filter.2 ⟨by simp, ?_⟩⟩, by simp only; omega⟩
      simp; omega
theorem left_small {s : List (Int × Int)} (h : Good s) {x : Int × Int} (h1 : -1099511627776 ≤ x.1) (h2 : x.2 ≤ 1099511627777) (hx : x.1 < x.2) : Small (left s x) := fun z hz => by
  obtain ⟨y, hy, hz⟩ := List.mem_flatMap.1 hz
  obtain ⟨hz, hlt⟩ := List.mem_filter.1 hz
  have := h.1.1 y hy
  have := h.2 y hy
  simp [pieces] at hz
  simp only [decide_eq_true_eq] at hlt
  rcases hz with rfl | rfl <;> simp only at * <;> omega

/-- What is in both, span by span. -/
def meet (x y : Int × Int) : Int × Int := (max x.1 y.1, min x.2 y.2)
def cross (s t : List (Int × Int)) : List (Int × Int) := s.flatMap fun x => t.map (meet x)
theorem cross_succ (s t : List (Int × Int)) (k : Nat) (hk : k < s.length) : cross (s.take (k + 1)) t = cross (s.take k) t ++ t.map (meet (s.getD k (0, 0))) := by
  rw [take_succ_getD s k hk]
  simp [cross]
theorem meets_succ (x : Int × Int) (t : List (Int × Int)) (k : Nat) (hk : k < t.length) : (t.take (k + 1)).map (meet x) = (t.take k).map (meet x) ++ [meet x (t.getD k (0, 0))] := by
  rw [take_succ_getD t k hk]
  simp
theorem cross_len (s t : List (Int × Int)) : (cross s t).length = s.length * t.length := by
  induction s with
  | nil => simp [cross]
  | cons x s ih =>
    unfold cross at *
    rw [List.flatMap_cons, List.length_append, ih, List.length_map]
    simp only [List.length_cons]
    rw [Nat.add_mul]
    omega
theorem mem_cross (s t : List (Int × Int)) (n : Int) : mem (cross s t) n ↔ mem s n ∧ mem t n := by
  unfold mem cross meet
  constructor
  · rintro ⟨z, hz, h⟩
    obtain ⟨x, hx, hz⟩ := List.mem_flatMap.1 hz
    obtain ⟨y, hy, rfl⟩ := List.mem_map.1 hz
    simp only at h
    exact ⟨⟨x, hx, by omega⟩, ⟨y, hy, by omega⟩⟩
  · rintro ⟨⟨x, hx, h1⟩, ⟨y, hy, h2⟩⟩
    exact ⟨_, List.mem_flatMap.2 ⟨x, hx, List.mem_map.2 ⟨y, hy, rfl⟩⟩, by simp only; omega⟩
theorem cross_small {s t : List (Int × Int)} (hs : Good s) (ht : Good t) : Small (cross s t) := fun z hz => by
  obtain ⟨x, hx, hz⟩ := List.mem_flatMap.1 hz
  obtain ⟨y, hy, rfl⟩ := List.mem_map.1 hz
  have := hs.small x hx
  have := ht.small y hy
  unfold meet
  simp only
  omega
end Go.Proofs.Ytngljhpplmbglaa.Sp

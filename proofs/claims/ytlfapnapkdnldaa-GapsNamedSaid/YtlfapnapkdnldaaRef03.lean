/-
  polliwogref03: Has, Put.
-/
import Derived.Test.YtlfapnapkdnldaaSpanP
import Derived.Test.YtlfapnapkdnldaaTy
import Derived.RegionTactic
import Derived.ChangeAlike
namespace Go.Proofs.Ytlfapnapkdnldaa
open Go.RowKit

theorem has_take (l : List Int) (x : Int) (k : Nat) (hk : k < l.length) (h : ¬ x ∈ l.take k) (hne : ¬ l.getD k 0 = x) : ¬ x ∈ l.take (k + 1) := by
  rw [List.take_succ_eq_append_getElem hk]
  intro hm
  rcases List.mem_append.1 hm with hm | hm
  · exact h hm
  · simp at hm
    apply hne
    simp [List.getD, List.getElem?_eq_getElem hk, hm]

set_option maxHeartbeats 1000000 in
theorem has03_any (A : Option Addr) (c : Nat) (l : List Int) (x : Int) (w : World) (h : Rd intE w A c l) :
    Calls Try.prog 22 #[.slice A l.length c, .int .i64 x] w fun e w' => e = .returned (.bool (decide (x ∈ l))) ∧ w = w' := by
  have hlc := h.1
  have hcm := h.2.1
  unfold maxLen at hcm
  have H := Lib.hid h
  clear h
  go_enter Try.func22, Try.ntmps22
  go_wp2_with fail
  go_loop [9] (fun i => ∃ k : Nat, k ≤ l.length ∧ i = .int .i64 k ∧ Hid (¬ x ∈ l.take k)) (fun i => l.length - (intOf i).toNat)
  case atStart => exact ⟨0, by omega, rfl, by simp [Hid]⟩
  case round =>
    obtain ⟨k, hk, rfl, hn⟩ := hrel
    by_cases hlt : k < l.length
    · obtain ⟨g, o, rfl, _, hc⟩ := H.out.int_at k hlt
      have hki : (k : Int) < (l.length : Int) := by omega
      have HT := Lib.hid (has_take l x k hlt hn.out)
      have HM : Hid (l.getD k 0 ∈ l) := by
        unfold Hid
        have : l.getD k 0 = l[k] := by simp [List.getD, List.getElem?_eq_getElem hlt]
        rw [this]; exact List.getElem_mem hlt
      obtain ⟨y, hy⟩ : ∃ y, y = l.getD k 0 := ⟨_, rfl⟩
      rw [← hy] at hc HT HM
      clear hy
      by_cases he : y = x
      · have hb : (y == x) = true := beq_iff_eq.2 he
        have HE := Lib.hid he
        clear he
        go_wp2
        go_ret
        exact ⟨by rw [decide_eq_true (by rw [← HE.out]; exact HM.out)]; rfl, rfl⟩
      · have hb : (y == x) = false := beq_eq_false_iff_ne.2 he
        have HN := Lib.hid (HT.out he)
        clear he
        go_wp2
        go_round
        case rel => exact ⟨k + 1, by omega, by go_num, HN.out⟩
        case measure => simp [intOf]; omega
    · have hki : ¬ (k : Int) < (l.length : Int) := by omega
      have hkk : k = l.length := by omega
      have hn2 : Hid (¬ x ∈ l) := by
        have := hn.out
        rw [hkk, List.take_length] at this
        exact this
      clear hkk
      go_wp2
      go_ret
      exact ⟨by rw [decide_eq_false hn2.out]; rfl, rfl⟩

namespace Sp
/-- A number ahead of the first greater one. -/
def ins (x : Int) : List Int → List Int
  | [] => [x]
  | y :: l => if x < y then x :: y :: l else y :: ins x l
def put (l : List Int) (x : Int) : List Int := if x ∈ l then l else ins x l
/-- Is there a greater one among the first k? -/
def past (l : List Int) (x : Int) (k : Nat) : Bool := (l.take k).any (fun y => decide (x < y))
def insTo (l : List Int) (x : Int) (k : Nat) : List Int := if past l x k = true then ins x (l.take k) else l.take k
theorem ins_snoc_past (l : List Int) (x y : Int) (h : l.any (fun y => decide (x < y)) = true) : ins x (l ++ [y]) = ins x l ++ [y] := by
  induction l with
  | nil => simp at h
  | cons z l ih =>
    by_cases hz : x < z
    · simp [ins, hz]
    · have : l.any (fun y => decide (x < y)) = true := by simpa [hz] using h
      simp [ins, hz, ih this]
theorem ins_snoc_not (l : List Int) (x y : Int) (h : l.any (fun y => decide (x < y)) = false) : ins x (l ++ [y]) = l ++ ins x [y] := by
  induction l with
  | nil => rfl
  | cons z l ih =>
    have hz : ¬ x < z := by simp at h; omega
    have : l.any (fun y => decide (x < y)) = false := by simp at h ⊢; exact h.2
    simp [ins, hz, ih this]
theorem ins_not (l : List Int) (x : Int) (h : l.any (fun y => decide (x < y)) = false) : ins x l = l ++ [x] := by
  induction l with
  | nil => rfl
  | cons z l ih =>
    have hz : ¬ x < z := by simp at h; omega
    have : l.any (fun y => decide (x < y)) = false := by simp at h ⊢; exact h.2
    simp [ins, hz, ih this]
theorem past_succ (l : List Int) (x : Int) (k : Nat) (hk : k < l.length) : past l x (k + 1) = (past l x k || decide (x < l.getD k 0)) := by
  unfold past
  rw [List.take_succ_eq_append_getElem hk, List.any_append]
  simp [List.getD, List.getElem?_eq_getElem hk]
theorem insTo_succ (l : List Int) (x : Int) (k : Nat) (hk : k < l.length) : insTo l x (k + 1) = insTo l x k ++ (if past l x k = true then [l.getD k 0] else if x < l.getD k 0 then [x, l.getD k 0] else [l.getD k 0]) := by
  unfold insTo
  rw [past_succ l x k hk, List.take_succ_eq_append_getElem hk]
  have e : l.getD k 0 = l[k] := by simp [List.getD, List.getElem?_eq_getElem hk]
  rw [e]
  by_cases hp : past l x k = true
  · rw [if_pos hp, if_pos hp, if_pos (by rw [hp]; rfl), ins_snoc_past _ _ _ hp]
  · have hp' : past l x k = false := by simpa using hp
    rw [if_neg hp, if_neg hp, hp']
    by_cases hx : x < l[k]
    · rw [if_pos (by simp [hx]), if_pos hx, ins_snoc_not _ _ _ hp']
      simp [ins, hx]
    · rw [if_neg (by simp [hx]), if_neg hx]
theorem insTo_all (l : List Int) (x : Int) : ins x l = if past l x l.length = true then insTo l x l.length else insTo l x l.length ++ [x] := by
  unfold insTo past
  rw [List.take_length]
  by_cases h : l.any (fun y => decide (x < y)) = true
  · rw [if_pos h, if_pos h]
  · rw [if_neg h, if_neg h, ins_not _ _ (by simpa using h)]
theorem insTo_len (l : List Int) (x : Int) (k : Nat) : (insTo l x k).length ≤ k + 1 := by
  have hi : ∀ m : List Int, (ins x m).length = m.length + 1 := by
    intro m
    induction m with
    | nil => rfl
    | cons y m ih => unfold ins; split <;> simp [ih]
  unfold insTo
  split
  · rw [hi]; simp; omega
  · simp; omega
theorem mem_ins (l : List Int) (x n : Int) : n ∈ ins x l ↔ n = x ∨ n ∈ l := by
  induction l with
  | nil => simp [ins]
  | cons y l ih =>
    unfold ins
    split
    · simp
    · simp only [List.mem_cons, ih]
      constructor
      · rintro (h | h | h)
        · exact .inr (.inl h)
        · exact .inl h
        · exact .inr (.inr h)
      · rintro (h | h | h)
        · exact .inr (.inl h)
        · exact .inl h
        · exact .inr (.inr h)
theorem mem_put (l : List Int) (x n : Int) : n ∈ put l x ↔ n = x ∨ n ∈ l := by
  unfold put
  split
  · rename_i h
    constructor
    · exact .inr
    · rintro (rfl | h1)
      · exact h
      · exact h1
  · exact mem_ins l x n
theorem ins_rising (l : List Int) (x : Int) (h : Rising l) (hx : ¬ x ∈ l) : Rising (ins x l) := by
  induction l with
  | nil => exact List.pairwise_singleton _ _
  | cons y l ih =>
    obtain ⟨h1, h2⟩ := List.pairwise_cons.1 h
    simp only [List.mem_cons, not_or] at hx
    unfold ins
    split
    · rename_i hlt
      refine List.pairwise_cons.2 ⟨fun z hz => ?_, h⟩
      rcases List.mem_cons.1 hz with rfl | hz
      · exact hlt
      · have := h1 z hz; omega
    · rename_i hlt
      refine List.pairwise_cons.2 ⟨fun z hz => ?_, ih h2 hx.2⟩
      rcases (mem_ins l x z).1 hz with rfl | hz
      · omega
      · exact h1 z hz
theorem put_rising (l : List Int) (x : Int) (h : Rising l) : Rising (put l x) := by
  unfold put
  split
  · exact h
  · exact ins_rising l x h (by assumption)
end Sp
end Go.Proofs.Ytlfapnapkdnldaa

/-
  polliwogref13: the document's answers for rules; Letter, Name.
-/
import Derived.Test.YtkmegkjkbalooaaTables
import Derived.PlainAid
namespace Go.Proofs.Ytkmegkjkbalooaa
open Go.RowKit Go.PlainAid

namespace Ru
def rowsB : List ByteArray := [{ data := #[72, 82, 72, 46, 82, 82, 87, 82, 82, 82, 82, 82, 72, 72, 82] }, { data := #[72, 72, 46, 46, 46, 46, 72, 46, 46, 46, 46, 46, 72, 72, 46] }, { data := #[72, 87, 72, 87, 87, 87, 87, 87, 87, 87, 87, 87, 72, 72, 87] }, { data := #[72, 46, 72, 72, 46, 46, 72, 46, 46, 46, 46, 46, 72, 72, 46] }, { data := #[72, 46, 72, 70, 72, 72, 70, 46, 46, 46, 46, 46, 72, 72, 46] }, { data := #[72, 46, 72, 70, 72, 46, 70, 46, 46, 46, 46, 46, 72, 72, 46] }, { data := #[72, 46, 72, 70, 72, 46, 70, 46, 72, 46, 46, 46, 72, 72, 72] }, { data := #[72, 46, 72, 70, 72, 46, 70, 46, 72, 46, 46, 46, 72, 72, 46] }, { data := #[72, 46, 72, 70, 72, 46, 70, 46, 72, 46, 46, 46, 72, 72, 46] }, { data := #[72, 46, 72, 70, 72, 46, 70, 72, 72, 72, 72, 72, 72, 72, 46] }]
def code (b : Int) : Int := if b = 72 then 1 else if b = 87 then 2 else if b = 82 then 3 else if b = 70 then 4 else 0
def refOf (s k : Int) : Int := if 1 ≤ s ∧ s ≤ 10 ∧ 1 ≤ k ∧ k ≤ 15 then code (bt (rowsB.getD (s.toNat - 1) ByteArray.empty) (k.toNat - 1)) else 0
def orderB : ByteArray := { data := #[66, 67, 69, 70, 74, 75, 68, 65, 76, 71, 72, 73, 0, 0, 77] }
def letter (k : Int) : Int := if 1 ≤ k ∧ k ≤ 15 then bt orderB (k.toNat - 1) else 0
def refMay (s q : Int) : Bool :=
  if 1 ≤ s ∧ s ≤ 10 then
    if q = 1 then decide (s = 1 ∨ s = 4) else if q = 2 then decide (s = 3) else if q = 3 then decide (s ≠ 1 ∧ s ≠ 4) else if q = 4 then decide (s = 8 ∨ s = 10)
    else if q = 5 then decide (s = 6) else if q = 6 then decide (s = 8 ∨ s = 9) else if q = 7 then decide (s = 10) else decide (8 ≤ q ∧ q ≤ 11)
  else false
def namesB : List ByteArray := [{ data := #[105, 100, 108, 101] }, { data := #[111, 117, 116, 103, 111, 105, 110, 103] }, { data := #[105, 110, 99, 111, 109, 105, 110, 103] }, { data := #[108, 101, 97, 118, 105, 110, 103] }, { data := #[114, 101, 115, 121, 110, 99, 105, 110, 103] }, { data := #[114, 101, 115, 121, 110, 99, 101, 100] }, { data := #[114, 101, 99, 111, 118, 101, 114, 105, 110, 103] }, { data := #[97, 110, 115, 119, 101, 114, 101, 100] }, { data := #[114, 101, 99, 111, 118, 101, 114, 101, 100] }, { data := #[114, 101, 97, 100, 121] }]
def name (s : Int) : ByteArray := if 1 ≤ s ∧ s ≤ 10 then namesB.getD (s.toNat - 1) ByteArray.empty else ByteArray.empty

theorem key_of {m : Tbl} {p : Int × Int} {x : Int} (h : mget m p = some x) : ∃ q ∈ m, q.1 = p := by
  unfold mget at h
  rw [Option.map_eq_some_iff] at h
  obtain ⟨q, hq, _⟩ := h
  exact ⟨q, List.mem_of_find?_eq_some hq, by simpa using List.find?_some hq⟩
theorem tbl_keys : tbl.all (fun p => decide (1 ≤ p.1.1 ∧ p.1.1 ≤ 10 ∧ 1 ≤ p.1.2 ∧ p.1.2 ≤ 15)) = true := by decide +kernel
theorem req_keys : req.all (fun p => decide (1 ≤ p.1.1 ∧ p.1.1 ≤ 10 ∧ 1 ≤ p.1.2 ∧ p.1.2 ≤ 11)) = true := by decide +kernel
theorem of_in : (List.range 10).all (fun a => (List.range 15).all fun b => (mget tbl ((a : Int) + 1, (b : Int) + 1)).getD 0 == code (bt (rowsB.getD a ByteArray.empty) b)) = true := by decide +kernel
theorem may_in : (List.range 10).all (fun a => (List.range 11).all fun b => (mget req ((a : Int) + 1, (b : Int) + 1)).getD 0 == (if refMay ((a : Int) + 1) ((b : Int) + 1) then 1 else 0)) = true := by decide +kernel
theorem of_eq (s k : Int) : of_ s k = refOf s k := by
  unfold of_ refOf
  by_cases h : 1 ≤ s ∧ s ≤ 10 ∧ 1 ≤ k ∧ k ≤ 15
  · rw [if_pos h]
    obtain ⟨a, rfl⟩ : ∃ a : Nat, s = (a : Int) + 1 := ⟨(s - 1).toNat, by omega⟩
    obtain ⟨b, rfl⟩ : ∃ b : Nat, k = (b : Int) + 1 := ⟨(k - 1).toNat, by omega⟩
    have h1 := List.all_eq_true.1 of_in a (List.mem_range.2 (by omega))
    have h2 := List.all_eq_true.1 h1 b (List.mem_range.2 (by omega))
    have e1 : ((a : Int) + 1).toNat - 1 = a := by omega
    have e2 : ((b : Int) + 1).toNat - 1 = b := by omega
    rw [e1, e2]
    exact eq_of_beq h2
  · rw [if_neg h]
    cases hm : mget tbl (s, k) with
    | none => rfl
    | some x =>
      obtain ⟨q, hq, e⟩ := key_of hm
      have := List.all_eq_true.1 tbl_keys q hq
      rw [e] at this
      simp at this
      omega
theorem may_eq (s q : Int) : may s q = refMay s q := by
  unfold may
  by_cases h : 1 ≤ s ∧ s ≤ 10 ∧ 1 ≤ q ∧ q ≤ 11
  · obtain ⟨a, rfl⟩ : ∃ a : Nat, s = (a : Int) + 1 := ⟨(s - 1).toNat, by omega⟩
    obtain ⟨b, rfl⟩ : ∃ b : Nat, q = (b : Int) + 1 := ⟨(q - 1).toNat, by omega⟩
    have h1 := List.all_eq_true.1 may_in a (List.mem_range.2 (by omega))
    have h2 := List.all_eq_true.1 h1 b (List.mem_range.2 (by omega))
    rw [eq_of_beq h2]
    cases refMay ((a : Int) + 1) ((b : Int) + 1) <;> rfl
  · have hr : refMay s q = false := by
      unfold refMay
      by_cases h10 : 1 ≤ s ∧ s ≤ 10
      · rw [if_pos h10, if_neg (by omega), if_neg (by omega), if_neg (by omega), if_neg (by omega), if_neg (by omega), if_neg (by omega), if_neg (by omega)]
        simp; omega
      · rw [if_neg h10]
    rw [hr]
    cases hm : mget req (s, q) with
    | none => rfl
    | some x =>
      obtain ⟨p, hp, e⟩ := key_of hm
      have := List.all_eq_true.1 req_keys p hp
      rw [e] at this
      simp at this
      omega
theorem rows_size : rowsB.all (fun b => b.size == 15) = true := by decide +kernel
end Ru

theorem letter_any (k : Int) (w : World) : Calls Try.prog 30 #[.int .i64 k] w fun e w' => e = .returned (.int .u8 (Ru.letter k)) ∧ w = w' := by
  by_cases h : 1 ≤ k ∧ k ≤ 15
  · obtain ⟨h1, h2⟩ := h
    have hl : Hid (Ru.letter k = bt Ru.orderB (k.toNat - 1)) := by show _ = _; unfold Ru.letter; rw [if_pos ⟨h1, h2⟩]
    have hg := get_bt Ru.orderB
    have hs : Ru.orderB.size = 15 := by decide +kernel
    have he : ({ data := #[66, 67, 69, 70, 74, 75, 68, 65, 76, 71, 72, 73, 0, 0, 77] } : ByteArray) = Ru.orderB := rfl
    generalize Ru.orderB = X at *
    go_enter Try.func30, Try.ntmps30
    go_wp2
    go_ret
    exact ⟨by rw [hl.out]; rfl, rfl⟩
  · have hl : Hid (Ru.letter k = 0) := by show _ = _; unfold Ru.letter; rw [if_neg h]
    by_cases h1 : k < 1
    · clear h
      go_enter Try.func30, Try.ntmps30
      go_wp2
      go_ret
      exact ⟨by rw [hl.out]; rfl, rfl⟩
    · have h2 : 15 < k := by omega
      clear h
      go_enter Try.func30, Try.ntmps30
      go_wp2
      go_ret
      exact ⟨by rw [hl.out]; rfl, rfl⟩

set_option maxHeartbeats 2000000 in
theorem refOf_any (s k : Int) (w : World) : Calls Try.prog 74 #[.int .i64 s, .int .i64 k] w fun e w' => e = .returned (.int .i64 (Ru.refOf s k)) ∧ Fresh w w' := by
  by_cases h : 1 ≤ s ∧ s ≤ 10 ∧ 1 ≤ k ∧ k ≤ 15
  · obtain ⟨h1, h2, h3, h4⟩ := h
    have hl : Hid (Ru.refOf s k = Ru.code (bt (Ru.rowsB.getD (s.toNat - 1) ByteArray.empty) (k.toNat - 1))) := by show _ = _; unfold Ru.refOf; rw [if_pos ⟨h1, h2, h3, h4⟩]
    have hlen : (s.toNat - 1) < Ru.rowsB.length := by show _ < 10; omega
    have hs : (Ru.rowsB.getD (s.toNat - 1) ByteArray.empty).size = 15 := by
      have := List.all_eq_true.1 Ru.rows_size (Ru.rowsB[(s.toNat - 1)]) (List.getElem_mem hlen)
      rw [List.getD_eq_getElem?_getD, List.getElem?_eq_getElem hlen]
      exact eq_of_beq this
    have hc : (w.alloc (.cells #[Value.string { data := #[72, 82, 72, 46, 82, 82, 87, 82, 82, 82, 82, 82, 72, 72, 82] }, Value.string { data := #[72, 72, 46, 46, 46, 46, 72, 46, 46, 46, 46, 46, 72, 72, 46] }, Value.string { data := #[72, 87, 72, 87, 87, 87, 87, 87, 87, 87, 87, 87, 72, 72, 87] }, Value.string { data := #[72, 46, 72, 72, 46, 46, 72, 46, 46, 46, 46, 46, 72, 72, 46] }, Value.string { data := #[72, 46, 72, 70, 72, 72, 70, 46, 46, 46, 46, 46, 72, 72, 46] }, Value.string { data := #[72, 46, 72, 70, 72, 46, 70, 46, 46, 46, 46, 46, 72, 72, 46] }, Value.string { data := #[72, 46, 72, 70, 72, 46, 70, 46, 72, 46, 46, 46, 72, 72, 72] }, Value.string { data := #[72, 46, 72, 70, 72, 46, 70, 46, 72, 46, 46, 46, 72, 72, 46] }, Value.string { data := #[72, 46, 72, 70, 72, 46, 70, 46, 72, 46, 46, 46, 72, 72, 46] }, Value.string { data := #[72, 46, 72, 70, 72, 46, 70, 72, 72, 72, 72, 72, 72, 72, 46] }] 9)).cell? ⟨w.heap.size, (s.toNat - 1), none⟩ = some (.string (Ru.rowsB.getD (s.toNat - 1) ByteArray.empty)) := by
      rw [World.cell?_alloc_new]
      have : (#[Value.string { data := #[72, 82, 72, 46, 82, 82, 87, 82, 82, 82, 82, 82, 72, 72, 82] }, Value.string { data := #[72, 72, 46, 46, 46, 46, 72, 46, 46, 46, 46, 46, 72, 72, 46] }, Value.string { data := #[72, 87, 72, 87, 87, 87, 87, 87, 87, 87, 87, 87, 72, 72, 87] }, Value.string { data := #[72, 46, 72, 72, 46, 46, 72, 46, 46, 46, 46, 46, 72, 72, 46] }, Value.string { data := #[72, 46, 72, 70, 72, 72, 70, 46, 46, 46, 46, 46, 72, 72, 46] }, Value.string { data := #[72, 46, 72, 70, 72, 46, 70, 46, 46, 46, 46, 46, 72, 72, 46] }, Value.string { data := #[72, 46, 72, 70, 72, 46, 70, 46, 72, 46, 46, 46, 72, 72, 72] }, Value.string { data := #[72, 46, 72, 70, 72, 46, 70, 46, 72, 46, 46, 46, 72, 72, 46] }, Value.string { data := #[72, 46, 72, 70, 72, 46, 70, 46, 72, 46, 46, 46, 72, 72, 46] }, Value.string { data := #[72, 46, 72, 70, 72, 46, 70, 72, 72, 72, 72, 72, 72, 72, 46] }] : Array Value) = (Ru.rowsB.map Value.string).toArray := rfl
      rw [this, List.getD_eq_getElem?_getD, List.getElem?_eq_getElem hlen, List.getElem?_toArray, List.getElem?_map, List.getElem?_eq_getElem hlen]
      rfl
    have hg := get_bt (Ru.rowsB.getD (s.toNat - 1) ByteArray.empty)
    have hf : Hid (Fresh w (w.alloc (.cells #[Value.string { data := #[72, 82, 72, 46, 82, 82, 87, 82, 82, 82, 82, 82, 72, 72, 82] }, Value.string { data := #[72, 72, 46, 46, 46, 46, 72, 46, 46, 46, 46, 46, 72, 72, 46] }, Value.string { data := #[72, 87, 72, 87, 87, 87, 87, 87, 87, 87, 87, 87, 72, 72, 87] }, Value.string { data := #[72, 46, 72, 72, 46, 46, 72, 46, 46, 46, 46, 46, 72, 72, 46] }, Value.string { data := #[72, 46, 72, 70, 72, 72, 70, 46, 46, 46, 46, 46, 72, 72, 46] }, Value.string { data := #[72, 46, 72, 70, 72, 46, 70, 46, 46, 46, 46, 46, 72, 72, 46] }, Value.string { data := #[72, 46, 72, 70, 72, 46, 70, 46, 72, 46, 46, 46, 72, 72, 72] }, Value.string { data := #[72, 46, 72, 70, 72, 46, 70, 46, 72, 46, 46, 46, 72, 72, 46] }, Value.string { data := #[72, 46, 72, 70, 72, 46, 70, 46, 72, 46, 46, 46, 72, 72, 46] }, Value.string { data := #[72, 46, 72, 70, 72, 46, 70, 72, 72, 72, 72, 72, 72, 72, 46] }] 9))) := (Touch.refl _ _).alloc _
    generalize Ru.rowsB.getD (s.toNat - 1) ByteArray.empty = X at *
    clear hlen
    generalize hx : bt X (k.toNat - 1) = x at *
    have HX := Lib.hid hx
    clear hx
    have hgx : ∀ h, ((X[(k.toNat - 1)]'h).toNat : Int) = x := fun h => (hg _ h).trans HX.out
    clear hg
    by_cases x1 : x = 72
    · have b1 : (x == 72) = true := by simp [x1]
      have hr : Hid (Ru.refOf s k = 1) := by show _ = _; rw [hl.out]; unfold Ru.code; rw [if_pos x1]
      clear x1
      go_enter Try.func74, Try.ntmps74
      go_wp2
      go_ret
      exact ⟨by rw [hr.out]; rfl, hf.out⟩
    · have b1 : (x == 72) = false := by simp [x1]
      by_cases x2 : x = 87
      · have b2 : (x == 87) = true := by simp [x2]
        have hr : Hid (Ru.refOf s k = 2) := by show _ = _; rw [hl.out]; unfold Ru.code; rw [if_neg x1, if_pos x2]
        clear x1 x2
        go_enter Try.func74, Try.ntmps74
        go_wp2
        go_ret
        exact ⟨by rw [hr.out]; rfl, hf.out⟩
      · have b2 : (x == 87) = false := by simp [x2]
        by_cases x3 : x = 82
        · have b3 : (x == 82) = true := by simp [x3]
          have hr : Hid (Ru.refOf s k = 3) := by show _ = _; rw [hl.out]; unfold Ru.code; rw [if_neg x1, if_neg x2, if_pos x3]
          clear x1 x2 x3
          go_enter Try.func74, Try.ntmps74
          go_wp2
          go_ret
          exact ⟨by rw [hr.out]; rfl, hf.out⟩
        · have b3 : (x == 82) = false := by simp [x3]
          by_cases x4 : x = 70
          · have b4 : (x == 70) = true := by simp [x4]
            have hr : Hid (Ru.refOf s k = 4) := by show _ = _; rw [hl.out]; unfold Ru.code; rw [if_neg x1, if_neg x2, if_neg x3, if_pos x4]
            clear x1 x2 x3 x4
            go_enter Try.func74, Try.ntmps74
            go_wp2
            go_ret
            exact ⟨by rw [hr.out]; rfl, hf.out⟩
          · have b4 : (x == 70) = false := by simp [x4]
            have hr : Hid (Ru.refOf s k = 0) := by show _ = _; rw [hl.out]; unfold Ru.code; rw [if_neg x1, if_neg x2, if_neg x3, if_neg x4]
            clear x1 x2 x3 x4
            go_enter Try.func74, Try.ntmps74
            go_wp2
            go_ret
            exact ⟨by rw [hr.out]; rfl, hf.out⟩
  · have hl : Hid (Ru.refOf s k = 0) := by show _ = _; unfold Ru.refOf; rw [if_neg h]
    by_cases h1 : s < 1
    · clear h
      go_enter Try.func74, Try.ntmps74
      go_wp2
      go_ret
      exact ⟨by rw [hl.out]; rfl, Touch.refl _ _⟩
    · by_cases h2 : 10 < s
      · clear h
        go_enter Try.func74, Try.ntmps74
        go_wp2
        go_ret
        exact ⟨by rw [hl.out]; rfl, Touch.refl _ _⟩
      · by_cases h3 : k < 1
        · clear h
          go_enter Try.func74, Try.ntmps74
          go_wp2
          go_ret
          exact ⟨by rw [hl.out]; rfl, Touch.refl _ _⟩
        · have h4 : 15 < k := by omega
          clear h
          go_enter Try.func74, Try.ntmps74
          go_wp2
          go_ret
          exact ⟨by rw [hl.out]; rfl, Touch.refl _ _⟩
end Go.Proofs.Ytkmegkjkbalooaa

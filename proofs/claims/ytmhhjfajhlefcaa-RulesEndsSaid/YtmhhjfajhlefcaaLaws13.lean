/-
  polliwoglaw13: RulesOf, RulesMay, RulesEnds, RulesRequests.
-/
import Derived.Test.YtmhhjfajhlefcaaRef13b
import Derived.Test.YtmhhjfajhlefcaaNum
namespace Go.Proofs.Ytmhhjfajhlefcaa
open Go.RowKit Go.PlainAid

set_option maxHeartbeats 1000000 in
theorem rulesOf.walk (a0 a1 : Int) (w : World) (_h0 : (Lit.int .i64 a0).wf = true) (_h1 : (Lit.int .i64 a1).wf = true) :
    Calls Try.prog 6 #[.int .i64 a0, .int .i64 a1] w fun e w' => e = .returned (.bool true) ∧ Below w.heap.size w w' := by
  have he := Ru.of_eq a0 a1
  have HE := Lib.hid he
  clear he
  go_enter Try.func6, Try.ntmps6
  go_wp2_with fail
  refine (awake13_any _).mono ?_
  rintro e w1 ⟨rfl, t1⟩
  go_wp2_with fail
  refine (of_any _ _ _).mono ?_
  rintro e w2 ⟨rfl, t2⟩
  rw [HE.out]
  go_wp2_with fail
  refine (refOf_any _ _ _).mono ?_
  rintro e w3 ⟨rfl, t3⟩
  generalize Ru.refOf a0 a1 = x
  go_wp2_with fail
  refine (letter_any _ _).mono ?_
  rintro e w3' ⟨rfl, rfl⟩
  go_wp2_with fail
  refine (refLetter_any _ _).mono ?_
  rintro e w4 ⟨rfl, t4⟩
  generalize Ru.letter a1 = y
  have hb : Hid (Below w.heap.size w w4) := (((t1.trans t2 (fun _ _ h => h)).trans t3 (fun _ _ h => h)).trans t4 (fun _ _ h => h)).below (Nat.le_refl _) (fun _ _ h => h)
  clear t1 t2 t3 t4
  go_wp2
  go_ret
  exact ⟨rfl, hb.out⟩

theorem names_cell (s : Int) (h1 : 1 ≤ s) (h2 : s ≤ 10) (w : World) : (w.alloc (.cells #[Value.string { data := #[105, 100, 108, 101] }, Value.string { data := #[111, 117, 116, 103, 111, 105, 110, 103] }, Value.string { data := #[105, 110, 99, 111, 109, 105, 110, 103] }, Value.string { data := #[108, 101, 97, 118, 105, 110, 103] }, Value.string { data := #[114, 101, 115, 121, 110, 99, 105, 110, 103] }, Value.string { data := #[114, 101, 115, 121, 110, 99, 101, 100] }, Value.string { data := #[114, 101, 99, 111, 118, 101, 114, 105, 110, 103] }, Value.string { data := #[97, 110, 115, 119, 101, 114, 101, 100] }, Value.string { data := #[114, 101, 99, 111, 118, 101, 114, 101, 100] }, Value.string { data := #[114, 101, 97, 100, 121] }] 9)).cell? ⟨w.heap.size, s.toNat - 1, none⟩ = some (.string (Ru.name s)) := by
  have hlen : s.toNat - 1 < Ru.namesB.length := by show _ < 10; omega
  rw [World.cell?_alloc_new]
  have e : (#[Value.string { data := #[105, 100, 108, 101] }, Value.string { data := #[111, 117, 116, 103, 111, 105, 110, 103] }, Value.string { data := #[105, 110, 99, 111, 109, 105, 110, 103] }, Value.string { data := #[108, 101, 97, 118, 105, 110, 103] }, Value.string { data := #[114, 101, 115, 121, 110, 99, 105, 110, 103] }, Value.string { data := #[114, 101, 115, 121, 110, 99, 101, 100] }, Value.string { data := #[114, 101, 99, 111, 118, 101, 114, 105, 110, 103] }, Value.string { data := #[97, 110, 115, 119, 101, 114, 101, 100] }, Value.string { data := #[114, 101, 99, 111, 118, 101, 114, 101, 100] }, Value.string { data := #[114, 101, 97, 100, 121] }] : Array Value) = (Ru.namesB.map Value.string).toArray := rfl
  rw [e, List.getElem?_toArray, List.getElem?_map, List.getElem?_eq_getElem hlen]
  unfold Ru.name
  rw [if_pos ⟨h1, h2⟩, List.getD_eq_getElem?_getD, List.getElem?_eq_getElem hlen]
  rfl

set_option maxRecDepth 100000 in
set_option maxHeartbeats 1000000 in
theorem rulesMay.walk (a0 a1 : Int) (w : World) (_h0 : (Lit.int .i64 a0).wf = true) (_h1 : (Lit.int .i64 a1).wf = true) :
    Calls Try.prog 7 #[.int .i64 a0, .int .i64 a1] w fun e w' => e = .returned (.bool true) ∧ Below w.heap.size w w' := by
  have he := Ru.may_eq a0 a1
  have HE := Lib.hid he
  clear he
  go_enter Try.func7, Try.ntmps7
  go_wp2_with fail
  refine (awake13_any _).mono ?_
  rintro e w1 ⟨rfl, t1⟩
  have T1 := Lib.hid t1
  clear t1
  by_cases h1 : 1 ≤ a0
  · by_cases h2 : a0 ≤ 10
    · have hc := names_cell a0 h1 h2 w1
      have HF : Hid (Fresh w1 (w1.alloc (.cells #[Value.string { data := #[105, 100, 108, 101] }, Value.string { data := #[111, 117, 116, 103, 111, 105, 110, 103] }, Value.string { data := #[105, 110, 99, 111, 109, 105, 110, 103] }, Value.string { data := #[108, 101, 97, 118, 105, 110, 103] }, Value.string { data := #[114, 101, 115, 121, 110, 99, 105, 110, 103] }, Value.string { data := #[114, 101, 115, 121, 110, 99, 101, 100] }, Value.string { data := #[114, 101, 99, 111, 118, 101, 114, 105, 110, 103] }, Value.string { data := #[97, 110, 115, 119, 101, 114, 101, 100] }, Value.string { data := #[114, 101, 99, 111, 118, 101, 114, 101, 100] }, Value.string { data := #[114, 101, 97, 100, 121] }] 9))) := (Touch.refl _ _).alloc _
      go_wp2_with fail
      refine (may_any _ _ _).mono ?_
      rintro e w2 ⟨rfl, t2⟩
      rw [HE.out]
      go_wp2_with fail
      refine (refMay_any _ _ _).mono ?_
      rintro e w2' ⟨rfl, rfl⟩
      generalize Ru.refMay a0 a1 = x
      go_wp2_with fail
      refine (name_any _ _).mono ?_
      rintro e w2' ⟨rfl, rfl⟩
      have hb : Hid (Below w.heap.size w w2) := (((T1.out.trans HF.out (fun _ _ h => h)).trans t2 (fun _ _ h => h))).below (Nat.le_refl _) (fun _ _ h => h)
      clear t2 hc
      go_wp2
      go_ret
      exact ⟨by simp, hb.out⟩
    · have hn : Ru.name a0 = { data := #[] } := by unfold Ru.name; rw [if_neg (by omega)]; rfl
      have HN := Lib.hid hn
      have HF : Hid (Fresh w1 (w1.alloc (.cells #[Value.string { data := #[105, 100, 108, 101] }, Value.string { data := #[111, 117, 116, 103, 111, 105, 110, 103] }, Value.string { data := #[105, 110, 99, 111, 109, 105, 110, 103] }, Value.string { data := #[108, 101, 97, 118, 105, 110, 103] }, Value.string { data := #[114, 101, 115, 121, 110, 99, 105, 110, 103] }, Value.string { data := #[114, 101, 115, 121, 110, 99, 101, 100] }, Value.string { data := #[114, 101, 99, 111, 118, 101, 114, 105, 110, 103] }, Value.string { data := #[97, 110, 115, 119, 101, 114, 101, 100] }, Value.string { data := #[114, 101, 99, 111, 118, 101, 114, 101, 100] }, Value.string { data := #[114, 101, 97, 100, 121] }] 9))) := (Touch.refl _ _).alloc _
      clear hn
      go_wp2_with fail
      refine (may_any _ _ _).mono ?_
      rintro e w2 ⟨rfl, t2⟩
      rw [HE.out]
      go_wp2_with fail
      refine (refMay_any _ _ _).mono ?_
      rintro e w2' ⟨rfl, rfl⟩
      generalize Ru.refMay a0 a1 = x
      go_wp2_with fail
      refine (name_any _ _).mono ?_
      rintro e w2' ⟨rfl, rfl⟩
      rw [HN.out]
      have hb : Hid (Below w.heap.size w w2) := (((T1.out.trans HF.out (fun _ _ h => h)).trans t2 (fun _ _ h => h))).below (Nat.le_refl _) (fun _ _ h => h)
      clear t2
      go_wp2
      go_ret
      exact ⟨by simp, hb.out⟩
  · have hn : Ru.name a0 = { data := #[] } := by unfold Ru.name; rw [if_neg (by omega)]; rfl
    have HN := Lib.hid hn
    have HF : Hid (Fresh w1 (w1.alloc (.cells #[Value.string { data := #[105, 100, 108, 101] }, Value.string { data := #[111, 117, 116, 103, 111, 105, 110, 103] }, Value.string { data := #[105, 110, 99, 111, 109, 105, 110, 103] }, Value.string { data := #[108, 101, 97, 118, 105, 110, 103] }, Value.string { data := #[114, 101, 115, 121, 110, 99, 105, 110, 103] }, Value.string { data := #[114, 101, 115, 121, 110, 99, 101, 100] }, Value.string { data := #[114, 101, 99, 111, 118, 101, 114, 105, 110, 103] }, Value.string { data := #[97, 110, 115, 119, 101, 114, 101, 100] }, Value.string { data := #[114, 101, 99, 111, 118, 101, 114, 101, 100] }, Value.string { data := #[114, 101, 97, 100, 121] }] 9))) := (Touch.refl _ _).alloc _
    clear hn
    go_wp2_with fail
    refine (may_any _ _ _).mono ?_
    rintro e w2 ⟨rfl, t2⟩
    rw [HE.out]
    go_wp2_with fail
    refine (refMay_any _ _ _).mono ?_
    rintro e w2' ⟨rfl, rfl⟩
    generalize Ru.refMay a0 a1 = x
    go_wp2_with fail
    refine (name_any _ _).mono ?_
    rintro e w2' ⟨rfl, rfl⟩
    rw [HN.out]
    have hb : Hid (Below w.heap.size w w2) := (((T1.out.trans HF.out (fun _ _ h => h)).trans t2 (fun _ _ h => h))).below (Nat.le_refl _) (fun _ _ h => h)
    clear t2
    go_wp2
    go_ret
    exact ⟨by simp, hb.out⟩
end Go.Proofs.Ytmhhjfajhlefcaa

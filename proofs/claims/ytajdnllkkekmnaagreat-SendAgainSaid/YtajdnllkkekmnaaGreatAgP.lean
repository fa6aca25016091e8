/-
  SendAgain: what goes again was named (plain); the law's state.
-/
import Derived.Test.YtajdnllkkekmnaaGreatPl11
namespace Go.Proofs.YtajdnllkkekmnaaGreat
open Go.RowKit

namespace Gp
theorem up_pair : ∀ (E last : Int) (l : List Int), up E last l = true → ∀ j, j + 1 < l.length → l.getD j 0 < l.getD (j + 1) 0 ∧ l.getD (j + 1) 0 ≤ E
  | _, _, [], _, j, h => by simp at h
  | E, last, a :: r, hu, j, h => by
    have e : up E last (a :: r) = (decide (last < a) && decide (a ≤ E) && up E a r) := rfl
    rw [e] at hu
    simp only [Bool.and_eq_true, decide_eq_true_eq] at hu
    obtain ⟨⟨h1, h2⟩, h3⟩ := hu
    cases j with
    | zero =>
      match r, h, h3 with
      | b :: r', _, h3 =>
        have e : up E a (b :: r') = (decide (a < b) && decide (b ≤ E) && up E b r') := rfl
        rw [e] at h3
        simp only [Bool.and_eq_true, decide_eq_true_eq] at h3
        simpa [List.getD] using h3.1
    | succ j =>
      have := up_pair E a r h3 j (by simpa using h)
      simpa [List.getD] using this
theorem mem_prs : ∀ (l : List Int) (i : Int), i ∈ Sp.nums (prs l) → ∃ k, 2 * k + 1 < l.length ∧ l.getD (2 * k) 0 ≤ i ∧ i < l.getD (2 * k + 1) 0
  | a :: b :: r, i, h => by
    have e : prs (a :: b :: r) = (a, b) :: prs r := rfl
    rw [e] at h
    have h : i ∈ Sp.run (a, b) ∨ i ∈ Sp.nums (prs r) := by simpa [Sp.nums] using h
    rcases h with h | h
    · rw [Sp.mem_run] at h
      exact ⟨0, by simp, by simpa using h.1, by simpa using h.2⟩
    · obtain ⟨k, h1, h2, h3⟩ := mem_prs r i h
      refine ⟨k + 1, by simp; omega, ?_, ?_⟩
      · rw [show 2 * (k + 1) = 2 * k + 1 + 1 by omega]
        simpa [List.getD] using h2
      · rw [show 2 * (k + 1) + 1 = 2 * k + 1 + 1 + 1 by omega]
        simpa [List.getD] using h3
  | [], i, h => by simp [prs, Sp.nums] at h
  | [a], i, h => by simp [prs, Sp.nums] at h
theorem ats_getD (b : Int) (l : List Int) (j : Nat) (hj : j < l.length) : (ats b l).getD j 0 = (l.getD j 0 - b) % 16777216 := by
  unfold ats
  simp [List.getD, List.getElem?_eq_getElem hj]
end Gp

/-- k is marked. -/
def Mkd (m : MList Int) (k : Int) : Prop := mget m k = some (.int .i64 1)
theorem Mkd.set {m : MList Int} {k : Int} (h : Mkd m k) (j : Int) : Mkd (mset m j (.int .i64 1)) k := by
  unfold Mkd at *
  rw [mget_mset]
  split
  · rfl
  · exact h
theorem Mkd.here (m : MList Int) (j : Int) : Mkd (mset m j (.int .i64 1)) j := by
  unfold Mkd
  rw [mget_mset, if_pos rfl]
theorem Mkd.off {m : MList Int} {k j : Int} (h : Mkd m k) (hk : k ≠ j) (v : Value) : Mkd (mset m j v) k := by
  unfold Mkd at *
  rw [mget_mset, if_neg hk]
  exact h

namespace Sf
theorem opn_ag (y : S) (mr : Int) : (opn y mr).again = y.again ∧ (opn y mr).a = y.a := by
  unfold opn
  split <;> exact ⟨rfl, rfl⟩
theorem rep_mem {y : S} {p : Option Int} {T : List Int} {n : Int} (h : n ∈ (rep y p T).1.again) : n ∈ y.again ∨ ∃ i ∈ T, n = y.a + i := by
  have h : n ∈ merge y (more y p T) := h
  unfold merge at h
  have h := (List.mem_filter.1 h).2
  rw [Bool.or_eq_true, decide_eq_true_eq, decide_eq_true_eq] at h
  rcases h with h | h
  · exact .inl h
  · unfold more at h
    obtain ⟨i, hi, e⟩ := List.mem_map.1 (List.mem_filter.1 h).1
    exact .inr ⟨i, hi, e.symm⟩
theorem stat_again {x : S} {r mr ps : Int} {l : List Int} {n : Int} (h : n ∈ (stat x r mr ps l).1.again) : n ∈ x.again ∨ ((stat x r mr ps l).2.2 = 0 ∧ toldOk x r l = true ∧ ∃ i ∈ told x (at_ x r) l, n = at_ x r + i) := by
  unfold stat at h ⊢
  by_cases h1 : x.ps < pollAt x ps
  · rw [if_pos h1] at h
    exact .inl h
  · rw [if_neg h1] at h ⊢
    cases h2 : toldOk x r l with
    | false => rw [h2] at h; exact .inl h
    | true =>
      rw [h2] at h
      simp only [Bool.true_eq_false, if_false] at h ⊢
      rcases rep_mem h with h | ⟨i, hi, e⟩
      · rw [(opn_ag _ _).1] at h
        have h : n ∈ (ack x (at_ x r)).again := h
        unfold ack at h
        exact .inl (List.mem_filter.1 h).1
      · rw [(opn_ag _ _).2] at e
        exact .inr ⟨trivial, trivial, i, hi, e⟩
theorem ustat_again {x : S} {r mr : Int} {l : List Int} {n : Int} (h : n ∈ (ustat x r mr l).1.again) : n ∈ x.again ∨ ((ustat x r mr l).2.2 = 0 ∧ toldOk x r l = true ∧ ∃ i ∈ told x (at_ x r) l, n = at_ x r + i) := by
  unfold ustat at h ⊢
  cases h2 : toldOk x r l with
  | false => rw [h2] at h; exact .inl h
  | true =>
    rw [h2] at h
    simp only [Bool.true_eq_false, if_false] at h ⊢
    rcases rep_mem h with h | ⟨i, hi, e⟩
    · rw [(opn_ag _ _).1] at h
      have h : n ∈ (ack x (at_ x r)).again := h
      unfold ack at h
      exact .inl (List.mem_filter.1 h).1
    · rw [(opn_ag _ _).2] at e
      exact .inr ⟨trivial, trivial, i, hi, e⟩
theorem step_again {x : S} {a : Act11} {m : ByteArray} {n : Int} (h3 : a.kind ≠ 3) (h4 : a.kind ≠ 4) (h : n ∈ (step x a m).again) : n ∈ x.again := by
  unfold step at h
  split at h
  · unfold next at h
    split at h
    · rename_i n' r e
      have h : n ∈ r := h
      rw [e]
      exact List.mem_cons_of_mem _ h
    · split at h
      · exact h
      · split at h <;> exact h
  · split at h
    · exact h
    · split at h
      · rw [(opn_ag _ _).1] at h
        exact h
      · split at h
        · exact h
        · unfold put at h
          split at h <;> exact h
theorem next_nil {x : S} (h : x.again = []) : (next x).2.2.2.1 = (next x).2.2.2.2 := by
  unfold next
  rw [h]
  simp only
  split
  · rfl
  · split <;> rfl
theorem next_cons {x : S} {n : Int} {r : List Int} (h : x.again = n :: r) : (next x).2.1 = n ∧ (next x).2.2.2.1 = false ∧ (next x).2.2.2.2 = true ∧ (next x).1.again = r := by
  unfold next
  rw [h]
  exact ⟨rfl, rfl, rfl, rfl⟩
theorem stat_told {x : S} {r mr ps : Int} {l : List Int} (h : (stat x r mr ps l).2.2 = 0) : toldOk x r l = true := by
  unfold stat at h
  by_cases h1 : x.ps < pollAt x ps
  · rw [if_pos h1] at h
    simp at h
  · rw [if_neg h1] at h
    cases h2 : toldOk x r l with
    | false => rw [h2] at h; simp at h
    | true => rfl
theorem ustat_told {x : S} {r mr : Int} {l : List Int} (h : (ustat x r mr l).2.2 = 0) : toldOk x r l = true := by
  unfold ustat at h
  cases h2 : toldOk x r l with
  | false => rw [h2] at h; simp at h
  | true => rfl
theorem step_3 {x : S} {a : Act11} {m : ByteArray} (h : a.kind = 3) : step x a m = (stat x (numR x a) (numM x a) (numP x a) (numL x a)).1 := by
  unfold step
  rw [if_neg (by omega), if_neg (by omega), if_pos h]
theorem step_4 {x : S} {a : Act11} {m : ByteArray} (h : a.kind = 4) : step x a m = (ustat x (numR x a) (numM x a) (numL x a)).1 := by
  unfold step
  rw [if_neg (by omega), if_neg (by omega), if_neg (by omega), if_pos h]
theorem step_1 {x : S} {a : Act11} {m : ByteArray} (h : a.kind = 1) : step x a m = (next x).1 := by
  unfold step
  rw [if_pos h]
/-- What was told, pair by pair. -/
theorem told_marks {x : S} {lo hi : Int} (hok : Ok x lo hi) {r : Int} {l : List Int} (h : toldOk x r l = true) : 0 ≤ at_ x r ∧ (∀ j, j + 1 < l.length → (l.getD j 0 - at_ x r) % 16777216 < (l.getD (j + 1) 0 - at_ x r) % 16777216 ∧ (l.getD (j + 1) 0 - at_ x r) % 16777216 ≤ 8388608) ∧
    ∀ i ∈ told x (at_ x r) l, ∃ k, 2 * k + 1 < l.length ∧ (l.getD (2 * k) 0 - at_ x r) % 16777216 ≤ i ∧ i < (l.getD (2 * k + 1) 0 - at_ x r) % 16777216 := by
  obtain ⟨h1, h2, h3, h4, h5⟩ := hok.told h
  have ha := hok.la
  have hl := hok.lo0
  unfold Gp.okSet at h5
  simp only [Bool.and_eq_true, decide_eq_true_eq] at h5
  refine ⟨by omega, fun j hj => ?_, fun i hi => ?_⟩
  · have := Gp.up_pair _ _ _ h5.2 j (by simpa [Gp.ats] using hj)
    rw [Gp.ats_getD _ _ _ (by omega), Gp.ats_getD _ _ _ hj] at this
    exact ⟨this.1, by omega⟩
  · obtain ⟨k, k1, k2, k3⟩ := Gp.mem_prs _ i hi
    have k1 : 2 * k + 1 < l.length := by simpa [Gp.ats] using k1
    rw [Gp.ats_getD _ _ _ (by omega)] at k2
    rw [Gp.ats_getD _ _ _ k1] at k3
    exact ⟨k, k1, k2, k3⟩
end Sf

section
variable {B w w' : World} {p b nb : Nat} {F D F' D' : Nat → Prop} {P P' : SfP} {x y : Sf.S} {lo hi hi' : Int} {m : MList Int}
theorem SfIn.farM {m : MList Int} (h : SfIn w P x) (hm : MapAt numK w nb m) (ht : Touch (· = nb) w w') : SfIn w' P x :=
  ⟨h.wait.touch ht (fun ad e hk => by obtain ⟨_, cs, hb, _⟩ := h.wait.2.2.2 ad e; exact hm.blk_ne hb hk.symm),
   h.kept.touch ht (fun ad e hk => by obtain ⟨_, cs, hb, _⟩ := h.kept.2.2.2 ad e; exact hm.blk_ne hb hk.symm),
   h.last.touch ht (fun ad e hk => by obtain ⟨_, cs, hb, _⟩ := h.last.2.2.2 ad e; exact hm.blk_ne hb hk.symm),
   h.again.touch ht (fun ad e hk => by obtain ⟨_, cs, hb, _⟩ := h.again.2.2.2 ad e; exact hm.blk_ne hb hk.symm)⟩
theorem St11.farM (h : St11 w p F D P x lo hi) (hm : MapAt numK w nb m) (hf : ¬ F nb) (ht : Touch (· = nb) w w') : St11 w' p F D P x lo hi :=
  ⟨h.send.away ht (fun k hk hF => by have hk : k = nb := hk; subst hk; exact hf hF), fun k hk => Nat.lt_of_lt_of_le (h.lim k hk) ht.size, h.ins.farM hm ht, h.dom, fun k hk => Nat.lt_of_lt_of_le (h.dlim k hk) ht.size, h.off, h.ok⟩
/-- Behind a call of Step, other stores, and the store of what it gave. -/
theorem PlSt11.next' {T : Nat → Prop} (h : PlSt11 B w p b F D P x lo hi) (hs : St11 w' p F' D' P' y lo hi') (ht : Touch T w w') (hTb : ¬ T b) (hTB : ∀ k, T k → B.heap.size ≤ k) (hF : ∀ k, F' k → F k ∨ w.heap.size ≤ k) :
    PlSt11 B ((((((((((((w'.setCell ⟨b, 0, none⟩ (.int .i64 y.s)).setCell ⟨b, 1, none⟩ (.int .i64 y.a)).setCell ⟨b, 2, none⟩ (.int .i64 y.ms)).setCell ⟨b, 3, none⟩ (.int .i64 y.ps)).setCell ⟨b, 4, none⟩ (.int .i64 y.pa)).setCell ⟨b, 5, none⟩ (.int .i64 y.units)).setCell ⟨b, 6, none⟩ (.int .i64 y.polls)).setCell ⟨b, 7, none⟩ (.int .i64 (y.most : Int))).setCell ⟨b, 8, none⟩ (.slice P'.W y.wait.length P'.cw)).setCell ⟨b, 9, none⟩ (.slice P'.K y.kept.length P'.ck)).setCell ⟨b, 10, none⟩ (.slice P'.L y.last.length P'.cl)).setCell ⟨b, 11, none⟩ (.slice P'.G y.again.length P'.cg)) p b F' D' P' y lo hi' := by
  have hb := ht.blk h.box hTb
  have hlb := h.box.lt
  have hnf : ¬ F' b := fun hf => by
    rcases hF b hf with e | e
    · exact h.nf e
    · omega
  have hT : Touch (· = b) w' ((((((((((((w'.setCell ⟨b, 0, none⟩ (.int .i64 y.s)).setCell ⟨b, 1, none⟩ (.int .i64 y.a)).setCell ⟨b, 2, none⟩ (.int .i64 y.ms)).setCell ⟨b, 3, none⟩ (.int .i64 y.ps)).setCell ⟨b, 4, none⟩ (.int .i64 y.pa)).setCell ⟨b, 5, none⟩ (.int .i64 y.units)).setCell ⟨b, 6, none⟩ (.int .i64 y.polls)).setCell ⟨b, 7, none⟩ (.int .i64 (y.most : Int))).setCell ⟨b, 8, none⟩ (.slice P'.W y.wait.length P'.cw)).setCell ⟨b, 9, none⟩ (.slice P'.K y.kept.length P'.ck)).setCell ⟨b, 10, none⟩ (.slice P'.L y.last.length P'.cl)).setCell ⟨b, 11, none⟩ (.slice P'.G y.again.length P'.cg)) := Touch.st12 (S := (· = b)) (Touch.refl _ w') rfl
  refine ⟨⟨hs.send.away hT (fun k hk hf => ?_), fun k hk => Nat.lt_of_lt_of_le (hs.lim k hk) hT.size, hs.ins.far hb hT, hs.dom, fun k hk => Nat.lt_of_lt_of_le (hs.dlim k hk) hT.size, hs.off, hs.ok⟩, Blk.set12 hb _ _ _ _ _ _ _ _ _ _ _ _, hnf, ?_, h.base.1, fun k hk => ?_⟩
  · have hk : k = b := hk
    subst hk
    exact hnf hf
  · exact (h.fresh.trans ht (fun k hk hf => by have := hTB k hf; omega)).trans hT (fun k hk e => by have := h.base.1; have e : k = b := e; omega)
  · rcases hF k hk with e | e
    · exact h.base.2 k e
    · exact Nat.le_trans h.fresh.size e
theorem PlSt11.farM (h : PlSt11 B w p b F D P x lo hi) (hm : MapAt numK w nb m) (hf : ¬ F nb) (hB : B.heap.size ≤ nb) (ht : Touch (· = nb) w w') : PlSt11 B w' p b F D P x lo hi :=
  ⟨h.st.farM hm hf ht, ht.blk h.box (fun e => hm.blk_ne h.box e.symm), h.nf, h.fresh.trans ht (fun k hk e => by have e : k = nb := e; omega), h.base⟩
end
end Go.Proofs.YtajdnllkkekmnaaGreat

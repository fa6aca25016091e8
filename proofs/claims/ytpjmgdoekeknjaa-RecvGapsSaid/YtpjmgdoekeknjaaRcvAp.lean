/-
  A receiver to whom messages of one window come, in whatever order, again and again. No program is named but the receiver's plain form.
-/
import Derived.Test.YtpjmgdoekeknjaaRcvD
namespace Go.Proofs.Ytpjmgdoekeknjaa

/-- Behind k calls with messages of n, all those of which C says that they came: a of them are in their order. -/
structure Rv.Came (s0 : Int) (f : Nat → ByteArray) (n : Nat) (C : Nat → Prop) (a k : Nat) (st : Rv.S) : Prop where
  r : st.r = (s0 + a) % 16777216
  an : a ≤ n
  mr : st.mr = (s0 + 64) % 16777216
  inb : st.inbox = (List.range a).map f
  nod : (st.m.map (·.1)).Nodup
  keys : ∀ q ∈ st.m, ∃ i, a < i ∧ i < n ∧ q = ((s0 + (i : Int)) % 16777216, f i)
  came : ∀ i : Nat, i < n → C i → i < a ∨ mget st.m ((s0 + (i : Int)) % 16777216) ≠ none
  len : st.m.length ≤ k
  gaps : st.gaps.length ≤ 8

theorem Rv.dl_came (s0 : Int) (f : Nat → ByteArray) (n : Nat) (hn : n ≤ 64) : ∀ (len a : Nat) (m : List (Int × ByteArray)) (L : List ByteArray), m.length = len → a ≤ n → (m.map (·.1)).Nodup →
    (∀ q ∈ m, ∃ i, a ≤ i ∧ i < n ∧ q = ((s0 + (i : Int)) % 16777216, f i)) →
    ∃ a' m', a ≤ a' ∧ a' ≤ n ∧ Rv.dl m.length ((s0 + (a : Int)) % 16777216) m L = ((s0 + (a' : Int)) % 16777216, m', L ++ (List.range' a (a' - a)).map f) ∧ (m'.map (·.1)).Nodup ∧
      (∀ q ∈ m', ∃ i, a' < i ∧ i < n ∧ q = ((s0 + (i : Int)) % 16777216, f i)) ∧ (∀ i : Nat, mget m ((s0 + (i : Int)) % 16777216) ≠ none → i < n → i < a' ∨ mget m' ((s0 + (i : Int)) % 16777216) ≠ none) ∧ m'.length ≤ m.length := by
  intro len
  induction len with
  | zero =>
    intro a m L hl ha hnd hk
    obtain rfl : m = [] := List.eq_nil_of_length_eq_zero hl
    exact ⟨a, [], Nat.le_refl _, ha, by simp [Rv.dl], hnd, by simp, fun i h => (h rfl).elim, Nat.le_refl _⟩
  | succ len ih =>
    intro a m L hl ha hnd hk
    cases hg : mget m ((s0 + (a : Int)) % 16777216) with
    | none =>
      refine ⟨a, m, Nat.le_refl _, ha, by rw [Rv.dl_none hg]; simp, hnd, fun q hq => ?_, fun i h _ => Or.inr h, Nat.le_refl _⟩
      obtain ⟨i, h1, h2, h3⟩ := hk q hq
      rcases Nat.lt_or_ge a i with h | h
      · exact ⟨i, h, h2, h3⟩
      · obtain rfl : i = a := by omega
        exact absurd (List.mem_map.2 ⟨q, hq, by rw [h3]⟩) (mget_none.1 hg)
    | some v =>
      have hmem : ((s0 + (a : Int)) % 16777216, v) ∈ m := by
        unfold mget at hg
        cases hf : m.find? (fun p => decide (p.1 = (s0 + (a : Int)) % 16777216)) with
        | none => rw [hf] at hg; cases hg
        | some q =>
          rw [hf] at hg
          have h1 := List.find?_some hf
          have h2 := List.mem_of_find?_eq_some hf
          simp only [Option.map_some, Option.some.injEq] at hg
          simp only [decide_eq_true_eq] at h1
          rw [← h1, ← hg]
          exact h2
      obtain ⟨i, h1, h2, h3⟩ := hk _ hmem
      injection h3 with h3 h4
      obtain rfl : i = a := by omega
      subst h4
      have hdl := mdel_len m _ hnd hg
      have hkd : ∀ q ∈ mdel m ((s0 + (i : Int)) % 16777216), ∃ j, i + 1 ≤ j ∧ j < n ∧ q = ((s0 + (j : Int)) % 16777216, f j) := fun q hq => by
        unfold mdel at hq
        obtain ⟨h5, h6⟩ := List.mem_filter.1 hq
        obtain ⟨j, h7, h8, h9⟩ := hk q h5
        refine ⟨j, ?_, h8, h9⟩
        rcases Nat.lt_or_ge i j with h | h
        · omega
        · obtain rfl : j = i := by omega
          rw [h9] at h6
          simp at h6
      have hndd : ((mdel m ((s0 + (i : Int)) % 16777216)).map (·.1)).Nodup := by
        unfold mdel
        exact List.Sublist.nodup (List.Sublist.map _ List.filter_sublist) hnd
      obtain ⟨a', m', q1, q2, q3, q4, q5, q6, q7⟩ := ih (i + 1) (mdel m ((s0 + (i : Int)) % 16777216)) (L ++ [f i]) (by omega) (by omega) hndd hkd
      refine ⟨a', m', by omega, q2, ?_, q4, q5, fun j hj hjn => ?_, by omega⟩
      · rw [Rv.dl_some hnd hg, show ((s0 + (i : Int)) % 16777216 + 1) % 16777216 = (s0 + ((i + 1 : Nat) : Int)) % 16777216 by omega, q3]
        have e : a' - i = (a' - (i + 1)) + 1 := by omega
        rw [e, List.range'_succ]
        simp
      · by_cases hji : j = i
        · subst hji; left; omega
        · refine q6 j ?_ hjn
          have hjn2 : ¬ (s0 + (j : Int)) % 16777216 = (s0 + (i : Int)) % 16777216 := by omega
          rw [mget_mdel, if_neg hjn2]
          exact hj

theorem Rv.Came.new (s0 : Int) (hs : 0 ≤ s0 ∧ s0 < 16777216) (f : Nat → ByteArray) (n : Nat) : Rv.Came s0 f n (fun _ => False) 0 0 (Rv.new s0 64) :=
  ⟨by simp [Rv.new], Nat.zero_le _, by show (s0 + max 1 (min 64 64)) % 16777216 = _; rw [show (max 1 (min 64 64) : Int) = 64 from rfl], rfl, List.Pairwise.nil, by simp [Rv.new], fun _ _ h => h.elim, Nat.le_refl _, by simp [Rv.new]⟩

theorem Rv.Came.data {s0 : Int} {f : Nat → ByteArray} {n a k : Nat} {C : Nat → Prop} {st : Rv.S} (h : Rv.Came s0 f n C a k st) (hn : n ≤ 64) (i : Nat) (hi : i < n) :
    ∃ a' st', a ≤ a' ∧ Rv.data st ((s0 + (i : Int)) % 16777216) (f i) = (st', (List.range' a (a' - a)).map f) ∧ Rv.Came s0 f n (fun j => C j ∨ j = i) a' (k + 1) st' := by
  have e0 : (s0 + (i : Int)) % 16777216 % 16777216 = (s0 + i) % 16777216 := by omega
  have han := h.an
  unfold Rv.data
  rw [e0]
  by_cases ht : Rv.takes st ((s0 + (i : Int)) % 16777216) = true
  · rw [if_pos ht]
    unfold Rv.takes at ht
    simp only [Bool.and_eq_true, decide_eq_true_eq] at ht
    obtain ⟨t1, t2⟩ := ht
    rw [h.r, h.mr] at t2
    have hia : a ≤ i := by omega
    obtain ⟨st1, hst1, m1, r1, b1, g1, mr1⟩ : ∃ st1, Rv.lay st ((s0 + (i : Int)) % 16777216) (f i) = st1 ∧ st1.m = st.m ++ [((s0 + (i : Int)) % 16777216, f i)] ∧ st1.r = st.r ∧ st1.inbox = st.inbox ∧ st1.gaps.length ≤ 8 ∧ st1.mr = st.mr := by
      have hms : mset st.m ((s0 + (i : Int)) % 16777216) (f i) = st.m ++ [((s0 + (i : Int)) % 16777216, f i)] := by
        unfold mset
        rw [if_neg (mget_none.1 t1)]
      refine ⟨_, rfl, ?_, ?_, ?_, ?_, ?_⟩ <;> unfold Rv.lay <;> split <;> try (first | rfl | exact hms | exact h.gaps)
      show (if _ then _ else _ : List (Int × Int)).length ≤ 8
      split
      · rename_i hc
        simp
        have := hc.2
        omega
      · exact h.gaps
    rw [hst1]
    unfold Rv.deliver
    have hnd : (st1.m.map (·.1)).Nodup := by
      rw [m1, List.map_append, List.nodup_append]
      refine ⟨h.nod, by simp, fun x hx y hy => ?_⟩
      simp at hy
      subst hy
      rintro rfl
      exact mget_none.1 t1 hx
    obtain ⟨a', m', q1, q2, q3, q4, q5, q6, q7⟩ := Rv.dl_came s0 f n (by omega) _ a st1.m [] rfl han hnd (fun q hq => by
      rw [m1] at hq
      rcases List.mem_append.1 hq with hq | hq
      · obtain ⟨j, h1, h2, h3⟩ := h.keys q hq
        exact ⟨j, by omega, h2, h3⟩
      · simp at hq
        exact ⟨i, hia, hi, hq⟩)
    rw [r1, h.r, q3]
    simp only [List.nil_append]
    refine ⟨a', _, q1, rfl, ⟨rfl, q2, mr1.trans h.mr, ?_, q4, q5, fun j hjn hj => ?_, ?_, g1⟩⟩
    · show st1.inbox ++ _ = _
      rw [b1, h.inb, ← List.map_append]
      congr 1
      rw [List.range_eq_range', List.range_eq_range', show a' = a + (a' - a) by omega, ← List.range'_append_1]
      simp
    · show j < a' ∨ mget m' _ ≠ none
      rcases hj with hj | rfl
      · rcases h.came j hjn hj with e | e
        · left; omega
        · refine q6 j ?_ hjn
          rw [m1, mget_append]
          cases hgm : mget st.m ((s0 + (j : Int)) % 16777216) with
          | none => exact absurd hgm e
          | some v => simp
      · refine q6 j ?_ hi
        rw [m1, mget_append, t1]
        simp [mget_cons]
    · show m'.length ≤ k + 1
      rw [m1] at q7
      simp at q7
      have := h.len
      omega
  · rw [if_neg ht]
    refine ⟨a, st, Nat.le_refl _, by simp, ⟨h.r, h.an, h.mr, h.inb, h.nod, h.keys, fun j hjn hj => ?_, by have := h.len; omega, h.gaps⟩⟩
    rcases hj with hj | rfl
    · exact h.came j hjn hj
    · unfold Rv.takes at ht
      simp only [Bool.and_eq_true, decide_eq_true_eq, not_and] at ht
      by_cases hm : mget st.m ((s0 + (j : Int)) % 16777216) = none
      · have := ht hm
        rw [h.r, h.mr] at this
        left
        omega
      · exact Or.inr hm

theorem Rv.Came.mono {s0 : Int} {f : Nat → ByteArray} {n a k : Nat} {C C' : Nat → Prop} {st : Rv.S} (h : Rv.Came s0 f n C a k st) (hC : ∀ i, i < n → C' i → C i) : Rv.Came s0 f n C' a k st :=
  ⟨h.r, h.an, h.mr, h.inb, h.nod, h.keys, fun i hi hc => h.came i hi (hC i hi hc), h.len, h.gaps⟩
theorem Rv.Came.all {s0 : Int} {f : Nat → ByteArray} {n a k : Nat} {C : Nat → Prop} {st : Rv.S} (h : Rv.Came s0 f n C a k st) (hn : n ≤ 60) (hC : ∀ i, i < n → C i) : a = n ∧ st.m = [] ∧ st.inbox = (List.range n).map f := by
  have han := h.an
  have : a = n := by
    rcases Nat.lt_or_ge a n with hlt | hge
    · exfalso
      rcases h.came a hlt (hC a hlt) with e | e
      · omega
      · have : (s0 + (a : Int)) % 16777216 ∈ st.m.map (·.1) := Decidable.byContradiction fun hc => e (mget_none.2 hc)
        obtain ⟨q, hq, hq2⟩ := List.mem_map.1 this
        obtain ⟨j, h1, h2, h3⟩ := h.keys q hq
        rw [h3] at hq2
        simp only at hq2
        omega
    · omega
  subst this
  refine ⟨rfl, ?_, h.inb⟩
  cases hm : st.m with
  | nil => rfl
  | cons q m =>
    obtain ⟨j, h1, h2, h3⟩ := h.keys q (by rw [hm]; simp)
    omega
end Go.Proofs.Ytpjmgdoekeknjaa

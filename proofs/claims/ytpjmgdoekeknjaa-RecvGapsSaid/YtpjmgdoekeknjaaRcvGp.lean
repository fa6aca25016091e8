/-
  A receiver whose gaps are asked for behind each message. No program is named but the receiver's plain form.
-/
import Derived.Test.YtpjmgdoekeknjaaRcvAp
import Derived.Test.YtpjmgdoekeknjaaRcvI
namespace Go.Proofs.Ytpjmgdoekeknjaa

/-- Behind k messages, all ahead of number H: those of which C says so came. -/
structure Rv.Gi (s0 : Int) (b : ByteArray) (H : Nat) (C : Nat → Prop) (k : Nat) (st : Rv.S) : Prop where
  came : ∃ a, Rv.Came s0 (fun _ => b) H C a k st
  h : st.h = (s0 + H) % 16777216
  top : H ≤ 64
  win : st.window = 64
  lt : ∀ c, C c → c < H

theorem Rv.data_h (st : Rv.S) (n : Int) (v : ByteArray) : (Rv.data st n v).1.h = if Rv.takes st (n % 16777216) = true then (Rv.lay st (n % 16777216) v).h else st.h := by
  unfold Rv.data; split <;> rfl
theorem Rv.data_gaps (st : Rv.S) (n : Int) (v : ByteArray) : (Rv.data st n v).1.gaps = if Rv.takes st (n % 16777216) = true then (Rv.lay st (n % 16777216) v).gaps else st.gaps := by
  unfold Rv.data; split <;> rfl
theorem Rv.lay_window (st : Rv.S) (n : Int) (v : ByteArray) : (Rv.lay st n v).window = st.window := by
  unfold Rv.lay; split <;> rfl
theorem Rv.data_window (st : Rv.S) (n : Int) (v : ByteArray) : (Rv.data st n v).1.window = st.window := by
  unfold Rv.data; split
  · exact Rv.lay_window _ _ _
  · rfl

section
variable {s0 : Int} {b : ByteArray} {H k : Nat} {C : Nat → Prop} {st st' : Rv.S}
theorem Rv.Gi.new (s0 : Int) (hs : 0 ≤ s0 ∧ s0 < 16777216) (b : ByteArray) : Rv.Gi s0 b 0 (fun _ => False) 0 (Rv.new s0 64) :=
  ⟨⟨0, Rv.Came.new s0 hs _ 0⟩, by show s0 % 16777216 = _; simp, by omega, rfl, fun _ h => h.elim⟩

theorem Rv.Gi.data (h : Rv.Gi s0 b H C k st) (hg : st.gaps = []) (i : Nat) (hi : i < 64) :
    ∃ st' L, Rv.data st ((s0 + (i : Int)) % 16777216) b = (st', L) ∧ Rv.Gi s0 b (max H (i + 1)) (fun j => C j ∨ j = i) (k + 1) st' ∧ (st'.gaps = [] ∨ (st'.gaps = [((s0 + (H : Int)) % 16777216, (s0 + (i : Int)) % 16777216)] ∧ H < i)) := by
  obtain ⟨a, hc⟩ := h.came
  have han := hc.an
  have htop := h.top
  have hc2 : Rv.Came s0 (fun _ => b) (max H (i + 1)) C a k st := ⟨hc.r, by omega, hc.mr, hc.inb, hc.nod, fun q hq => by
    obtain ⟨j, h1, h2, h3⟩ := hc.keys q hq
    exact ⟨j, h1, by omega, h3⟩, fun j _ hj => hc.came j (h.lt j hj) hj, hc.len, hc.gaps⟩
  obtain ⟨a', st', ha, hd, hc'⟩ := hc2.data (by omega) i (by omega)
  have e0 : (s0 + (i : Int)) % 16777216 % 16777216 = (s0 + i) % 16777216 := by omega
  have h1 := Rv.data_h st ((s0 + (i : Int)) % 16777216) b
  have h2 := Rv.data_gaps st ((s0 + (i : Int)) % 16777216) b
  have h3 := Rv.data_window st ((s0 + (i : Int)) % 16777216) b
  rw [hd, e0] at h1 h2
  rw [hd] at h3
  simp only at h1 h2 h3
  have hh : st'.h = (s0 + ((max H (i + 1) : Nat) : Int)) % 16777216 ∧ (st'.gaps = [] ∨ (st'.gaps = [((s0 + (H : Int)) % 16777216, (s0 + (i : Int)) % 16777216)] ∧ H < i)) := by
    by_cases ht : Rv.takes st ((s0 + (i : Int)) % 16777216) = true
    · rw [if_pos ht] at h1 h2
      unfold Rv.takes at ht
      simp only [Bool.and_eq_true, decide_eq_true_eq] at ht
      obtain ⟨t1, t2⟩ := ht
      rw [hc.r, hc.mr] at t2
      have hia : a ≤ i := by omega
      unfold Rv.lay at h1 h2
      rw [hc.r, h.h] at h1 h2
      by_cases hiH : i < H
      · have hlt : ((s0 + (i : Int)) % 16777216 - (s0 + (a : Int)) % 16777216) % 16777216 < ((s0 + (H : Int)) % 16777216 - (s0 + (a : Int)) % 16777216) % 16777216 := by omega
        rw [if_pos hlt] at h1 h2
        simp only at h1 h2
        exact ⟨by rw [show max H (i + 1) = H by omega]; first | exact h1 | exact h1.trans h.h, Or.inl (by rw [h2, hg])⟩
      · have hlt : ¬ ((s0 + (i : Int)) % 16777216 - (s0 + (a : Int)) % 16777216) % 16777216 < ((s0 + (H : Int)) % 16777216 - (s0 + (a : Int)) % 16777216) % 16777216 := by omega
        rw [if_neg hlt] at h1 h2
        simp only [hg, List.length_nil] at h1 h2
        refine ⟨by rw [h1]; omega, ?_⟩
        by_cases hii : i = H
        · subst hii
          left
          rw [h2, if_neg (by simp)]
        · right
          refine ⟨?_, by omega⟩
          rw [h2, if_pos ⟨by omega, by omega⟩]
          rfl
    · rw [if_neg ht] at h1 h2
      unfold Rv.takes at ht
      simp only [Bool.and_eq_true, decide_eq_true_eq, not_and] at ht
      have hiH : i < H := by
        by_cases hm : mget st.m ((s0 + (i : Int)) % 16777216) = none
        · have := ht hm
          rw [hc.r, hc.mr] at this
          omega
        · have : (s0 + (i : Int)) % 16777216 ∈ st.m.map (·.1) := Decidable.byContradiction fun hc => hm (mget_none.2 hc)
          obtain ⟨q, hq, hq2⟩ := List.mem_map.1 this
          obtain ⟨j, j1, j2, j3⟩ := hc.keys q hq
          rw [j3] at hq2
          simp only at hq2
          omega
      exact ⟨by rw [show max H (i + 1) = H by omega]; first | exact h1 | exact h1.trans h.h, Or.inl (by rw [h2, hg])⟩
  exact ⟨st', _, hd, ⟨⟨a', hc'⟩, hh.1, by omega, h3.trans h.win, fun c hcc => by
    rcases hcc with e | e
    · have := h.lt c e; omega
    · omega⟩, hh.2⟩

theorem Rv.Gi.none (h : Rv.Gi s0 b H C k st) : Rv.Gi s0 b H C k { st with gaps := [] } := by
  obtain ⟨a, hc⟩ := h.came
  exact ⟨⟨a, ⟨hc.r, hc.an, hc.mr, hc.inb, hc.nod, hc.keys, hc.came, hc.len, by simp⟩⟩, h.h, h.top, h.win, h.lt⟩
theorem Rv.Gi.renew (h : Rv.Gi s0 b H C k st) : Rv.renew st = st := by
  obtain ⟨a, hc⟩ := h.came
  have han := hc.an
  have htop := h.top
  have hl : st.inbox.length = a := by rw [hc.inb]; simp
  have e : (if (st.r + (st.window - (st.inbox.length : Int)) - st.r) % 16777216 ≤ (st.mr - st.r) % 16777216 then st.mr % 16777216 else (st.r + (st.window - (st.inbox.length : Int))) % 16777216) = st.mr := by
    rw [hl, h.win, hc.r, hc.mr, if_pos (by omega)]
    omega
  unfold Rv.renew
  rw [e]
theorem Rv.Gi.told {H0 i : Nat} {l : List Int} {is : Bool} (h : Rv.Gi s0 b H C k st) (hg : st.gaps = [] ∨ (st.gaps = [((s0 + (H0 : Int)) % 16777216, (s0 + (i : Int)) % 16777216)] ∧ H0 < i)) (hi : i < 64) (ht : Rv.GapTold st l is st') :
    st' = { st with gaps := [] } ∧ (is = true → st.gaps ≠ [] ∧ ∃ u v : Nat, H0 ≤ u ∧ u < v ∧ v ≤ i ∧ l = [(s0 + (u : Int)) % 16777216, (s0 + (v : Int)) % 16777216]) := by
  rcases ht with ⟨h1, h2, h3, h4⟩ | ⟨h1, pre, post, g, x, S, h2, h3, h4, h5, h6, h7⟩
  · exact ⟨h3, fun e => by rw [h1] at e; cases e⟩
  · rcases hg with hg | ⟨hg, hlt⟩
    · rw [hg] at h2
      have := congrArg List.length h2
      simp at this
    · rw [hg] at h2
      cases pre with
      | cons y pre =>
        have := congrArg List.length h2
        simp at this
      | nil =>
        rw [List.nil_append] at h2
        injection h2 with e1 e2
        subst e1 e2
        refine ⟨by rw [h7, h.none.renew], fun _ => ⟨by rw [hg]; simp, ?_⟩⟩
        obtain ⟨a, hc⟩ := h.came
        have han := hc.an
        have htop := h.top
        have hx := h4.1.1 x (by simp)
        have m1 := (h5 x.1).1 ((Sp.mem_cons _ _ _).2 (Or.inl ⟨Int.le_refl _, hx⟩))
        have m2 := (h5 (x.2 - 1)).1 ((Sp.mem_cons _ _ _).2 (Or.inl ⟨by omega, by omega⟩))
        unfold Rv.StillIn at m1 m2
        simp only at m1 m2
        rw [hc.r, h.h] at m1 m2
        obtain ⟨k1, ⟨k2, k3, _⟩, k4, k5⟩ := m1
        obtain ⟨_, ⟨j2, j3, _⟩, j4, j5⟩ := m2
        have hai : a ≤ i := by omega
        refine ⟨(a + x.1).toNat, (a + x.2).toNat, by omega, by omega, by omega, ?_⟩
        rw [h6, hc.r]
        congr 1
        · omega
        · congr 1
          omega
end
end Go.Proofs.Ytpjmgdoekeknjaa

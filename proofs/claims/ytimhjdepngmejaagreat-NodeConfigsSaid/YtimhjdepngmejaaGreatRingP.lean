/-
  A row that is gone round: the plain mathematics. No program is named.
-/
namespace Go.Proofs.YtimhjdepngmejaaGreat

/-- What a call on it may turn. -/
def Foot (g : Nat) (b : Option Nat) (k : Nat) : Prop := k = g ∨ b = some k

theorem wrap_mod (a i L : Nat) (h : a < L) (hi : i ≤ L) : (a + i) % L = if a + i < L then a + i else a + i - L := by
  split
  · exact Nat.mod_eq_of_lt (by assumption)
  · rw [Nat.mod_eq_sub_mod (by omega)]
    exact Nat.mod_eq_of_lt (by omega)

/-- The slice buf, gone round from at on, begins with q. -/
structure Gone {α : Type} (buf : List α) (at_ : Nat) (q : List α) : Prop where
  len : q.length ≤ buf.length
  pos : at_ < buf.length ∨ (buf = [] ∧ at_ = 0)
  get : ∀ i, i < q.length → buf[(at_ + i) % buf.length]? = q[i]?

theorem Gone.nil {α : Type} : Gone ([] : List α) 0 [] := ⟨by simp, .inr ⟨rfl, rfl⟩, fun i h => by simp at h⟩

section
variable {α : Type} {buf q : List α} {a : Nat}

theorem Gone.put (h : Gone buf a q) (hl : q.length < buf.length) (v : α) : Gone (buf.set ((a + q.length) % buf.length) v) a (q ++ [v]) := by
  have hp : a < buf.length := by rcases h.pos with hp | ⟨rfl, _⟩; exact hp; simp at hl
  refine ⟨by simp; omega, .inl (by simpa using hp), fun i hi => ?_⟩
  simp only [List.length_set]
  have hi' : i ≤ q.length := by simp at hi; omega
  rw [wrap_mod a i _ hp (by omega), wrap_mod a q.length _ hp (by omega)]
  by_cases e : i = q.length
  · subst e
    have hlt : (if a + q.length < buf.length then a + q.length else a + q.length - buf.length) < buf.length := by split <;> omega
    simp [hlt]
  · have hlt : i < q.length := by omega
    have hne : (if a + q.length < buf.length then a + q.length else a + q.length - buf.length) ≠ (if a + i < buf.length then a + i else a + i - buf.length) := by
      split <;> split <;> omega
    rw [List.getElem?_set_ne hne, List.getElem?_append_left hlt, ← h.get i hlt, wrap_mod a i _ hp (by omega)]

theorem Gone.first (h : Gone buf a q) (hq : 0 < q.length) : a < buf.length ∧ buf[a]? = q[0]? := by
  have hp : a < buf.length := by
    rcases h.pos with hp | ⟨rfl, _⟩
    · exact hp
    · have := h.len; simp at this; subst this; simp at hq
  have := h.get 0 hq
  rw [Nat.add_zero, Nat.mod_eq_of_lt hp] at this
  exact ⟨hp, this⟩

theorem Gone.take (h : Gone buf a q) (hq : 0 < q.length) (z : α) : Gone (buf.set a z) ((a + 1) % buf.length) q.tail := by
  obtain ⟨hp, _⟩ := h.first hq
  have hw := wrap_mod a 1 buf.length hp (by omega)
  refine ⟨by simp; have := h.len; omega, .inl ?_, fun i hi => ?_⟩
  · simp only [List.length_set]; exact Nat.mod_lt _ (by omega)
  · simp only [List.length_set]
    have hi' : i + 1 < q.length := by simp at hi; omega
    have hl := h.len
    have hlt : (a + 1) % buf.length < buf.length := Nat.mod_lt _ (by omega)
    have e : ((a + 1) % buf.length + i) % buf.length = (a + (i + 1)) % buf.length := by
      rw [Nat.mod_add_mod]; congr 1; omega
    rw [e, wrap_mod a (i + 1) _ hp (by omega)]
    have hne : a ≠ (if a + (i + 1) < buf.length then a + (i + 1) else a + (i + 1) - buf.length) := by split <;> omega
    rw [List.getElem?_set_ne hne, ← wrap_mod a (i + 1) _ hp (by omega), h.get (i + 1) hi']
    cases q with
    | nil => simp at hq
    | cons x q => simp

theorem Gone.whole (q z : List α) (h : 0 < q.length + z.length) : Gone (q ++ z) 0 q := by
  refine ⟨by simp, .inl (by simp; omega), fun i hi => ?_⟩
  rw [Nat.zero_add, Nat.mod_eq_of_lt (by simp; omega), List.getElem?_append_left hi]
end
end Go.Proofs.YtimhjdepngmejaaGreat

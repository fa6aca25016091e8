/-
  A row that is gone round: the plain mathematics. No program is named · Sets of whole numbers as spans: the plain mathematics. No program is named.
-/

namespace Go.Proofs.YtipaobpmojahaaaGreat

/-- What a call on it may turn. -/
def Foot (g : Nat) (b : Option Nat) (k : Nat) : Prop := k = g ∨ b = some k

theorem wrap_mod (a i L : Nat) (h : a < L) (hi : i ≤ L) : (a + i) % L = if a + i < L then a + i else a + i - L := by
  split
  · exact Nat.mod_eq_of_lt (by assumption)
  · rw [Nat.mod_eq_sub_mod (by omega)]
    exact Nat.mod_eq_of_lt (by omega)

/-- The slice buf, gone round from at on, begins with q. -/
structure Gone {α : Type} (buf : List α) (at_ : Nat) (q : List α) : Prop where
  len : q.length ≤ buf.length
  pos : at_ < buf.length ∨ (buf = [] ∧ at_ = 0)
  get : ∀ i, i < q.length → buf[(at_ + i) % buf.length]? = q[i]?

theorem Gone.nil {α : Type} : Gone ([] : List α) 0 [] := ⟨by simp, .inr ⟨rfl, rfl⟩, fun i h => by simp at h⟩

section
variable {α : Type} {buf q : List α} {a : Nat}

theorem Gone.first (h : Gone buf a q) (hq : 0 < q.length) : a < buf.length ∧ buf[a]? = q[0]? := by
  have hp : a < buf.length := by
    rcases h.pos with hp | ⟨rfl, _⟩
    · exact hp
    · have := h.len; simp at this; subst this; simp at hq
  have := h.get 0 hq
  rw [Nat.add_zero, Nat.mod_eq_of_lt hp] at this
  exact ⟨hp, this⟩

theorem Gone.take (h : Gone buf a q) (hq : 0 < q.length) (z : α) : Gone (buf.set a z) ((a + 1) % buf.length) q.tail := by
  obtain ⟨hp, _⟩ := h.first hq
  have hw := wrap_mod a 1 buf.length hp (by omega)
  refine ⟨by simp; have := h.len; omega, .inl ?_, fun i hi => ?_⟩
  · simp only [List.length_set]; exact Nat.mod_lt _ (by omega)
  · simp only [List.length_set]
    have hi' : i + 1 < q.length := by simp at hi; omega
    have hl := h.len
    have hlt : (a + 1) % buf.length < buf.length := Nat.mod_lt _ (by omega)
    have e : ((a + 1) % buf.length + i) % buf.length = (a + (i + 1)) % buf.length := by
      rw [Nat.mod_add_mod]; congr 1; omega
    rw [e, wrap_mod a (i + 1) _ hp (by omega)]
    have hne : a ≠ (if a + (i + 1) < buf.length then a + (i + 1) else a + (i + 1) - buf.length) := by split <;> omega
    rw [List.getElem?_set_ne hne, ← wrap_mod a (i + 1) _ hp (by omega), h.get (i + 1) hi']
    cases q with
    | nil => simp at hq
    | cons x q => simp

end
namespace Sp

/-- One span more, which begins no earlier than any. -/
def mergeStep (out : List (Int × Int)) (x : Int × Int) : List (Int × Int) :=
  match out.getLast? with
  | some y => if x.1 ≤ y.2 then out.dropLast ++ [(y.1, max y.2 x.2)] else out ++ [x]
  | none => [x]
/-- The numbers of a span, one by one. -/
def run (x : Int × Int) : List Int := (List.range (x.2 - x.1).toNat).map fun i : Nat => x.1 + i
def nums (s : List (Int × Int)) : List Int := s.flatMap run
end Sp
end Go.Proofs.YtipaobpmojahaaaGreat

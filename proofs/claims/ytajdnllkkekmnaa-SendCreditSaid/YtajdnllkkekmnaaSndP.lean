/-
  Plain laws: a sender whose messages are all alike, with credit. No walk.
-/
import Derived.Test.YtajdnllkkekmnaaSnd
namespace Go.Proofs.Ytajdnllkkekmnaa

theorem mset_len_new {κ β : Type} [DecidableEq κ] {m : List (κ × β)} {k : κ} (h : k ∉ m.map (·.1)) (v : β) : (mset m k v).length = m.length + 1 ∧ mset m k v = m ++ [(k, v)] := by
  unfold mset
  rw [if_neg h]
  exact ⟨by simp, rfl⟩

namespace Sd
/-- k messages wait, none went out. -/
def full (start : Int) (c : ByteArray) (k : Nat) : S := { new start 256 256 with q := List.replicate k c }
theorem full_put (start : Int) (c : ByteArray) (k : Nat) (hk : k < 256) : (full start c k).q.length < (full start c k).most ∧ put (full start c k) c = full start c (k + 1) := by
  have h1 : (full start c k).q.length = k := by simp [full]
  have h2 : (full start c k).most = 256 := by show (max 1 (min (256 : Int) 256)).toNat = 256; decide
  refine ⟨by omega, ?_⟩
  unfold put
  rw [if_pos (by omega)]
  unfold full
  simp only [List.replicate_succ']

/-- As many as next went out, with credit for msv; all that wait are alike. -/
structure Cr (start : Int) (c : ByteArray) (next msv : Nat) (st : S) : Prop where
  a : st.a = start % 16777216
  s : st.s = (start + next) % 16777216
  ms : st.ms = (start + msv) % 16777216
  units : st.units = next
  q : st.q = List.replicate (256 - next) c
  again : st.again = []
  len : st.m.length = next
  keys : ∀ p ∈ st.m, ∃ j : Nat, j < next ∧ p.1 = (start + j) % 16777216
  le : next ≤ msv
  le2 : msv ≤ 255

variable {start : Int} {c : ByteArray} {next msv : Nat} {st : S}
theorem Cr.full (start : Int) (c : ByteArray) : Cr start c 0 0 (full (start % 16777216) c 256) :=
  ⟨by show start % 16777216 % 16777216 = _; omega, by show start % 16777216 % 16777216 = _; omega, by show start % 16777216 % 16777216 = _; omega, rfl, rfl, rfl, rfl, (fun p h => by cases h), by omega, by omega⟩
theorem Cr.opn (h : Cr start c next msv st) (x : Nat) (hx : x ≤ 255) : Cr start c next (max msv x) (opn st ((start % 16777216 + x) % 16777216)) := by
  have h1 : ((start % 16777216 + (x : Int)) % 16777216 - st.a) % 16777216 = x := by rw [h.a]; omega
  have h2 : (st.ms - st.a) % 16777216 = msv := by rw [h.a, h.ms]; have := h.le2; omega
  unfold Sd.opn
  rw [h1, h2]
  by_cases hc : msv ≤ x
  · rw [if_pos ⟨by omega, by omega⟩]
    exact ⟨h.a, h.s, by show _ % _ = _; rw [show max msv x = x by omega]; omega, h.units, h.q, h.again, h.len, h.keys, by have := h.le; omega, by omega⟩
  · rw [if_neg (fun hh => hc (by omega)), show max msv x = msv by omega]
    exact h
theorem Cr.stop (h : Cr start c next msv st) (he : next = msv) : st.s = st.ms := by rw [h.s, h.ms, he]
theorem Cr.goes (h : Cr start c next msv st) (hl : next < msv) : st.s ≠ st.ms := by
  rw [h.s, h.ms]
  have := h.le2
  omega
theorem Cr.q_cons (h : Cr start c next msv st) : st.q = c :: List.replicate (255 - next) c := by
  have h1 := h.le
  have h2 := h.le2
  rw [h.q, show 256 - next = (255 - next) + 1 by omega, List.replicate_succ]
theorem Cr.goOn (h : Cr start c next msv st) (hl : next < msv) : Cr start c (next + 1) msv (new1 st c (List.replicate (255 - next) c)) := by
  have h2 := h.le2
  have hk : st.s ∉ st.m.map (·.1) := fun hm => by
    obtain ⟨p, hp, e⟩ := List.mem_map.1 hm
    obtain ⟨j, hj, e2⟩ := h.keys p hp
    rw [e2, h.s] at e
    omega
  obtain ⟨l1, l2⟩ := mset_len_new hk (c, st.ps)
  refine ⟨h.a, ?_, h.ms, ?_, ?_, h.again, ?_, ?_, by omega, h.le2⟩
  · show (st.s + 1) % 16777216 = _
    rw [h.s]
    omega
  · show st.units + 1 = _
    rw [h.units]
    omega
  · show List.replicate (255 - next) c = _
    rw [show 256 - (next + 1) = 255 - next by omega]
  · show (mset st.m st.s (c, st.ps)).length = _
    rw [l1, h.len]
  · show ∀ p ∈ mset st.m st.s (c, st.ps), _
    rw [l2]
    intro p hp
    rcases List.mem_append.1 hp with hp | hp
    · obtain ⟨j, hj, e⟩ := h.keys p hp
      exact ⟨j, by omega, e⟩
    · rw [List.mem_singleton.1 hp]
      exact ⟨next, by omega, h.s⟩
end Sd
end Go.Proofs.Ytajdnllkkekmnaa
